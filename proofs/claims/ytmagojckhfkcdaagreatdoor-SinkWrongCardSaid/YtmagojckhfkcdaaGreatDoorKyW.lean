/- Chapter 38: the law SinkWrong: its walk. -/
import Derived.Test.YtmagojckhfkcdaaGreatDoorKyP
import Derived.Test.YtmagojckhfkcdaaGreatDoorKqC
import Derived.Test.YtmagojckhfkcdaaGreatDoorKwW
import Derived.Test.YtmagojckhfkcdaaGreatDoorKwR
import Derived.Test.YtmagojckhfkcdaaGreatDoorKiI
import Derived.Test.YtmagojckhfkcdaaGreatDoorKwX
import Derived.Test.YtmagojckhfkcdaaGreatDoorKwY
namespace Go.Proofs.YtmagojckhfkcdaaGreatDoor.Sk
open Go Go.RowKit
theorem RdGw {w0 w : World} {p mb : Nat} {a : Option Addr} {l : List Sm} (h : RdF w0 a (sFlat l)) (hb : Below w0.heap.size w0 w) (hp : w0.heap.size ≤ p) (hm : w0.heap.size ≤ mb) : RdG w p mb a l := by
  intro hl
  obtain ⟨b, off, e, h1, hc⟩ := h.below hb (by cases l with | nil => exact absurd rfl hl | cons x r => simp [sFlat, smB])
  obtain ⟨b', off', e', h1', _⟩ := h (by cases l with | nil => exact absurd rfl hl | cons x r => simp [sFlat, smB])
  rw [e] at e'
  cases e'
  refine ⟨b, off, e, h1, by omega, fun i x hi j u hu => ?_⟩
  rw [Nat.add_assoc]
  exact hc _ _ (flat_at smB 4 (fun _ => rfl) hi hu)
/-- a sink, its items, and the row of what was appended -/
structure FsW (wq w3 : World) (p b m n : Nat) (v : Value) (lS lO : List SI) (out : Value) (its : List It) (wx : World) : Prop where
  fs : FillS w3 p b m n v lS lO out wx
  mS : lS.map SI.it = its
  bel : Below wq.heap.size wq wx
theorem FsW.below {wq w3 wx w' : World} {p b m n : Nat} {v : Value} {lS lO : List SI} {out : Value} {its : List It} (h : FsW wq w3 p b m n v lS lO out its wx) (hb : Below wx.heap.size wx w') : FsW wq w3 p b m n v lS lO out its w' :=
  ⟨h.fs.below hb, h.mS, Bthen h.bel hb⟩
/-- the same, and the item that is not right, in its boxes -/
structure BdAt (wq w3 : World) (p b m n : Nat) (v : Value) (lS lO : List SI) (out : Value) (its : List It) (bY g : Nat) (x : SI) (wx : World) : Prop where
  fw : FsW wq w3 p b m n v lS lO out its wx
  ent : wx.heap[bY]? = some (.cells #[.slice x.la x.e.lab.length x.lc, .bool x.e.mark, .int .u64 x.e.bits, .bool x.e.st, .int .i64 x.e.time, .int .i64 x.e.stamp] 34 (0, 0))
  itm : wx.heap[g]? = some (.cells #[.string x.key, .slice x.la x.e.lab.length x.lc, .bool x.e.mark, .int .u64 x.e.bits, .bool x.e.st, .int .i64 x.e.time, .int .i64 x.e.stamp] 40 (0, 0))
  vg : ∀ k, v.ownBlock = some k → k ≠ g
  ll : Ll wx x.la x.lc x.e.lab
section
variable {wq w3 wx w' : World} {p b m n n' : Nat} {v v' : Value} {lS lS' lO : List SI} {out : Value} {its : List It} {bY g : Nat} {x : SI}
theorem BdAt.below (h : BdAt wq w3 p b m n v lS lO out its bY g x wx) (hb : Below wx.heap.size wx w') : BdAt wq w3 p b m n v lS lO out its bY g x w' :=
  ⟨h.fw.below hb, (hb.block _ (isT_of h.ent).lt).trans h.ent, (hb.block _ (isT_of h.itm).lt).trans h.itm, h.vg, h.ll.below hb (Nat.le_refl _)⟩
theorem BdAt.app (h : BdAt wq w3 p b m n v lS lO out its bY g x wx) (hq : wq.heap.size ≤ w3.heap.size) (hp : wq.heap.size ≤ p) (hm : wq.heap.size ≤ m) (hS : SinkAt w' p b m n' v' lS') (hi : lS'.map SI.it = its) (hf : Fr (fun k => k = p ∨ k = m ∨ v.ownBlock = some k) wx w') (hk : ∀ k, v'.ownBlock = some k → v.ownBlock = some k ∨ wx.heap.size ≤ k) :
    BdAt wq w3 p b m n' v' lS' lO out its bY g x w' := by
  have hg := (isT_of h.itm).lt
  refine ⟨⟨h.fw.fs.app hS hf hk, hi, h.fw.bel.trans (hf.below (fun k hk' e => ?_) h.fw.bel.size)⟩, (hf.block _ (isT_of h.ent).lt (fun e => ?_)).trans h.ent, (hf.block _ hg (fun e => ?_)).trans h.itm, fun k e => ?_, h.fw.fs.sink.ll hf h.ll⟩
  · rcases e with e | e | e
    · omega
    · omega
    · have := h.fw.fs.hi k e; omega
  · rcases e with e | e | e
    · exact (isT_of h.ent).ne (isT_of h.fw.fs.sink.cells) (by decide) e
    · exact h.fw.fs.sink.notMap (isT_of h.ent) e
    · exact (isT_of h.ent).ne (own_isT h.fw.fs.sink.own e) (by decide) rfl
  · rcases e with e | e | e
    · exact (isT_of h.itm).ne (isT_of h.fw.fs.sink.cells) (by decide) e
    · exact h.fw.fs.sink.notMap (isT_of h.itm) e
    · exact h.vg _ e rfl
  · rcases hk k e with e1 | e1
    · exact h.vg k e1
    · omega
end
theorem err_bad {its : List It} {x : It} (h : itemRight (d x.key) x.e = false) : appErr its [x] = 380 := by
  unfold appErr
  simp [h]
theorem keySw (x : Sm) : (d (keyS x)).length ≤ 100 := by
  unfold keyS keyN
  split
  · decide
  · split <;> decide
theorem badK_le (x : Sm) (q : Int) : (badK x q).size ≤ 1100000 := by
  have := keySw x
  unfold badK
  split
  · decide
  · split
    · rw [ByteArray.size_append]
      have h2 : (keyS x).size = (d (keyS x)).length := by simp
      have h3 : (⟨#[255]⟩ : ByteArray).size = 1 := rfl
      omega
    · have h2 : (keyS x).size = (d (keyS x)).length := by simp
      omega
theorem serN_one (n : Int) : (serN n).length ≤ 1 ∧ ∀ y ∈ serN n, y.2.size ≤ 1 := by
  unfold serN
  split
  · decide
  · split <;> decide
theorem badE_lab (x : Sm) (q n : Int) : (badE x q n).lab.length ≤ 1 ∧ ∀ y ∈ (badE x q n).lab, y.2.size ≤ 1 := by
  have h := serN_one (x.ser % 3)
  unfold badE
  dsimp only
  repeat' split
  all_goals first | exact h | exact (show ([(xB, (⟨#[]⟩ : ByteArray))] : List Lab).length ≤ 1 ∧ ∀ y ∈ ([(xB, (⟨#[]⟩ : ByteArray))] : List Lab), y.2.size ≤ 1 by decide)
/-- behind the switch: the key, and the entry in its box -/
def WCut (w6 : World) (bY : Nat) (x : Sm) (q n : Int) (s : Value) (wx : World) : Prop :=
  s = .string (badK x q) ∧ (∃ a c, wx.heap[bY]? = some (.cells #[.slice a (badE x q n).lab.length c, .bool (badE x q n).mark, .int .u64 (badE x q n).bits, .bool (badE x q n).st, .int .i64 (badE x q n).time, .int .i64 (badE x q n).stamp] 34 (0, 0)) ∧ Ll wx a c (badE x q n).lab) ∧ Below bY w6 wx
theorem RdF.of_ownW {w : World} {base n cap k : Nat} {a : Option Addr} {xs : List Value} (h : w.ownsRow base 40 7 (.slice a n cap) k xs) : RdF w a xs := by
  intro hx
  obtain ⟨g, e, _, ht, hc⟩ := own_at0 h hx
  exact ⟨g, 0, e, ht.lt, fun j u hu => by rw [Nat.zero_add]; exact hc j u hu⟩
theorem at_world {f : FuncId} {args : Array Value} {w : World} {Q : Ending → World → Prop} (h : ∀ W, W = w → Calls Tryz.prog f args W Q) : Calls Tryz.prog f args w Q := h w rfl
theorem at_slice {f : FuncId} {x y : Value} {n c v : Nat} {w : World} {Q : Ending → World → Prop} (h : ∀ u W, u = v → W = w → Calls Tryz.prog f #[x, y, .slice (some ⟨u, 0, none⟩) n c] W Q) : Calls Tryz.prog f #[x, y, .slice (some ⟨v, 0, none⟩) n c] w Q := h v w rfl rfl
/-- the blocks from lo on hold the item -/
def AllX (x : SI) (lo hi : Nat) (w : World) : Prop := ∀ j, lo ≤ j → j < hi → w.heap[j]? = some (.cells (iB x).toArray 40 (0, 0))
def PB (x : SI) (w0 w : World) : Prop := AllX x w0.heap.size w.heap.size w ∧ Below w0.heap.size w0 w
theorem PB.nil (x : SI) (w : World) : PB x w w := ⟨fun j h1 h2 => by omega, Below.refl _ _⟩
theorem PB.drew {x : SI} {w0 w : World} (h : PB x w0 w) : PB x w0 w.drew := ⟨h.1, h.2.drew⟩
theorem PB.alloc {x : SI} {w0 w : World} (h : PB x w0 w) : PB x w0 (w.alloc (.cells (iB x).toArray 40)) := by
  refine ⟨fun j h1 h2 => ?_, h.2.alloc h.2.size _⟩
  have h3 : (w.alloc (.cells (iB x).toArray 40)).heap.size = w.heap.size + 1 := by simp
  rcases Nat.lt_or_ge j w.heap.size with h4 | h4
  · exact (Below.heap_alloc w _ j h4).trans (h.1 j h1 h4)
  · obtain rfl : j = w.heap.size := by omega
    exact heap_alloc_new w _
theorem AllX.below {x : SI} {lo hi : Nat} {w w' : World} (h : AllX x lo hi w) (hb : Below w.heap.size w w') (hh : hi ≤ w.heap.size) : AllX x lo hi w' := fun j h1 h2 => (hb.block j (by omega)).trans (h j h1 h2)
theorem news_blk {x : SI} {w : World} {g : Nat} (h : w.heap[g]? = some (.cells (iB x).toArray 40 (0, 0))) : ∀ j u, (iB x)[j]? = some u → w.cell? ((⟨g, 0, none⟩ : Addr).add j) = some u := fun j u hu => insI_cell h (by rw [Nat.zero_add]; exact hu)
theorem iFlat_one {l : List SI} : ∀ u ∈ iFlat l, u.oneCell' = true := by
  intro u hu
  unfold iFlat iB at hu
  simp only [List.mem_flatMap, List.mem_cons, List.not_mem_nil, or_false] at hu
  obtain ⟨y, _, hu⟩ := hu
  rcases hu with rfl | rfl | rfl | rfl | rfl | rfl | rfl <;> rfl
theorem iB_one {x : SI} : ∀ u ∈ iB x, u.oneCell' = true := fun u hu => iFlat_one (l := [x]) u (by simpa [iFlat] using hu)
/-- a row with one more item in it, and one at its end -/
theorem row_bad (l : List SI) (k : Nat) (x : SI) : iFlat (l.take k) ++ (iB x ++ iFlat (l.drop k)) ++ iB x = iFlat (l.take k ++ x :: l.drop k ++ [x]) := by
  simp [iFlat, List.flatMap_append]
theorem bad_mem {l : List SI} {k : Nat} {x y : SI} (h : y ∈ l.take k ++ x :: l.drop k ++ [x]) : y ∈ l ∨ y = x := by
  simp only [List.mem_append, List.mem_cons, List.not_mem_nil, or_false] at h
  rcases h with (h | h | h) | h
  · exact .inl (List.mem_of_mem_take h)
  · exact .inr h
  · exact .inl (List.mem_of_mem_drop h)
  · exact .inr h
theorem bad_len (l : List SI) (k : Nat) {x : SI} (hk : k ≤ l.length) : (l.take k ++ x :: l.drop k ++ [x]).length = l.length + 1 + 1 := by
  rw [List.length_append, List.length_append, List.length_take, List.length_cons, List.length_drop, List.length_singleton]
  omega
theorem bad_chk {l : List SI} {its : List It} (h : Sound its) (hm : l.map SI.it = its) {k : Nat} (hk : k ≤ l.length) {x : SI} (hx : itemRight (d x.key) x.e = false) : ChkPost ((l.take k ++ x :: l.drop k ++ [x]).map SI.it) = fun w e w' => e = .returned (.tuple #[.int .i64 k, .int .i64 380]) ∧ Below w.heap.size w w' := by
  have hl : k ≤ its.length := by rw [← hm, List.length_map]; exact hk
  have e : (l.take k ++ x :: l.drop k ++ [x]).map SI.it = its.take k ++ x.it :: (its.drop k ++ [x.it]) := by
    rw [← hm, List.map_append, List.map_append, List.map_take, List.map_cons, List.map_drop]
    simp
  rw [e]
  unfold ChkPost
  rw [chk_bad h hl (its.drop k ++ [x.it]) (x := x.it) hx]
theorem isOk_bad {l m : List SI} {x : SI} (h : ∀ y ∈ l, y.key.size ≤ 1100000 ∧ labRight y.e.lab = true ∧ y.e.lab.length ≤ 1000000000) (hk : x.key.size ≤ 1100000) (hx : x.e.lab.length ≤ 1 ∧ ∀ y ∈ x.e.lab, y.2.size ≤ 1) (hm : ∀ y ∈ m, y ∈ l ∨ y = x) : IsOk m := by
  refine ⟨fun y hy => ?_, fun y hy => ?_, fun y hy z hz => ?_⟩
  · rcases hm y hy with h1 | rfl
    · exact (h y h1).1
    · exact hk
  · rcases hm y hy with h1 | rfl
    · exact (h y h1).2.2
    · have := hx.1; omega
  · rcases hm y hy with h1 | rfl
    · have h2 := ((labRight_ok (h y h1).2.1).2 z hz).2
      simp at h2
      omega
    · have := hx.2 z hz; omega
set_option maxRecDepth 100000 in
set_option maxHeartbeats 8000000 in
theorem wrong_law (a : Option Addr) (cap : Nat) (l : List Sm) (x : Sm) (at' way n : Int) (w : World) (hE : Ev w) (hES : Es w) (hl : RdF w a (sFlat (l.take 40))) (hok : ∀ x ∈ l, SmOk x) (hcap : l.length ≤ cap) (hc2 : cap ≤ maxLen)
    (hx : SmOk x) (a0 : 0 ≤ at') (a1 : at' ≤ 255) (y0 : 0 ≤ way) (_y1 : way ≤ 255) (n0 : -9223372036854775808 ≤ n) (n1 : n ≤ 9223372036854775807) :
    Calls Tryz.prog 3 #[.slice a l.length cap, .agg #[.int .u8 x.key, .int .u8 x.ser, .int .u8 x.kind, .int .u8 x.more], .int .u8 at', .int .u8 way, .int .i64 n] w fun e w' => e = .returned (.bool true) ∧ Below w.heap.size w w' := by
  have HR := Lib.hid (And.intro hE (And.intro hl (And.intro hok (And.intro hcap hc2))))
  have HES := Lib.hid hES
  clear hE hl hok hcap hc2 hES
  go_enter Tryz.func3, Tryz.ntmps3
  go_wp2_with fail
  obtain ⟨wq, hwq⟩ : ∃ q, q = w.alloc (.cells #[.int .u8 x.key, .int .u8 x.ser, .int .u8 x.kind, .int .u8 x.more] 24) := ⟨_, rfl⟩
  have hbq : Below w.heap.size w wq := by rw [hwq]; exact (Below.refl _ _).alloc (Nat.le_refl _) _
  have hxq : wq.heap[w.heap.size]? = some (.cells #[.int .u8 x.key, .int .u8 x.ser, .int .u8 x.kind, .int .u8 x.more] 24 (0, 0)) := by rw [hwq]; exact heap_alloc_new w _
  rw [← hwq]
  obtain ⟨bx, hbx⟩ : ∃ q, q = w.heap.size := ⟨_, rfl⟩
  rw [← hbx] at hxq ⊢
  have HQ := Lib.hid (And.intro hbq hxq)
  have HES2 := Lib.hid (HES.out.below hbq)
  have HR := Lib.hid (And.intro (HR.out.1.below hbq) (And.intro (HR.out.2.1.below hbq) HR.out.2.2))
  clear hwq hbx hbq hxq
  go_at_call 4
  refine (awake_calls wq HR.out.1).mono ?_
  rintro e w1 ⟨rfl, hb1⟩
  have HB1 := Lib.hid hb1
  have hs1 := hb1.size
  clear hb1
  go_wp2_with fail
  go_at_call 5
  refine (new_calls w1).mono ?_
  rintro e w3 ⟨rfl, hS2, hb2, hz2⟩
  have HB3 := Lib.hid (Bthen HB1.out hb2)
  have hcall := fill_callsG a cap l w3 hS2 (HR.out.1.below HB3.out).kv (RdGw (by simpa using HR.out.2.1) HB3.out (by omega) (by omega)) HR.out.2.2.1 HR.out.2.2.2.1 HR.out.2.2.2.2
  have HC := Lib.hid hcall
  clear hb2 hS2 hcall hz2
  go_wp2_with fail
  go_at_call 6
  refine HC.out.mono ?_
  rintro e w4 ⟨out, rfl, n4, v4, lS, lO, hF, hmS, hmO⟩
  obtain ⟨aO, cO, rfl⟩ := own_form hF.own
  obtain ⟨its, hits⟩ : ∃ its, its = fillS [] 5 (l.take 40) := ⟨_, rfl⟩
  rw [← hits] at hmS hmO
  have hsnd : Sound its := by rw [hits]; exact fillS_sound _ _ _ Sound.nil
  have hiln : its.length ≤ 40 := by
    have := fillS_len (l.take 40) [] 5
    rw [← hits, List.length_take] at this
    simp at this
    omega
  have hsm : ∀ y ∈ its, y.key.size ≤ 1100000 ∧ labRight y.e.lab = true ∧ y.e.lab.length ≤ 1000000000 := fun y hy => by
    have h1 := (fillS_small (l := l.take 40) (st := 5) y (hits ▸ hy)).1
    have h2 := right_lab (List.all_eq_true.1 hsnd.right y hy)
    refine ⟨?_, h2, by have := (labRight_ok h2).1; omega⟩
    rcases h1 with e | e | e <;> rw [e] <;> decide
  have hser : ∀ y ∈ its, y.e.lab = serN 2 ∨ y.e.lab = serN 0 ∨ y.e.lab = serN 1 := fun y hy => (fillS_small (l := l.take 40) (st := 5) y (hits ▸ hy)).2
  have hkeys : ∀ y ∈ its, y.key = kJ ∨ y.key = kJ2 ∨ y.key = kK1 := fun y hy => (fillS_small (l := l.take 40) (st := 5) y (hits ▸ hy)).1
  have HST : Hid (∀ y ∈ its, y.e.stamp < 2000) := Lib.hid (fun y hy => by
    rw [hits] at hy
    rcases fillS_mem _ _ _ y hy with h | ⟨z, _, st', rfl, _, h⟩
    · cases h
    · rw [List.length_take] at h
      show st' < 2000
      omega)
  obtain ⟨p2, hp2⟩ : ∃ p2, p2 = w1.heap.size + 1 := ⟨_, rfl⟩
  obtain ⟨b2, hb2⟩ : ∃ b2, b2 = w1.heap.size + 2 := ⟨_, rfl⟩
  obtain ⟨m2, hm2⟩ : ∃ m2, m2 = w1.heap.size := ⟨_, rfl⟩
  rw [← hp2, ← hb2, ← hm2] at hF
  rw [← hp2]
  have hRS : FsW wq w3 p2 b2 m2 n4 v4 lS lO (.slice aO lO.length cO) its w4 := ⟨hF, hmS, HB3.out.trans (hF.fr.below (B := wq.heap.size) (fun k hk e => by omega) HB3.out.size)⟩
  have HI := Lib.hid (And.intro hsnd (And.intro hsm (And.intro hmO (And.intro hser hkeys))))
  have HT4 := Lib.hid hRS
  have HQ3 : Hid (wq.heap.size ≤ w3.heap.size ∧ wq.heap.size ≤ p2 ∧ wq.heap.size ≤ m2) := Lib.hid ⟨HB3.out.size, by omega, by omega⟩
  have HB4 : Hid (wq.heap.size ≤ w4.heap.size) := Lib.hid hRS.bel.size
  have hlO1 : lO.length ≤ its.length := by rw [← hmO, List.length_map]; exact Nat.le_refl _
  have hlO2 : its.length ≤ lO.length := by rw [← hmO, List.length_map]; exact Nat.le_refl _
  clear hRS hsnd hsm hmO hits hmS hF HC hp2 hb2 hm2 HB1 HB3 hs1 hser hkeys
  have hx4 := (HT4.out.bel.block bx (isT_of HQ.out.2).lt).trans HQ.out.2
  have c0 := block_cell hx4 0 _ rfl
  have c1 := block_cell hx4 1 _ rfl
  have c2 := block_cell hx4 2 _ rfl
  have c3 := block_cell hx4 3 _ rfl
  clear hx4
  go_wp2_with fail
  go_at_call 7
  refine (entry_calls x hx 1000 _).mono ?_
  rintro e w5 ⟨aY, cY, rfl, hlY, hb5⟩
  go_upto_region 7 with fail
  obtain ⟨eY, heY⟩ : ∃ q, q = entS x 1000 := ⟨_, rfl⟩
  rw [← heY] at hlY ⊢
  obtain ⟨kY, hkY⟩ : ∃ q, q = keyS x := ⟨_, rfl⟩
  rw [← hkY]
  obtain ⟨w6, hw6⟩ : ∃ q, q = w5.alloc (.cells #[.slice aY eY.lab.length cY, .bool eY.mark, .int .u64 eY.bits, .bool eY.st, .int .i64 eY.time, .int .i64 eY.stamp] 34) := ⟨_, rfl⟩
  obtain ⟨bY, hbY⟩ : ∃ q, q = w5.heap.size := ⟨_, rfl⟩
  have hb6 : Below w5.heap.size w5 w6 := by rw [hw6]; exact (Below.refl _ _).alloc (Nat.le_refl _) _
  have hy6 : w6.heap[bY]? = some (.cells #[.slice aY eY.lab.length cY, .bool eY.mark, .int .u64 eY.bits, .bool eY.st, .int .i64 eY.time, .int .i64 eY.stamp] 34 (0, 0)) := by rw [hw6, hbY]; exact heap_alloc_new w5 _
  rw [← hw6, ← hbY]
  have H6 := Lib.hid (And.intro hy6 (And.intro (show ∀ wx, Below bY w6 wx → Ll wx aY cY eY.lab from fun wx hb => hlY.below ((hb6.mono (Nat.le_of_eq hbY)).trans hb) (Nat.le_of_eq hbY.symm)) (And.intro heY (And.intro hkY (show bY + 1 = w6.heap.size by rw [hw6, hbY]; simp)))))
  have HT5 := Lib.hid (And.intro (HT4.out.below hb5) (And.intro hb6 hbY))
  clear hw6 hb6 hy6 hlY hb5 heY hkY hbY HT4 c0 c1 c2 c3
  have hmod : way.tmod 8 = way % 8 := Int.tmod_eq_emod_of_nonneg y0
  go_cut [48] (fun s48 wx => s48 = .int .u8 (way % 8) ∧ w6 = wx)
  case first =>
    go_wp2_with fail
    go_meet
    exact ⟨rfl, rfl⟩
  case rest =>
  obtain ⟨rfl, rfl⟩ := hcut
  apply_assumption
  go_cut [13] (fun s13 wx => WCut w6 bY x (way % 8) n s13 wx)
  case first =>
    as_aux_lemma =>
      have c0 := block_cell H6.out.1 0 _ rfl
      have c1 := block_cell H6.out.1 1 _ rfl
      have c2 := block_cell H6.out.1 2 _ rfl
      have c3 := block_cell H6.out.1 3 _ rfl
      have c4 := block_cell H6.out.1 4 _ rfl
      have c5 := block_cell H6.out.1 5 _ rfl
      have hf : ∀ j, w6.frozen? ⟨bY, j, none⟩ = false := fun j => by simp [World.frozen?, H6.out.1]
      have f0 := hf 0
      have f1 := hf 1
      have f2 := hf 2
      have f3 := hf 3
      have f4 := hf 4
      have f5 := hf 5
      clear hf
      have hks : kY.size ≤ 1100000 := by rw [H6.out.2.2.2.1]; exact keyS_le _
      have hB : Below bY w6 w6 := Below.refl _ _
      rcases (show way % 8 = 0 ∨ way % 8 = 1 ∨ way % 8 = 2 ∨ way % 8 = 3 ∨ way % 8 = 4 ∨ way % 8 = 5 ∨ way % 8 = 6 ∨ way % 8 = 7 by omega) with hq | hq | hq | hq | hq | hq | hq | hq
      · go_wp2_with fail
        go_meet
        rw [hq]
        have hb := hB.setCell (p := ⟨bY, 5, none⟩) (Nat.le_refl _) (.int .i64 (min n (-1)))
        refine ⟨by rw [H6.out.2.2.2.1]; rfl, ⟨aY, cY, ?_, ?_⟩, hb⟩
        · unfold World.setCell
          simp only [Array.getElem?_modify, H6.out.1]
          rw [H6.out.2.2.1]
          rfl
        · have := H6.out.2.1 _ hb
          rw [H6.out.2.2.1] at this
          exact this
      · go_wp2_with fail
        go_meet
        rw [hq]
        have hb := (hB).setCell (p := ⟨bY, 5, none⟩) (Nat.le_refl _) (.int .i64 (max n 562949953421314))
        refine ⟨by rw [H6.out.2.2.2.1]; rfl, ⟨aY, cY, ?_, ?_⟩, hb⟩
        · unfold World.setCell
          simp only [Array.getElem?_modify, H6.out.1]
          rw [H6.out.2.2.1]
          rfl
        · have := H6.out.2.1 _ hb
          rw [H6.out.2.2.1] at this
          exact this
      · go_wp2_with fail
        go_meet
        rw [hq]
        have hb := ((hB).setCell (p := ⟨bY, 3, none⟩) (Nat.le_refl _) (.bool false)).setCell (p := ⟨bY, 4, none⟩) (Nat.le_refl _) (.int .i64 (max n 1))
        refine ⟨by rw [H6.out.2.2.2.1]; rfl, ⟨aY, cY, ?_, ?_⟩, hb⟩
        · unfold World.setCell
          simp only [Array.getElem?_modify, H6.out.1]
          rw [H6.out.2.2.1]
          rfl
        · have := H6.out.2.1 _ hb
          rw [H6.out.2.2.1] at this
          exact this
      · have hw3 : IntKind.u64.wrap (max n 1) = max n 1 := by rw [IntKind.wrap_u64]; omega
        go_wp2_with fail
        go_meet
        rw [hq]
        have hb := ((hB).setCell (p := ⟨bY, 1, none⟩) (Nat.le_refl _) (.bool true)).setCell (p := ⟨bY, 2, none⟩) (Nat.le_refl _) (.int .u64 (max n 1))
        refine ⟨by rw [H6.out.2.2.2.1]; rfl, ⟨aY, cY, ?_, ?_⟩, hb⟩
        · unfold World.setCell
          simp only [Array.getElem?_modify, H6.out.1]
          rw [H6.out.2.2.1]
          rfl
        · have := H6.out.2.1 _ hb
          rw [H6.out.2.2.1] at this
          exact this
      · go_wp2_with fail
        go_at_call 8
        refine (lone_calls ⟨#[120]⟩ ⟨#[]⟩ w6).mono ?_
        rintro e wl ⟨rfl, hwl⟩
        have hll := oneW_ll w6 ⟨#[120]⟩ ⟨#[]⟩
        have hbl := oneW_below w6 ⟨#[120]⟩ ⟨#[]⟩
        rw [← hwl] at hll hbl
        have hkl := (hbl.block _ (isT_of H6.out.1).lt).trans H6.out.1
        have hlt4 : bY < wl.heap.size := (isT_of hkl).lt
        have l0 : wl.frozen? ⟨bY, 0, none⟩ = false := by simp [World.frozen?, hkl]
        have l1 := block_cell hkl 0 _ rfl
        have HL4 := Lib.hid (And.intro hll (And.intro hbl hkl))
        clear hwl hll hbl hkl c0 c1 c2 c3 c4 c5 f0 f1 f2 f3 f4 f5
        go_wp2_with fail
        rw [show Value.int IntKind.u8 4 = Value.int IntKind.u8 (way % 8) by rw [hq]]
        go_meet
        rw [hq]
        have hb := (HL4.out.2.1.mono (show bY ≤ w6.heap.size by have := H6.out.2.2.2.2; omega)).setCell (p := ⟨bY, 0, none⟩) (Nat.le_refl _) (.slice (some ⟨w6.heap.size, 0, none⟩) 1 1)
        refine ⟨by rw [H6.out.2.2.2.1]; rfl, ⟨some ⟨w6.heap.size, 0, none⟩, 1, ?_, ?_⟩, hb⟩
        · unfold World.setCell
          simp only [Array.getElem?_modify, HL4.out.2.2]
          rw [H6.out.2.2.1]
          rfl
        · exact HL4.out.1.fr (X := fun k => k = bY) (Fr.setCell (p := ⟨bY, 0, none⟩) (Fr.refl (fun k => k = bY) wl) rfl _) (fun b hb e => hb.ne (isT_of HL4.out.2.2) (by decide) e)
      · go_wp2_with fail
        go_meet
        rw [hq]
        refine ⟨by rfl, ⟨aY, cY, ?_, ?_⟩, hB⟩
        · rw [H6.out.1, H6.out.2.2.1]
          rfl
        · have := H6.out.2.1 _ hB
          rw [H6.out.2.2.1] at this
          exact this
      · go_wp2_with fail
        go_meet
        rw [hq]
        refine ⟨by rw [H6.out.2.2.2.1]; rfl, ⟨aY, cY, ?_, ?_⟩, hB⟩
        · rw [H6.out.1, H6.out.2.2.1]
          rfl
        · have := H6.out.2.1 _ hB
          rw [H6.out.2.2.1] at this
          exact this
      · go_wp2_with fail
        go_meet
        rw [hq]
        have hb := ((((hB).setCell (p := ⟨bY, 1, none⟩) (Nat.le_refl _) (.bool true)).setCell (p := ⟨bY, 3, none⟩) (Nat.le_refl _) (.bool true)).setCell (p := ⟨bY, 2, none⟩) (Nat.le_refl _) (.int .u64 0)).setCell (p := ⟨bY, 4, none⟩) (Nat.le_refl _) (.int .i64 0)
        refine ⟨by rw [H6.out.2.2.2.1]; rfl, ⟨aY, cY, ?_, ?_⟩, hb⟩
        · unfold World.setCell
          simp only [Array.getElem?_modify, H6.out.1]
          rw [H6.out.2.2.1]
          rfl
        · have := H6.out.2.1 _ hb
          rw [H6.out.2.2.1] at this
          exact this
  case rest =>
  obtain ⟨w7, hw7⟩ : ∃ q, q = wc := ⟨_, rfl⟩
  subst hw7
  obtain ⟨hk7, ⟨aL, cL, hblk, hll⟩, hb7⟩ := hcut
  subst hk7
  have hno := bad_no x (way % 8) n
  have hKs := badK_le x (way % 8)
  have hls := badE_lab x (way % 8) n
  generalize badK x (way % 8) = K at *
  generalize badE x (way % 8) n = eb at *
  have h57 : Below w5.heap.size w5 w7 := HT5.out.2.1.trans (hb7.mono (Nat.le_of_eq HT5.out.2.2.symm))
  have HT7 := Lib.hid (And.intro (HT5.out.1.below h57) (And.intro hblk hll))
  have HN := Lib.hid (And.intro hno (And.intro hKs hls))
  have c0 := block_cell hblk 0 _ rfl
  have c1 := block_cell hblk 1 _ rfl
  have c2 := block_cell hblk 2 _ rfl
  have c3 := block_cell hblk 3 _ rfl
  have c4 := block_cell hblk 4 _ rfl
  have c5 := block_cell hblk 5 _ rfl
  clear hblk hll hb7 hno hKs hls h57 HT5 H6 hmod
  go_wp2_with fail
  go_at_call 9
  obtain ⟨w8, hw8⟩ : ∃ q, q = w7.alloc (.cells #[.string K, .slice aL eb.lab.length cL, .bool eb.mark, .int .u64 eb.bits, .bool eb.st, .int .i64 eb.time, .int .i64 eb.stamp] 40) := ⟨_, rfl⟩
  obtain ⟨gB, hgB⟩ : ∃ q, q = w7.heap.size := ⟨_, rfl⟩
  have hb78 : Below w7.heap.size w7 w8 := by rw [hw8]; exact (Below.refl _ _).alloc (Nat.le_refl _) _
  have hB8 : BdAt wq w3 p2 b2 m2 n4 v4 lS lO (.slice aO lO.length cO) its bY gB ⟨K, aL, cL, eb⟩ w8 := ⟨HT7.out.1.below hb78, (hb78.block _ (isT_of HT7.out.2.1).lt).trans HT7.out.2.1, by rw [hw8, hgB]; exact heap_alloc_new w7 _, fun k hk => by have := (own_isT HT7.out.1.fs.sink.own hk).lt; omega, HT7.out.2.2.below hb78 (Nat.le_refl _)⟩
  rw [← hw8, ← hgB]
  have HB8 := Lib.hid hB8
  clear hw8 hgB hb78 hB8 HT7 c0 c1 c2 c3 c4 c5
  refine (text_no K aL cL eb w8 (HR.out.1.below HB8.out.fw.bel) HN.out.2.1 HB8.out.ll.rd (by have := HN.out.2.2.1; omega) (fun y hy => by have := HN.out.2.2.2 y hy; omega) HN.out.1).mono ?_
  rintro e w9 ⟨rfl, hb9⟩
  have HB9 := Lib.hid (HB8.out.below hb9)
  clear hb9 HB8
  have z0 := block_cell HB9.out.itm 0 _ rfl
  have z1 := block_cell HB9.out.itm 1 _ rfl
  have z2 := block_cell HB9.out.itm 2 _ rfl
  have z3 := block_cell HB9.out.itm 3 _ rfl
  have z4 := block_cell HB9.out.itm 4 _ rfl
  have z5 := block_cell HB9.out.itm 5 _ rfl
  have z6 := block_cell HB9.out.itm 6 _ rfl
  go_wp2_with fail
  go_at_call 10
  have hcall := sright_calls K aL cL eb w9 HN.out.2.1 HB9.out.ll.rd (by have := HN.out.2.2.1; omega) (fun y hy => by have := HN.out.2.2.2 y hy; omega) (HR.out.1.below HB9.out.fw.bel).kv
  rw [HN.out.1] at hcall
  refine hcall.mono ?_
  clear hcall
  rintro e w10 ⟨rfl, hb10⟩
  have HB10 := Lib.hid (HB9.out.below hb10)
  clear hb10 HB9 z0 z1 z2 z3 z4 z5 z6
  have y0 := block_cell HB10.out.ent 0 _ rfl
  have y1 := block_cell HB10.out.ent 1 _ rfl
  have y2 := block_cell HB10.out.ent 2 _ rfl
  have y3 := block_cell HB10.out.ent 3 _ rfl
  have y4 := block_cell HB10.out.ent 4 _ rfl
  have y5 := block_cell HB10.out.ent 5 _ rfl
  go_wp2_with fail
  go_at_call 11
  obtain ⟨w11, hw11⟩ : ∃ q, q = w10.alloc (.cells #[.slice aL eb.lab.length cL, .bool eb.mark, .int .u64 eb.bits, .bool eb.st, .int .i64 eb.time, .int .i64 eb.stamp] 34) := ⟨_, rfl⟩
  have hb11 : Below w10.heap.size w10 w11 := by rw [hw11]; exact (Below.refl _ _).alloc (Nat.le_refl _) _
  have hB11 := HB10.out.below hb11
  have hre : RdE w11 (some ⟨w10.heap.size, 0, none⟩) [⟨aL, cL, eb⟩] := by
    rw [hw11]
    exact RdE.new w10 [⟨aL, cL, eb⟩] _ rfl (fun y hy => by rw [List.mem_singleton.1 hy]; exact HB10.out.ll)
  have heo : EsOk w11 [⟨aL, cL, eb⟩] := ⟨fun y hy => by rw [List.mem_singleton.1 hy]; have := HN.out.2.2.1; show eb.lab.length ≤ _; omega, fun y hy t ht => by rw [List.mem_singleton.1 hy] at ht; have := HN.out.2.2.2 t ht; omega⟩
  have hcall := append_calls w11 K (some ⟨w10.heap.size, 0, none⟩) 1 [⟨aL, cL, eb⟩] hB11.fw.fs.sink (HR.out.1.below hB11.fw.bel).kv HN.out.2.1 hre heo (by simp)
  rw [← hw11]
  have HB11 := Lib.hid hB11
  clear hw11 hb11 hB11 hre heo HB10 y0 y1 y2 y3 y4 y5
  refine hcall.mono ?_
  clear hcall
  rintro e w12 ⟨rfl, n12, v12, l12, hS12, hm12, hf12, hk12⟩
  have hap : appErr (lS.map SI.it) ([(⟨aL, cL, eb⟩ : SE)].map (toIt K)) = 380 := err_bad (x := ⟨K, eb⟩) HN.out.1
  rw [app_no (by rw [hap]; decide), HB11.out.fw.mS] at hm12
  rw [hap]
  have HB12 := Lib.hid (HB11.out.app HQ3.out.1 HQ3.out.2.1 HQ3.out.2.2 hS12 hm12 hf12 hk12)
  clear hS12 hm12 hf12 hk12 hap HB11
  go_wp2_with fail
  go_at_call 13
  have hcall := all_calls w12 HB12.out.fw.fs.sink
  rw [HB12.out.fw.mS] at hcall
  refine hcall.mono ?_
  clear hcall
  rintro e w13 ⟨aA, cA, lA, rfl, hownA, hlA, hmA, hb13⟩
  have hlAn : lA.length ≤ 1000000000 := by
    have h1 := congrArg List.length hmA
    rw [List.length_map] at h1
    omega
  have H13 := Lib.hid (And.intro (HB12.out.below hb13) (And.intro (RdI.of_own hownA hlA) hmA))
  clear hownA hlA hmA hb13 HB12
  go_wp2_with fail
  go_at_call 12
  refine (items_yes aA aO cA cO lA lO w13 H13.out.2.1 (RdI.of_own H13.out.1.fw.fs.own H13.out.1.fw.fs.lab) (fun y hy => (HI.out.2.1 y.it (by rw [← H13.out.2.2]; exact List.mem_map_of_mem hy)).2.2) hlAn (H13.out.2.2.trans HI.out.2.2.1.symm)).mono ?_
  rintro e w14 ⟨rfl, hb14⟩
  have HB14 := Lib.hid (H13.out.1.below hb14)
  clear hb14 H13 hlAn
  obtain ⟨kk, hkk, hkl⟩ : ∃ kk : Nat, at'.tmod ((lO.length : Int) + 1) = (kk : Int) ∧ kk ≤ lO.length := by
    have h1 := Int.emod_nonneg at' (show (lO.length : Int) + 1 ≠ 0 by omega)
    have h2 := Int.emod_lt_of_pos at' (show (0 : Int) < (lO.length : Int) + 1 by omega)
    exact ⟨(at' % ((lO.length : Int) + 1)).toNat, by rw [Int.tmod_eq_emod_of_nonneg a0]; omega, by omega⟩
  have hnz : ((lO.length : Int) + 1 == 0) = false := beq_eq_false_iff_ne.2 (by omega)
  have hnz2 : ((lO.length : Int) + 1 == -1) = false := beq_eq_false_iff_ne.2 (by omega)
  have hlw : IntKind.i64.wrap ((lO.length : Int) + 1) = (lO.length : Int) + 1 := by rw [IntKind.wrap_i64]; omega
  have hkw : IntKind.i64.wrap (kk : Int) = (kk : Int) := by rw [IntKind.wrap_i64]; omega
  have q0 := block_cell HB14.out.itm 0 _ rfl
  have q1 := block_cell HB14.out.itm 1 _ rfl
  have q2 := block_cell HB14.out.itm 2 _ rfl
  have q3 := block_cell HB14.out.itm 3 _ rfl
  have q4 := block_cell HB14.out.itm 4 _ rfl
  have q5 := block_cell HB14.out.itm 5 _ rfl
  have q6 := block_cell HB14.out.itm 6 _ rfl
  go_wp2_with fail
  obtain ⟨i0, hi0, hz0, hz1, hz2⟩ := info_parts infoIt
  have HI0 := Lib.hid (And.intro hi0 (And.intro hz0 (And.intro hz1 hz2)))
  have HSK : Hid (∀ w' : World, Below w14.heap.size w14 w' → w'.cell? ⟨gB, 0, none⟩ = some (.string K) ∧ w'.cell? ⟨gB, 1, none⟩ = some (.slice aL eb.lab.length cL) ∧ w'.cell? ⟨gB, 2, none⟩ = some (.bool eb.mark) ∧ w'.cell? ⟨gB, 3, none⟩ = some (.int .u64 eb.bits) ∧ w'.cell? ⟨gB, 4, none⟩ = some (.bool eb.st) ∧ w'.cell? ⟨gB, 5, none⟩ = some (.int .i64 eb.time) ∧ w'.cell? ⟨gB, 6, none⟩ = some (.int .i64 eb.stamp)) := Lib.hid (fun w' hb => by
    have h := ((HB14.out.below hb).itm)
    exact ⟨block_cell h 0 _ rfl, block_cell h 1 _ rfl, block_cell h 2 _ rfl, block_cell h 3 _ rfl, block_cell h 4 _ rfl, block_cell h 5 _ rfl, block_cell h 6 _ rfl⟩)
  have HF14 := Lib.hid (RdF.of_ownW HB14.out.fw.fs.own)
  have HNIL : Hid (aO = none → lO.length = 0 ∧ cO = 0) := Lib.hid (fun e => by
    have h := HB14.out.fw.fs.own
    rw [e] at h
    rcases h.2 with ⟨e1, h0⟩ | ⟨g, cap', cur, e1, _⟩
    · injection e1 with _ _ e3; exact ⟨h0, e3⟩
    · cases e1)
  have hgl : gB < w14.heap.size := (isT_of HB14.out.itm).lt
  clear hi0 hz0 hz1 hz2
  go_cut [20, 21] (fun s20 s21 wx => s20 = .int .i64 kk ∧ s21 = .int .i64 380 ∧ BdAt wq w3 p2 b2 m2 n12 v12 l12 lO (.slice aO lO.length cO) its bY gB ⟨K, aL, cL, eb⟩ wx)
  case first =>
    as_aux_lemma =>
      have hHC : ∀ W, Below w14.heap.size w14 W → Calls Tryz.prog 16 #[.slice aO lO.length cO] W fun e W' => ∃ a c, e = .returned (.slice a lO.length c) ∧ W'.ownsRow W.heap.size 40 7 (.slice a lO.length c) lO.length (iFlat lO) ∧ Below W.heap.size W W' := fun W hW =>
        (cloneI_flat aO cO lO.length (iFlat lO) W (HF14.out.below hW) (by rw [iFlat_length]) HNIL.out iFlat_one (by omega)).mono (fun e W' h => by
          obtain ⟨v18, rfl, h1, h2⟩ := h
          obtain ⟨a18, c18, rfl⟩ := own_form h1
          exact ⟨a18, c18, rfl, h1, h2⟩)
      have hHI : ∀ W a c vb, Below w14.heap.size w14 W → W.ownsRow w14.heap.size 40 7 (.slice a lO.length c) lO.length (iFlat lO) → a ≠ some ⟨vb, 0, none⟩ → W.heap[vb]? = some (.cells (iB ⟨K, aL, cL, eb⟩).toArray 40 (0, 0)) → Calls Tryz.prog 15 #[.slice a lO.length c, .int .i64 (kk : Int), .slice (some ⟨vb, 0, none⟩) 1 1] W fun e W' =>
        ∃ a' c', e = .returned (.slice a' (lO.length + 1) c') ∧ W'.ownsRow w14.heap.size 40 7 (.slice a' (lO.length + 1) c') (lO.length + 1) (iFlat (lO.take kk) ++ (iB ⟨K, aL, cL, eb⟩ ++ iFlat (lO.drop kk))) ∧ Below w14.heap.size w14 W' ∧ ∀ j, j < W.heap.size → a ≠ some ⟨j, 0, none⟩ → W'.heap[j]? = W.heap[j]? := fun W a c vb hW ho hne hvb =>
        (insI_calls a lO.length c kk (iFlat (lO.take kk)) (iFlat (lO.drop kk)) (iB ⟨K, aL, cL, eb⟩) w14.heap.size w14 W (by rw [← iFlat_append, List.take_append_drop]; exact ho) (by rw [iFlat_length, List.length_take, Nat.min_eq_left hkl]) (by rw [iFlat_length, List.length_drop]) rfl iFlat_one iFlat_one iB_one (by omega) hkl vb (fun g hg e => hne (by rw [hg, e])) hvb hW hW.size).mono (fun e W' h => by
          obtain ⟨v19, rfl, h1, h2, h3⟩ := h
          obtain ⟨a19, c19, rfl⟩ := own_form h1
          exact ⟨a19, c19, rfl, h1, h2, fun j hj hja => h3 j hj (fun g hg e => hja (by rw [hg, e]))⟩)
      have hHK : ∀ W g c, Below w14.heap.size w14 W → W.ownsRow w14.heap.size 40 7 (.slice (some ⟨g, 0, none⟩) (lO.length + 1 + 1) c) (lO.length + 1 + 1) (iFlat (lO.take kk) ++ (iB ⟨K, aL, cL, eb⟩ ++ iFlat (lO.drop kk)) ++ iB ⟨K, aL, cL, eb⟩) → Calls Tryz.prog 14 #[.slice (some ⟨g, 0, none⟩) (lO.length + 1 + 1) c] W fun e W' => e = .returned (.tuple #[.int .i64 (kk : Int), .int .i64 380]) ∧ Below W.heap.size W W' := fun W g c hW hrow => by
        have hB20 := HB14.out.below hW
        rw [row_bad] at hrow
        have hlab : ∀ y ∈ lO.take kk ++ (⟨K, aL, cL, eb⟩ : SI) :: lO.drop kk ++ [⟨K, aL, cL, eb⟩], Ll W y.la y.lc y.e.lab := fun y hy => by
          rcases bad_mem hy with h | h
          · exact hB20.fw.fs.lab y h
          · rw [h]; exact hB20.ll
        have hcall := check_calls (some ⟨g, 0, none⟩) c (lO.take kk ++ (⟨K, aL, cL, eb⟩ : SI) :: lO.drop kk ++ [⟨K, aL, cL, eb⟩]) W (HR.out.1.below hB20.fw.bel).kv (RdI.of_own hrow hlab)
          (isOk_bad (fun y hy => HI.out.2.1 y.it (by rw [← HI.out.2.2.1]; exact List.mem_map_of_mem hy)) HN.out.2.1 HN.out.2.2 (fun y hy => bad_mem hy)) (by rw [bad_len _ _ hkl]; omega)
        rw [bad_len lO kk hkl, bad_chk (l := lO) (k := kk) (x := ⟨K, aL, cL, eb⟩) HI.out.1 HI.out.2.2.1 hkl HN.out.1] at hcall
        exact hcall
      have HCS := Lib.hid (And.intro hHC (And.intro hHI hHK))
      clear hHC hHI hHK
      refine wp_region_held_drew (S := fun w' : World => w'.cell? ⟨gB, 0, none⟩ = some (.string K) ∧ w'.cell? ⟨gB, 1, none⟩ = some (.slice aL eb.lab.length cL) ∧ w'.cell? ⟨gB, 2, none⟩ = some (.bool eb.mark) ∧ w'.cell? ⟨gB, 3, none⟩ = some (.int .u64 eb.bits) ∧ w'.cell? ⟨gB, 4, none⟩ = some (.bool eb.st) ∧ w'.cell? ⟨gB, 5, none⟩ = some (.int .i64 eb.time) ∧ w'.cell? ⟨gB, 6, none⟩ = some (.int .i64 eb.stamp)) (by kernel_rfl) ?_ (fun hHeld => ?_)
      · exact HSK.out _ (Below.refl _ _).drew
      refine wpAnyH_take (i := 0) (oi := ⟨_, _, _, _, _, _⟩) (v := _) rfl (by kernel_rfl) (by kernel_rfl) (by kernel_rfl) (fun _ _ _ h => h) (Or.inl ⟨by rfl, by intro wq hSw; (try dsimp only at hSw); go_simp; (try with_reducible rfl)⟩) (by assumption) ?_
      try simp only [Act.put, List.setIfInBounds_toArray, List.set_cons_zero, List.set_cons_succ]
      refine wpAnyH_take (i := 2) (oi := ⟨_, _, _, _, _, _⟩) (v := _) rfl (by kernel_rfl) (by kernel_rfl) (by kernel_rfl) (fun _ _ _ h => h) (Or.inl ⟨by rfl, by intro wq hSw; (try dsimp only at hSw); go_simp; (try with_reducible rfl)⟩) (by assumption) ?_
      try simp only [Act.put, List.setIfInBounds_toArray, List.set_cons_zero, List.set_cons_succ]
      refine wpAnyH_take (i := 3) (oi := ⟨_, _, _, _, _, _⟩) (v := _) rfl (by kernel_rfl) (by kernel_rfl) (by kernel_rfl) (fun _ _ _ h => h) (Or.inl ⟨by rfl, by intro wq hSw; (try dsimp only at hSw); go_simp; (try with_reducible rfl)⟩) (by assumption) ?_
      try simp only [Act.put, List.setIfInBounds_toArray, List.set_cons_zero, List.set_cons_succ]
      refine wpAnyH_take (i := 6) (oi := ⟨_, _, _, _, _, _⟩) (v := _) rfl (by kernel_rfl) (by kernel_rfl) (by kernel_rfl) (fun _ _ _ h => h) (Or.inl ⟨by rfl, by intro wq hSw; (try dsimp only at hSw); go_simp; (try with_reducible rfl)⟩) (by assumption) ?_
      try simp only [Act.put, List.setIfInBounds_toArray, List.set_cons_zero, List.set_cons_succ]
      refine wpAnyH_at (m := 11) (l0 := LB28 false false false false false false) (fun A => putF28 A u129 u132 u133 u135 u136 u137) (by rfl) (by kernel_rfl) (by kernel_rfl) ?_
      intro A hA
      have hsz : 200 ≤ A.tmps.size := by subst hA; exact (by decide : 200 ≤ 230)
      refine region28 (F := putF28 A) (uN := fun i => [u129, u132, u133, u135, u136, u137].getD i.val undef) (w0 := w14) (x := ⟨K, aL, cL, eb⟩) (n := lO.length) (r0 := iFlat lO) (r1 := iFlat (lO.take kk) ++ (iB ⟨K, aL, cL, eb⟩ ++ iFlat (lO.drop kk))) (fin := .tuple #[.int .i64 (kk : Int), .int .i64 380]) (fC := 16) (fI := 15) (fK := 14) (aO := aO) (cO := cO) (kk := .int .i64 (kk : Int))
        ?_ ?_ (enters_of Tryz.func16 (by kernel_rfl) rfl) (enters_of Tryz.func15 (by kernel_rfl) rfl) (enters_of Tryz.func14 (by kernel_rfl) rfl)
        ?_ ?_ ?_ ?_ ?_ ?_ ?_ ?_ ?_ ?_ ?_ ?_ ?_ ?_ ?_ ?_ ?_ ?_ ?_ ?_ ?_ (fun wz hz => HSK.out wz hz) ⟨HI0.out.1, HI0.out.2.1, HI0.out.2.2.1, HI0.out.2.2.2⟩ (by omega) rfl HCS.out.1 HCS.out.2.1 HCS.out.2.2 ?_ (Below.refl _ _).drew
      · decide +kernel
      · decide +kernel
      · exact ⟨_, rfl, ⟨_, rfl⟩, rfl, rfl⟩
      · exact ⟨_, rfl, rfl, rfl, rfl⟩
      · exact ⟨_, rfl, ⟨_, rfl⟩, rfl, rfl⟩
      · exact ⟨_, rfl, rfl, rfl, rfl⟩
      · exact ⟨_, rfl, rfl, rfl, rfl⟩
      · exact ⟨_, rfl, ⟨_, rfl⟩, rfl, rfl⟩
      · exact putF28_129 A
      · exact putF28_132 A
      · exact putF28_133 A
      · exact putF28_135 A
      · exact putF28_136 A
      · exact putF28_137 A
      · exact tmF28_129 hsz
      · exact tmF28_132 hsz
      · exact tmF28_133 hsz
      · exact tmF28_135 hsz
      · exact tmF28_136 hsz
      · exact fun x0 x1 x2 x3 x4 x5 => (tmF28_no (by decide) x0 x1 x2 x3 x4 x5).trans (by subst hA; rfl)
      · exact fun x0 x1 x2 x3 x4 x5 => (tmF28_no (by decide) x0 x1 x2 x3 x4 x5).trans (by subst hA; rfl)
      · exact fun x0 x1 x2 x3 x4 x5 => (tmF28_no (by decide) x0 x1 x2 x3 x4 x5).trans (by subst hA; rfl)
      · exact fun x0 x1 x2 x3 x4 x5 => (tmF28_no (by decide) x0 x1 x2 x3 x4 x5).trans (by subst hA; rfl)
      · subst hA
        intro v0 v1 v2 v3 v4 w21 hb21
        have hSS := HSK.out w21 hb21
        have HK21 := Lib.hid (HB14.out.below hb21)
        clear hb21
        unfold putF28
        simp only [Act.put, List.setIfInBounds_toArray, List.set_cons_zero, List.set_cons_succ]
        refine wpAnyH_take (i := 10) (oi := ⟨_, _, _, _, _, _⟩) (v := _) rfl (by kernel_rfl) (by kernel_rfl) (by kernel_rfl) (fun _ _ _ h => h) (Or.inl ⟨by rfl, by intro wq hSw; (try dsimp only at hSw); go_simp; (try with_reducible rfl)⟩) (by assumption) ?_
        try simp only [Act.put, List.setIfInBounds_toArray, List.set_cons_zero, List.set_cons_succ]
        refine wpAnyH_take (i := 11) (oi := ⟨_, _, _, _, _, _⟩) (v := _) rfl (by kernel_rfl) (by kernel_rfl) (by kernel_rfl) (fun _ _ _ h => h) (Or.inl ⟨by rfl, by intro wq hSw; (try dsimp only at hSw); go_simp; (try with_reducible rfl)⟩) (by assumption) ?_
        try simp only [Act.put, List.setIfInBounds_toArray, List.set_cons_zero, List.set_cons_succ]
        refine wpAnyH_take (i := 12) (oi := ⟨_, _, _, _, _, _⟩) (v := _) rfl (by kernel_rfl) (by kernel_rfl) (by kernel_rfl) (fun _ _ _ h => h) (Or.inl ⟨by rfl, by intro wq hSw; (try dsimp only at hSw); go_simp; (try with_reducible rfl)⟩) (by assumption) ?_
        try simp only [Act.put, List.setIfInBounds_toArray, List.set_cons_zero, List.set_cons_succ]
        refine wpAnyH_take (i := 13) (oi := ⟨_, _, _, _, _, _⟩) (v := _) rfl (by kernel_rfl) (by kernel_rfl) (by kernel_rfl) (fun _ _ _ h => h) (Or.inl ⟨by rfl, by intro wq hSw; (try dsimp only at hSw); go_simp; (try with_reducible rfl)⟩) (by assumption) ?_
        try simp only [Act.put, List.setIfInBounds_toArray, List.set_cons_zero, List.set_cons_succ]
        refine wpAnyH_take (i := 14) (oi := ⟨_, _, _, _, _, _⟩) (v := _) rfl (by kernel_rfl) (by kernel_rfl) (by kernel_rfl) (fun _ _ _ h => h) (Or.inl ⟨by rfl, by intro wq hSw; (try dsimp only at hSw); go_simp; (try with_reducible rfl)⟩) (by assumption) ?_
        try simp only [Act.put, List.setIfInBounds_toArray, List.set_cons_zero, List.set_cons_succ]
        refine wpAnyH_done (by kernel_rfl) ?_ _
        clear hSS
        go_wp2_with fail
        go_meet
        exact ⟨rfl, rfl, HK21.out⟩
  case rest =>
  obtain ⟨w22, hw22⟩ : ∃ q, q = wc := ⟨_, rfl⟩
  subst hw22
  obtain ⟨h20, h21, hB22⟩ := hcut
  subst h20
  subst h21
  have HB22 := Lib.hid hB22
  have hok0 : SmOk ⟨0, 0, 0, 0⟩ := by constructor <;> decide
  clear hB22 HF14 HNIL HSK HB14 hgl q0 q1 q2 q3 q4 q5 q6
  go_wp2_with fail
  go_at_call 7
  refine (entry_calls ⟨0, 0, 0, 0⟩ hok0 2000 w22).mono ?_
  rintro e w23 ⟨aT, cT, rfl, hlT, hb23⟩
  obtain ⟨eT, heT⟩ : ∃ q, q = entS ⟨0, 0, 0, 0⟩ 2000 := ⟨_, rfl⟩
  rw [← heT] at hlT ⊢
  obtain ⟨KT, hKT⟩ : ∃ q, q = keyS ⟨0, 0, 0, 0⟩ := ⟨_, rfl⟩
  rw [← hKT]
  have HT23 := Lib.hid (And.intro (HB22.out.fw.below hb23) (And.intro hlT (And.intro heT hKT)))
  clear hlT hb23 heT hKT HB22
  go_wp2_with fail
  go_at_call 7
  obtain ⟨w24, hw24⟩ : ∃ q, q = w23.alloc (.cells #[.slice aT eT.lab.length cT, .bool eT.mark, .int .u64 eT.bits, .bool eT.st, .int .i64 eT.time, .int .i64 eT.stamp] 34) := ⟨_, rfl⟩
  obtain ⟨gT, hgT⟩ : ∃ q, q = w23.heap.size := ⟨_, rfl⟩
  have hb24 : Below w23.heap.size w23 w24 := by rw [hw24]; exact (Below.refl _ _).alloc (Nat.le_refl _) _
  have hblk24 : w24.heap[gT]? = some (.cells #[.slice aT eT.lab.length cT, .bool eT.mark, .int .u64 eT.bits, .bool eT.st, .int .i64 eT.time, .int .i64 eT.stamp] 34 (0, 0)) := by rw [hw24, hgT]; exact heap_alloc_new w23 _
  rw [← hw24, ← hgT]
  have HT24 := Lib.hid (And.intro (HT23.out.1.below hb24) (And.intro hblk24 (HT23.out.2.1.below hb24 (Nat.le_refl _))))
  have HKT := Lib.hid HT23.out.2.2
  clear hw24 hgT hb24 hblk24 HT23
  refine (entry_calls ⟨0, 0, 0, 0⟩ hok0 0 w24).mono ?_
  rintro e w25 ⟨aZ, cZ, rfl, -, hb25⟩
  rw [← HKT.out.2]
  obtain ⟨eZ, heZ⟩ : ∃ q, q = entS ⟨0, 0, 0, 0⟩ 0 := ⟨_, rfl⟩
  rw [← heZ]
  have HT25 := Lib.hid (And.intro (HT24.out.1.below hb25) (And.intro ((hb25.block _ (isT_of HT24.out.2.1).lt).trans HT24.out.2.1) (HT24.out.2.2.below hb25 (Nat.le_refl _))))
  clear hb25 heZ HT24
  go_wp2_with fail
  obtain ⟨w26, hw26⟩ : ∃ q, q = w25.alloc (.cells #[.slice aZ eZ.lab.length cZ, .bool eZ.mark, .int .u64 eZ.bits, .bool eZ.st, .int .i64 eZ.time, .int .i64 eZ.stamp] 34) := ⟨_, rfl⟩
  have hb26 : Below w25.heap.size w25 w26 := by rw [hw26]; exact (Below.refl _ _).alloc (Nat.le_refl _) _
  rw [← hw26]
  have HT26 := Lib.hid (And.intro (HT25.out.1.below hb26) (And.intro ((hb26.block _ (isT_of HT25.out.2.1).lt).trans HT25.out.2.1) (HT25.out.2.2.below hb26 (Nat.le_refl _))))
  clear hb26 hw26 HT25
  have t0 := block_cell HT26.out.2.1 0 _ rfl
  have t1 := block_cell HT26.out.2.1 1 _ rfl
  have t2 := block_cell HT26.out.2.1 2 _ rfl
  have t3 := block_cell HT26.out.2.1 3 _ rfl
  have t4 := block_cell HT26.out.2.1 4 _ rfl
  have t5 := block_cell HT26.out.2.1 5 _ rfl
  have HSK : Hid (∀ w' : World, Below w26.heap.size w26 w' → w'.cell? ⟨gT, 0, none⟩ = some (.slice aT eT.lab.length cT) ∧ w'.cell? ⟨gT, 1, none⟩ = some (.bool eT.mark) ∧ w'.cell? ⟨gT, 2, none⟩ = some (.int .u64 eT.bits) ∧ w'.cell? ⟨gT, 3, none⟩ = some (.bool eT.st) ∧ w'.cell? ⟨gT, 4, none⟩ = some (.int .i64 eT.time) ∧ w'.cell? ⟨gT, 5, none⟩ = some (.int .i64 eT.stamp)) := Lib.hid (fun w' hb => by
    have h := (hb.block _ (isT_of HT26.out.2.1).lt).trans HT26.out.2.1
    exact ⟨block_cell h 0 _ rfl, block_cell h 1 _ rfl, block_cell h 2 _ rfl, block_cell h 3 _ rfl, block_cell h 4 _ rfl, block_cell h 5 _ rfl⟩)
  have HF26 := Lib.hid (RdF.of_ownW HT26.out.1.fs.own)
  have HNIL : Hid (aO = none → lO.length = 0 ∧ cO = 0) := Lib.hid (fun e => by
    have h := HT26.out.1.fs.own
    rw [e] at h
    rcases h.2 with ⟨e1, h0⟩ | ⟨g, cap', cur, e1, _⟩
    · injection e1 with _ _ e3; exact ⟨h0, e3⟩
    · cases e1)
  have hgl : gT < w26.heap.size := (isT_of HT26.out.2.1).lt
  go_cut [26] (fun s26 wx => ∃ g c, s26 = .slice (some ⟨g, 0, none⟩) (lO.length + 2) c ∧ wx.ownsRow w26.heap.size 40 7 (.slice (some ⟨g, 0, none⟩) (lO.length + 2) c) (lO.length + 2) (iFlat lO ++ (iB ⟨KT, aT, cT, eT⟩ ++ iB ⟨KT, aT, cT, ⟨eT.lab, true, 0, false, 0, 2001⟩⟩)) ∧ Below w26.heap.size w26 wx)
  case first =>
    as_aux_lemma =>
      clear t0 t1 t2 t3 t4 t5 hok0
      have hHC : ∀ W, Below w26.heap.size w26 W → Calls Tryz.prog 16 #[.slice aO lO.length cO] W fun e W' => ∃ a c, e = .returned (.slice a lO.length c) ∧ W'.ownsRow W.heap.size 40 7 (.slice a lO.length c) lO.length (iFlat lO) ∧ Below W.heap.size W W' := fun W hW =>
        (cloneI_flat aO cO lO.length (iFlat lO) W (HF26.out.below hW) (by rw [iFlat_length]) HNIL.out iFlat_one (by omega)).mono (fun e W' h => by
          obtain ⟨v18, rfl, h1, h2⟩ := h
          obtain ⟨a18, c18, rfl⟩ := own_form h1
          exact ⟨a18, c18, rfl, h1, h2⟩)
      have HCS := Lib.hid hHC
      clear hHC
      refine wp_region_held_drew (S := fun w' : World => w'.cell? ⟨gT, 0, none⟩ = some (.slice aT eT.lab.length cT) ∧ w'.cell? ⟨gT, 1, none⟩ = some (.bool eT.mark) ∧ w'.cell? ⟨gT, 2, none⟩ = some (.int .u64 eT.bits) ∧ w'.cell? ⟨gT, 3, none⟩ = some (.bool eT.st) ∧ w'.cell? ⟨gT, 4, none⟩ = some (.int .i64 eT.time) ∧ w'.cell? ⟨gT, 5, none⟩ = some (.int .i64 eT.stamp)) (by kernel_rfl) ?_ (fun hHeld => ?_)
      · exact HSK.out _ (Below.refl _ _).drew
      refine wpAnyH_take (i := 0) (oi := ⟨_, _, _, _, _, _⟩) (v := _) rfl (by kernel_rfl) (by kernel_rfl) (by kernel_rfl) (fun _ _ _ h => h) (Or.inl ⟨by rfl, by intro wq hSw; (try dsimp only at hSw); go_simp; (try with_reducible rfl)⟩) (by assumption) ?_
      try simp only [Act.put, List.setIfInBounds_toArray, List.set_cons_zero, List.set_cons_succ]
      refine wpAnyH_take (i := 2) (oi := ⟨_, _, _, _, _, _⟩) (v := _) rfl (by kernel_rfl) (by kernel_rfl) (by kernel_rfl) (fun _ _ _ h => h) (Or.inl ⟨by rfl, by intro wq hSw; (try dsimp only at hSw); go_simp; (try with_reducible rfl)⟩) (by assumption) ?_
      try simp only [Act.put, List.setIfInBounds_toArray, List.set_cons_zero, List.set_cons_succ]
      refine wpAnyH_take (i := 3) (oi := ⟨_, _, _, _, _, _⟩) (v := _) rfl (by kernel_rfl) (by kernel_rfl) (by kernel_rfl) (fun _ _ _ h => h) (Or.inl ⟨by rfl, by intro wq hSw; (try dsimp only at hSw); go_simp; (try with_reducible rfl)⟩) (by assumption) ?_
      try simp only [Act.put, List.setIfInBounds_toArray, List.set_cons_zero, List.set_cons_succ]
      refine wpAnyH_take (i := 4) (oi := ⟨_, _, _, _, _, _⟩) (v := .agg #[.string KT, .slice aT eT.lab.length cT, .bool eT.mark, .int .u64 eT.bits, .bool eT.st, .int .i64 eT.time, .int .i64 eT.stamp]) rfl (by kernel_rfl) (by kernel_rfl) (by kernel_rfl) (fun _ _ _ h => h) (Or.inl ⟨by rfl, fun wq _ => bd_item rfl rfl rfl⟩) (by assumption) ?_
      try simp only [Act.put, List.setIfInBounds_toArray, List.set_cons_zero, List.set_cons_succ]
      refine wpAnyH_take (i := 5) (oi := ⟨_, _, _, _, _, _⟩) (v := _) rfl (by kernel_rfl) (by kernel_rfl) (by kernel_rfl) (fun _ _ _ h => h) (Or.inl ⟨by rfl, by intro wq hSw; (try dsimp only at hSw); go_simp; (try with_reducible rfl)⟩) (by assumption) ?_
      try simp only [Act.put, List.setIfInBounds_toArray, List.set_cons_zero, List.set_cons_succ]
      refine wpAnyH_take (i := 6) (oi := ⟨_, _, _, _, _, _⟩) (v := _) rfl (by kernel_rfl) (by kernel_rfl) (by kernel_rfl) (fun _ _ _ h => h) (Or.inl ⟨by rfl, by intro wq hSw; (try dsimp only at hSw); go_simp; (try with_reducible rfl)⟩) (by assumption) ?_
      try simp only [Act.put, List.setIfInBounds_toArray, List.set_cons_zero, List.set_cons_succ]
      refine wpAnyH_take (i := 7) (oi := ⟨_, _, _, _, _, _⟩) (v := _) rfl (by kernel_rfl) (by kernel_rfl) (by kernel_rfl) (fun _ _ _ h => h) (Or.inl ⟨by rfl, by intro wq hSw; (try dsimp only at hSw); go_simp; (try with_reducible rfl)⟩) (by assumption) ?_
      try simp only [Act.put, List.setIfInBounds_toArray, List.set_cons_zero, List.set_cons_succ]
      refine wpAnyH_take (i := 8) (oi := ⟨_, _, _, _, _, _⟩) (v := .agg #[.slice aT eT.lab.length cT, .bool true, .int .u64 0, .bool false, .int .i64 0, .int .i64 2001]) rfl (by kernel_rfl) (by kernel_rfl) (by kernel_rfl) (fun _ _ _ h => h) (Or.inl ⟨by rfl, fun wq _ => bd_ent rfl rfl⟩) (by assumption) ?_
      try simp only [Act.put, List.setIfInBounds_toArray, List.set_cons_zero, List.set_cons_succ]
      refine wpAnyH_take (i := 9) (oi := ⟨_, _, _, _, _, _⟩) (v := .agg #[.string KT, .slice aT eT.lab.length cT, .bool true, .int .u64 0, .bool false, .int .i64 0, .int .i64 2001]) rfl (by kernel_rfl) (by kernel_rfl) (by kernel_rfl) (fun _ _ _ h => h) (Or.inl ⟨by rfl, fun wq _ => bd_item rfl rfl rfl⟩) (by assumption) ?_
      try simp only [Act.put, List.setIfInBounds_toArray, List.set_cons_zero, List.set_cons_succ]
      refine wpAnyH_at (m := 4) (l0 := LB31 false false false) (fun A => putF31 A u151 u160 u161) (by rfl) (by kernel_rfl) (by kernel_rfl) ?_
      intro A hA
      have hsz : 200 ≤ A.tmps.size := by subst hA; exact (by decide : 200 ≤ 230)
      refine region31 (F := putF31 A) (w0 := w26) (x := ⟨KT, aT, cT, eT⟩) (y := ⟨KT, aT, cT, ⟨eT.lab, true, 0, false, 0, 2001⟩⟩) (n := lO.length) (r0 := iFlat lO) (fC := 16) (aO := aO) (cO := cO)
        ?_ ?_ (enters_of Tryz.func16 (by kernel_rfl) rfl) ?_ ?_ ?_ ?_ ?_ ?_ ?_ ?_ ?_ ?_ ?_ (fun wz hz => HSK.out wz hz) ⟨HI0.out.1, HI0.out.2.1, HI0.out.2.2.1, HI0.out.2.2.2⟩ (by omega) HCS.out ?_ (Below.refl _ _).drew
      · decide +kernel
      · decide +kernel
      · exact ⟨_, rfl, ⟨_, rfl⟩, rfl, rfl⟩
      · exact ⟨_, rfl, rfl, rfl, rfl⟩
      · exact ⟨_, rfl, rfl, rfl, rfl⟩
      · exact putF31_151 A
      · exact putF31_160 A
      · exact putF31_161 A
      · exact tmF31_151 hsz
      · exact tmF31_160 hsz
      · exact fun x0 x1 x2 => (tmF31_no (by decide) x0 x1 x2).trans (by subst hA; rfl)
      · exact fun x0 x1 x2 => (tmF31_no (by decide) x0 x1 x2).trans (by subst hA; rfl)
      · exact fun x0 x1 x2 => (tmF31_no (by decide) x0 x1 x2).trans (by subst hA; rfl)
      · subst hA
        intro v0 v1 g29 c29 w29 hb29 hown29
        have hSS := HSK.out w29 hb29
        have HOW := Lib.hid (And.intro hown29 hb29)
        clear hown29 hb29
        unfold putF31
        simp only [Act.put, List.setIfInBounds_toArray, List.set_cons_zero, List.set_cons_succ]
        refine wpAnyH_take (i := 12) (oi := ⟨_, _, _, _, _, _⟩) (v := _) rfl (by kernel_rfl) (by kernel_rfl) (by kernel_rfl) (fun _ _ _ h => h) (Or.inl ⟨by rfl, by intro wq hSw; (try dsimp only at hSw); go_simp; (try with_reducible rfl)⟩) (by assumption) ?_
        try simp only [Act.put, List.setIfInBounds_toArray, List.set_cons_zero, List.set_cons_succ]
        refine wpAnyH_done (by kernel_rfl) ?_ _
        clear hSS
        go_wp2_with fail
        go_meet
        exact ⟨_, _, rfl, HOW.out.1, HOW.out.2⟩
  case rest =>
  obtain ⟨w30, hw30⟩ : ∃ q, q = wc := ⟨_, rfl⟩
  subst hw30
  obtain ⟨g30, c30, h26, hown30, hb30⟩ := hcut
  subst h26
  have hKJ : KT = kJ := by rw [HKT.out.2]; rfl
  have h30 := HT26.out.1.below hb30
  have hll30 := HT26.out.2.2.below hb30 (Nat.le_refl _)
  obtain ⟨ps, hps, hcall⟩ : ∃ ps : Int, (ps = (lO.length : Int) ∨ ps = (lO.length : Int) + 1) ∧ Calls Tryz.prog 14 #[.slice (some ⟨g30, 0, none⟩) (lO.length + 2) c30] w30 fun e w' => e = .returned (.tuple #[.int .i64 ps, .int .i64 382]) ∧ Below w30.heap.size w30 w' := by
    have hrow : w30.ownsRow w26.heap.size 40 7 (.slice (some ⟨g30, 0, none⟩) (lO.length + 2) c30) (lO.length + 2) (iFlat (lO ++ [⟨KT, aT, cT, eT⟩, ⟨KT, aT, cT, ⟨eT.lab, true, 0, false, 0, 2001⟩⟩])) := by
      rw [show iFlat (lO ++ [⟨KT, aT, cT, eT⟩, ⟨KT, aT, cT, ⟨eT.lab, true, 0, false, 0, 2001⟩⟩]) = iFlat lO ++ (iB ⟨KT, aT, cT, eT⟩ ++ iB ⟨KT, aT, cT, ⟨eT.lab, true, 0, false, 0, 2001⟩⟩) by simp [iFlat]]
      exact hown30
    have hml : (lO ++ [(⟨KT, aT, cT, eT⟩ : SI), ⟨KT, aT, cT, ⟨eT.lab, true, 0, false, 0, 2001⟩⟩]).length = lO.length + 2 := by rw [List.length_append]; rfl
    have hmem : ∀ y ∈ lO ++ [(⟨KT, aT, cT, eT⟩ : SI), ⟨KT, aT, cT, ⟨eT.lab, true, 0, false, 0, 2001⟩⟩], y ∈ lO ∨ (y.key = KT ∧ y.la = aT ∧ y.lc = cT ∧ y.e.lab = eT.lab) := fun y hy => by
      rcases List.mem_append.1 hy with h | h
      · exact .inl h
      · simp only [List.mem_cons, List.not_mem_nil, or_false] at h
        rcases h with rfl | rfl <;> exact .inr ⟨rfl, rfl, rfl, rfl⟩
    have hlT : eT.lab = [(xB, oneB)] := by rw [HKT.out.1]; rfl
    have hlab : ∀ y ∈ lO ++ [(⟨KT, aT, cT, eT⟩ : SI), ⟨KT, aT, cT, ⟨eT.lab, true, 0, false, 0, 2001⟩⟩], Ll w30 y.la y.lc y.e.lab := fun y hy => by
      rcases hmem y hy with h | ⟨_, h2, h3, h4⟩
      · exact h30.fs.lab y h
      · rw [h2, h3, h4]; exact hll30
    have hok : IsOk (lO ++ [(⟨KT, aT, cT, eT⟩ : SI), ⟨KT, aT, cT, ⟨eT.lab, true, 0, false, 0, 2001⟩⟩]) := by
      have hl : ∀ y ∈ lO, y.key.size ≤ 1100000 ∧ labRight y.e.lab = true ∧ y.e.lab.length ≤ 1000000000 := fun y hy => HI.out.2.1 y.it (by rw [← HI.out.2.2.1]; exact List.mem_map_of_mem hy)
      refine ⟨fun y hy => ?_, fun y hy => ?_, fun y hy z hz => ?_⟩
      · rcases hmem y hy with h | ⟨h1, _⟩
        · exact (hl y h).1
        · rw [h1, hKJ]; decide
      · rcases hmem y hy with h | ⟨_, _, _, h4⟩
        · exact (hl y h).2.2
        · rw [h4, hlT]; decide
      · rcases hmem y hy with h | ⟨_, _, _, h4⟩
        · have h2 := ((labRight_ok (hl y h).2.1).2 z hz).2
          simp at h2
          omega
        · rw [h4, hlT, List.mem_singleton] at hz
          rw [hz]; decide
    have hcall := check_calls (some ⟨g30, 0, none⟩) c30 (lO ++ [(⟨KT, aT, cT, eT⟩ : SI), ⟨KT, aT, cT, ⟨eT.lab, true, 0, false, 0, 2001⟩⟩]) w30 (HR.out.1.below h30.bel).kv (RdI.of_own hrow hlab) hok (by rw [hml]; omega)
    rw [hml] at hcall
    have hmap : (lO ++ [(⟨KT, aT, cT, eT⟩ : SI), ⟨KT, aT, cT, ⟨eT.lab, true, 0, false, 0, 2001⟩⟩]).map SI.it = its ++ [⟨KT, eT⟩, ⟨KT, ⟨eT.lab, true, 0, false, 0, 2001⟩⟩] := by rw [List.map_append, HI.out.2.2.1]; rfl
    rw [hmap] at hcall
    have hli : its.length = lO.length := by omega
    unfold ChkPost at hcall
    obtain ⟨ps, hps, hck⟩ := late_chk HI.out.1 HST.out hKJ HKT.out.1
    rw [hck] at hcall
    exact ⟨ps, by rw [← hli]; exact hps, hcall⟩
  rcases hps with rfl | rfl
  all_goals
      have HC30 := Lib.hid hcall
      have H30 := Lib.hid (Bthen HT26.out.1.bel hb30)
      have HKJ := Lib.hid hKJ
      clear hcall hKJ h30 hll30 hown30 hb30 hok0 t0 t1 t2 t3 t4 t5 HSK HF26 HNIL hgl HT26
      go_wp2_with fail
      go_at_call 14
      refine HC30.out.mono ?_
      rintro e w31 ⟨rfl, hb31⟩
      have H31 := Lib.hid (Bthen H30.out hb31)
      clear hb31 HC30
      have hq1 : ((lO.length : Int) + 1 == (lO.length : Int)) = false := beq_eq_false_iff_ne.2 (by omega)
      obtain ⟨G, hG⟩ : ∃ q : ByteArray, q = ⟨(textR (d kJ) goodE).toArray⟩ := ⟨_, rfl⟩
      have hGs : G.size ≤ 1000 := by
        have h1 : (textR (d kJ) goodE).length ≤ 1000 := of_decide_eq_true (by kernel_rfl)
        rw [hG]
        show (textR (d kJ) goodE).toArray.size ≤ 1000
        rw [List.size_toArray]
        exact h1
      have hGd : d G = textR (d kJ) goodE := by rw [hG]
      have htext := text_calls KT none 0 goodE w31 (HR.out.1.below H31.out) (by constructor <;> decide) (by rw [HKJ.out]; decide) (fun h => absurd rfl h) (by decide) (fun x hx => by cases hx)
      rw [HKJ.out, show textT (d kJ) goodE = textR (d kJ) goodE by unfold textT; rw [good_right]; rfl, show textErr (d kJ) goodE = 0 by unfold textErr; rw [good_right]; rfl, ← hG, ← HKJ.out] at htext
      have HTX := Lib.hid htext
      have HG := Lib.hid (And.intro hG hGd)
      clear htext hG hGd
      go_wp2_with fail
      go_at_call 9
      refine HTX.out.mono ?_
      rintro e w32 ⟨rfl, hb32⟩
      have H32 := Lib.hid (Bthen H31.out hb32)
      clear hb32 HTX
      have ha1 : ∀ W, (Op.stringOp .add G ⟨#[32]⟩).run Tryz.prog W = .ok (.string (G ++ ⟨#[32]⟩)) W := fun W => run_string_add_sum W G _ (by show G.size + 1 ≤ _; omega)
      have ha2 : ∀ W, (Op.stringOp .add ⟨#[32]⟩ G).run Tryz.prog W = .ok (.string (⟨#[32]⟩ ++ G)) W := fun W => run_string_add_sum W _ G (by show 1 + G.size ≤ _; omega)
      go_wp2_with fail
      go_at_call 17
      have hd33 : d (G ++ ⟨#[32]⟩) = textR (d kJ) goodE ++ [32] := by rw [← HG.out.2]; simp [d]
      have hz : (G ++ (⟨#[32]⟩ : ByteArray)).size ≤ 1100000 := by
        have h1 : (⟨#[32]⟩ : ByteArray).size = 1 := rfl
        rw [ByteArray.size_append, h1]
        omega
      have hcall := read_calls (G ++ ⟨#[32]⟩) hz w32 (HR.out.1.below H32.out) (HES2.out.below H32.out)
      refine hcall.mono ?_
      clear hcall hz
      rintro e w33 ⟨hh, hb33⟩
      obtain rfl : e = .returned (.tuple #[zeroAgg, .int .i64 383]) := by
        rcases hh with ⟨k', la', lc', en', _, h1, h2, h3, _⟩ | ⟨h1, _⟩
        · exact absurd (h3.trans hd33) (behind_no _ en' h1 h2)
        · exact h1
      have H33 := Lib.hid (Bthen H32.out hb33)
      clear hh hb33 hd33
      dsimp only [zeroAgg]
      go_wp2_with fail
      go_at_call 17
      refine at_world ?_
      intro w34 hw34
      have H34 : Hid (Below wq.heap.size wq w34) := Lib.hid (by rw [hw34]; exact H33.out.alloc H33.out.size _)
      clear hw34
      have hd35 : d (⟨#[32]⟩ ++ G) = 32 :: textR (d kJ) goodE := by rw [← HG.out.2]; simp [d]
      have hz : ((⟨#[32]⟩ : ByteArray) ++ G).size ≤ 1100000 := by
        have h1 : (⟨#[32]⟩ : ByteArray).size = 1 := rfl
        rw [ByteArray.size_append, h1]
        omega
      have hcall := read_calls (⟨#[32]⟩ ++ G) hz w34 (HR.out.1.below H34.out) (HES2.out.below H34.out)
      refine hcall.mono ?_
      clear hcall hz
      rintro e w35 ⟨hh, hb35⟩
      obtain rfl : e = .returned (.tuple #[zeroAgg, .int .i64 383]) := by
        rcases hh with ⟨k', la', lc', en', _, h1, h2, h3, _⟩ | ⟨h1, _⟩
        · exact absurd (h3.trans hd35) (ahead_no _ en' h1 h2)
        · exact h1
      have H35 := Lib.hid (Bthen H34.out hb35)
      clear hh hb35 hd35
      dsimp only [zeroAgg]
      go_wp2_with fail
      go_at_call 18
      refine at_world ?_
      intro w36 hw36
      have H36 : Hid (Below wq.heap.size wq w36) := Lib.hid (by rw [hw36]; exact H35.out.alloc H35.out.size _)
      clear hw36
      have hcall := Tryz.strings_ToUpper_ascii G w36 (by omega) (fun j b hb => by
        have h1 := List.all_eq_true.1 good_ascii b (by rw [← HG.out.2]; exact List.mem_of_getElem? hb)
        simpa using h1)
      obtain ⟨U, hU⟩ : ∃ q : ByteArray, q = ⟨(Lib.toUpperA G.data.toList).toArray⟩ := ⟨_, rfl⟩
      have hUd : d U = Lib.toUpperA (textR (d kJ) goodE) := by rw [hU, ← HG.out.2]
      have hUs : U.size ≤ 1100000 := by
        have h1 : (Lib.toUpperA (textR (d kJ) goodE)).length ≤ 1100000 := of_decide_eq_true (by kernel_rfl)
        rw [← hUd] at h1
        simpa using h1
      rw [← hU] at hcall
      have HU := Lib.hid hUd
      clear hU hUd
      refine hcall.mono ?_
      clear hcall
      rintro e w37 ⟨rfl, hb37⟩
      have H37 := Lib.hid (Bthen H36.out hb37)
      clear hb37 ha1 ha2
      go_wp2_with fail
      go_at_call 17
      have hcall := read_calls U hUs w37 (HR.out.1.below H37.out) (HES2.out.below H37.out)
      refine hcall.mono ?_
      clear hcall
      rintro e w38 ⟨hh, hb38⟩
      obtain rfl : e = .returned (.tuple #[zeroAgg, .int .i64 383]) := by
        rcases hh with ⟨k', la', lc', en', _, h1, h2, h3, _⟩ | ⟨h1, _⟩
        · exact absurd (h3.trans (HU.out)) (upper_no _ en' h1 h2)
        · exact h1
      have H38 := Lib.hid (Bthen H37.out hb38)
      clear hh hb38
      dsimp only [zeroAgg]
      go_wp2_with fail
      go_ret
      exact ⟨rfl, HQ.out.1.trans ((H38.out.alloc H38.out.size _).mono HQ.out.1.size)⟩
end Go.Proofs.YtmagojckhfkcdaaGreatDoor.Sk
