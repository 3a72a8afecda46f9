/- Texts of the claim, put together: KTl. -/
import Derived.Test.YtdgfldeeflmnmaaGreatDoorSKwA
import Derived.Test.YtdgfldeeflmnmaaGreatDoorSKpA
import Derived.Test.YtdgfldeeflmnmaaGreatDoorSKoA
import Derived.RangeFuncNested
import Derived.RangeFuncBound
import Derived.RangeFuncCalls
import Derived.RangeFuncLeaves
import Derived.RangeFuncBox
import Derived.Shelf.Abstract
import Derived.Shelf.RegionOpen
import Derived.OwnWalkIn
import Derived.TacticsInMore
import Derived.LoopNIn
import Derived.LoopIn
import Derived.WalkKit
namespace Go.Proofs.YtdgfldeeflmnmaaGreatDoor.Sk
structure Sound (l : List It) : Prop where
  right : l.all (fun x => itemRight (d x.key) x.e) = true
  go : appGo (fun _ => none) l = 0
theorem appGo_append : ∀ (l m : List It) (f : Line → Last), appGo f (l ++ m) = if appGo f l = 0 then appGo (l.foldl know f) m else appGo f l
  | [], _, _ => by simp [appGo]
  | x :: r, m, f => by
    have h := appGo_append r m (know f x)
    simp only [List.cons_append, appGo, List.foldl_cons]
    by_cases h0 : fol f x = 0
    · simp only [if_pos h0, h]
    · simp only [if_neg h0]
theorem appErr_zero {its l : List It} (h : appErr its l = 0) : l.all (fun x => itemRight (d x.key) x.e) = true ∧ appGo (lastOf its) l = 0 ∧ its.length + l.length ≤ 65536 := by
  unfold appErr at h
  split at h
  · rename_i h1
    split at h
    · rename_i h2
      split at h
      · cases h
      · exact ⟨h1, h2, by omega⟩
    · rename_i h2
      exact absurd h h2
  · cases h
theorem Sound.app {its : List It} (h : Sound its) (l : List It) : Sound (app its l) := by
  unfold Sk.app
  split
  · rename_i h0
    obtain ⟨h1, h2, _⟩ := appErr_zero h0
    refine ⟨by rw [List.all_append, h.right, h1]; rfl, ?_⟩
    rw [appGo_append, if_pos h.go]
    exact h2
  · exact h
theorem Sound.nil : Sound [] := ⟨rfl, rfl⟩
theorem Sound.left {l m : List It} (h : Sound (l ++ m)) : Sound l := by
  refine ⟨?_, ?_⟩
  · have := h.right
    rw [List.all_append, Bool.and_eq_true] at this
    exact this.1
  · have := h.go
    rw [appGo_append] at this
    split at this
    · assumption
    · exact this
end Go.Proofs.YtdgfldeeflmnmaaGreatDoor.Sk
namespace Go.Proofs.YtdgfldeeflmnmaaGreatDoor.Sk
end Go.Proofs.YtdgfldeeflmnmaaGreatDoor.Sk
namespace Go.Proofs.YtdgfldeeflmnmaaGreatDoor.Sk
def ownL (K : ByteArray) (l : List It) : List It := l.filter fun x => decide (x.key = K)
theorem ownL_snoc_yes {K : ByteArray} {l : List It} {x : It} (h : x.key = K) : ownL K (l ++ [x]) = ownL K l ++ [x] := by
  unfold ownL
  rw [List.filter_append]
  simp [h]
theorem ownL_snoc_no {K : ByteArray} {l : List It} {x : It} (h : x.key ≠ K) : ownL K (l ++ [x]) = ownL K l := by
  unfold ownL
  rw [List.filter_append]
  simp [h]
end Go.Proofs.YtdgfldeeflmnmaaGreatDoor.Sk
namespace Go.Proofs.YtdgfldeeflmnmaaGreatDoor.Sk
open Go Go.RowKit
/-- a block of labels from B on, that may be written -/
def LZ (B : Nat) (w : World) (a : Option Addr) (c : Nat) : Prop := ∀ q, a = some q → B ≤ q.block ∧ q.off = 0 ∧ q.spot = none ∧ ∃ cur : Array Value, w.heap[q.block]? = some (.cells cur 79 (0, 0)) ∧ cur.size = c * 2 ∧ c ≤ 9223372036854775807
theorem LZ.fr {X : Nat → Prop} {B c : Nat} {w w' : World} {a : Option Addr} (h : LZ B w a c) (hf : Fr X w w') (hx : ∀ b, isT w b 79 → ¬ X b) : LZ B w' a c := fun q e => by
  obtain ⟨h1, h2, h3, cur, hh, hz⟩ := h q e
  exact ⟨h1, h2, h3, cur, (hf.block _ (isT_of hh).lt (hx _ (isT_of hh))).trans hh, hz⟩
theorem LZ.below {B c : Nat} {w w' : World} {a : Option Addr} (h : LZ B w a c) (hb : Below w.heap.size w w') : LZ B w' a c := fun q e => by
  obtain ⟨h1, h2, h3, cur, hh, hz⟩ := h q e
  exact ⟨h1, h2, h3, cur, (hb.block _ (isT_of hh).lt).trans hh, hz⟩
theorem LZ.mono {B C c : Nat} {w : World} {a : Option Addr} (h : LZ C w a c) (hB : B ≤ C) : LZ B w a c := fun q e => by
  obtain ⟨h1, h2⟩ := h q e
  exact ⟨Nat.le_trans hB h1, h2⟩
theorem LZ.of_own {w : World} {base n cap k : Nat} {a : Option Addr} {xs : List Value} (h : w.ownsRow base 79 2 (.slice a n cap) k xs) : LZ base w a cap := fun q e => by
  rcases h.2 with ⟨hv, h0⟩ | ⟨g, cap', cur, hv, hb, hg, _, hm, hz, _⟩
  · rw [e] at hv; cases hv
  · rw [e] at hv; cases hv
    exact ⟨hb, rfl, rfl, cur, hg, hz, hm⟩
/-- labels behind an address that the call made -/
structure LlF (B : Nat) (w : World) (a : Option Addr) (cap : Nat) (l : List Lab) : Prop where
  ll : Ll w a cap l
  lz : LZ B w a cap
theorem LlF.fr {X : Nat → Prop} {B : Nat} {w w' : World} {a : Option Addr} {cap : Nat} {l : List Lab} (h : LlF B w a cap l) (hf : Fr X w w') (hx : ∀ b, isT w b 79 → ¬ X b) : LlF B w' a cap l := ⟨h.ll.fr hf hx, h.lz.fr hf hx⟩
theorem LlF.below {B : Nat} {w w' : World} {a : Option Addr} {cap : Nat} {l : List Lab} (h : LlF B w a cap l) (hb : Below w.heap.size w w') (_ : w.heap.size ≤ w.heap.size) : LlF B w' a cap l := ⟨h.ll.below hb (Nat.le_refl _), h.lz.below hb⟩
theorem LlF.le {B : Nat} {w : World} {a : Option Addr} {cap : Nat} {l : List Lab} (h : LlF B w a cap l) : l.length ≤ cap := by
  rcases Nat.eq_zero_or_pos l.length with h0 | h0
  · omega
  · obtain ⟨b, off, e, _, hc⟩ := h.ll.rd (by intro e; subst e; simp at h0)
    obtain ⟨_, h2, _, cur, h4, h5, _⟩ := h.lz _ e
    dsimp only at h2 h4
    subst h2
    have hx : l[l.length - 1]? = some (l[l.length - 1]'(by omega)) := List.getElem?_eq_getElem (by omega)
    have hcell := (hc _ _ hx).2
    simp only [World.cell?, h4] at hcell
    have := (Array.getElem?_eq_some_iff.1 hcell).1
    omega
theorem LlF.mono {B C : Nat} {w : World} {a : Option Addr} {cap : Nat} {l : List Lab} (h : LlF C w a cap l) (hB : B ≤ C) : LlF B w a cap l := ⟨h.ll, h.lz.mono hB⟩
theorem llF_grown {B : Nat} {W w' : World} {base k : Nat} {v : Value} {xs : List Value} {T : TypeId} {size : Nat} (hown : W.ownsRow base T size v k xs) (hT : 79 ≠ T) (hg : W.grownBy w' v.ownBlock) {a : Option Addr} {c : Nat} {m : List Lab} (hl : LlF B W a c m) : LlF B w' a c m :=
  hl.fr (fr_grown (X := fun k => v.ownBlock = some k) hg (fun _ hk => hk)) (fun _ hb e => hb.ne (own_isT hown e) hT rfl)
set_option maxRecDepth 100000 in
theorem copied_callsF (x : SI) (w : World) (h : Ll w x.la x.lc x.e.lab) (hn : x.e.lab.length ≤ 1000000000) :
    Calls Tryz.prog 44 #[.agg #[.string x.key, .slice x.la x.e.lab.length x.lc, .bool x.e.mark, .int .u64 x.e.bits, .bool x.e.st, .int .i64 x.e.time, .int .i64 x.e.stamp]] w
      fun e w' => ∃ a c, e = .returned (.agg #[.string x.key, .slice a x.e.lab.length c, .bool x.e.mark, .int .u64 x.e.bits, .bool x.e.st, .int .i64 x.e.time, .int .i64 x.e.stamp]) ∧ LlF w.heap.size w' a c x.e.lab ∧ Below w.heap.size w w' := by
  go_enter Tryz.func44, Tryz.ntmps44
  go_wp2_with fail
  go_at_call 92
  refine (cloneL_calls x.la x.lc x.e.lab _ (h.rd.below (((Below.refl _ _).alloc (Nat.le_refl _) _).alloc (by simp) _) (Nat.le_refl _)) h.nil hn).mono ?_
  rintro e w1 ⟨v, rfl, hown, hb1⟩
  obtain ⟨a, c, rfl⟩ := own_form hown
  have dd : ∀ i v, (#[Value.string x.key, .slice x.la x.e.lab.length x.lc, .bool x.e.mark, .int .u64 x.e.bits, .bool x.e.st, .int .i64 x.e.time, .int .i64 x.e.stamp] : Array Value)[i]? = some v → w1.cell? ⟨w.heap.size, i, none⟩ = some v := fun i v hv => by
    rw [hb1.cell (p := ⟨w.heap.size, i, none⟩) (by simp; omega), World.cell?_alloc_lt _ _ _ (by simp)]
    exact new_cell _ _ _ _ _ hv
  have dz : ∀ i v, (#[Value.string ⟨#[]⟩, .slice none 0 0, .bool false, .int .u64 0, .bool false, .int .i64 0, .int .i64 0] : Array Value)[i]? = some v → w1.cell? ⟨w.heap.size + 1, i, none⟩ = some v := fun i v hv => by
    rw [hb1.cell (p := ⟨w.heap.size + 1, i, none⟩) (by simp)]
    have := new_cell (w.alloc (.cells #[.string x.key, .slice x.la x.e.lab.length x.lc, .bool x.e.mark, .int .u64 x.e.bits, .bool x.e.st, .int .i64 x.e.time, .int .i64 x.e.stamp] 40)) _ 40 i v hv
    simpa using this
  have ff : ∀ b i, b = w.heap.size ∨ b = w.heap.size + 1 → w1.frozen? ⟨b, i, none⟩ = false := fun b i hb => by
    rw [hb1.frozen (p := ⟨b, i, none⟩) (by simp; omega)]
    rcases hb with rfl | rfl
    · rw [World.frozen?_alloc_past _ _ _ (by simp)]
      exact new_frozN _ _ _ 0 _
    · simp
  have hT : ∀ b, b = w.heap.size ∨ b = w.heap.size + 1 → isT w1 b 40 := fun b hb => by
    rcases hb with rfl | rfl
    · exact ⟨_, _, ((hb1.block _ (by simp; omega)).trans (Below.heap_alloc _ _ _ (by simp))).trans (heap_alloc_new w _)⟩
    · have := heap_alloc_new (w.alloc (.cells #[.string x.key, .slice x.la x.e.lab.length x.lc, .bool x.e.mark, .int .u64 x.e.bits, .bool x.e.st, .int .i64 x.e.time, .int .i64 x.e.stamp] 40)) (.cells #[.string ⟨#[]⟩, .slice none 0 0, .bool false, .int .u64 0, .bool false, .int .i64 0, .int .i64 0] 40)
      exact ⟨_, _, (hb1.block _ (by simp)).trans (by simpa using this)⟩
  have HT := Lib.hid hT
  have e0 := dd 0 _ rfl
  have e1 := dd 1 _ rfl
  have e2 := dd 2 _ rfl
  have e3 := dd 3 _ rfl
  have e4 := dd 4 _ rfl
  have e5 := dd 5 _ rfl
  have e6 := dd 6 _ rfl
  have z0 := dz 0 _ rfl
  have z1 := dz 1 _ rfl
  have z2 := dz 2 _ rfl
  have z3 := dz 3 _ rfl
  have z4 := dz 4 _ rfl
  have z5 := dz 5 _ rfl
  have z6 := dz 6 _ rfl
  have g1 := ff _ 1 (.inl rfl)
  have q0 := ff _ 0 (.inr rfl)
  have q1 := ff _ 1 (.inr rfl)
  have q2 := ff _ 2 (.inr rfl)
  have q3 := ff _ 3 (.inr rfl)
  have q4 := ff _ 4 (.inr rfl)
  have q5 := ff _ 5 (.inr rfl)
  have q6 := ff _ 6 (.inr rfl)
  have hz1 : w.heap.size + 1 < w1.heap.size := by have := hb1.size; simp at this; omega
  have HL := Lib.hid (show LlF w.heap.size w1 a c x.e.lab from ⟨Ll.of_own hown, (LZ.of_own hown).mono (by simp; omega)⟩)
  have HB1 : Hid (Below w.heap.size w w1) := Lib.hid ((((Below.refl _ _).alloc (Nat.le_refl _) _).alloc (by simp) _).trans (hb1.mono (by simp; omega)))
  clear hown hb1 dd dz ff h hT
  go_wp2
  refine bodyPost_ret (v := .agg #[.string x.key, .slice a x.e.lab.length c, .bool x.e.mark, .int .u64 x.e.bits, .bool x.e.st, .int .i64 x.e.time, .int .i64 x.e.stamp]) (by simp [results, Tryz.results44, go_sem, z0, z1, z2, z3, z4, z5, z6]) rfl ⟨a, c, rfl, ?_, ?_⟩
  · refine HL.out.fr (X := fun k => k = w.heap.size ∨ k = w.heap.size + 1) ?_ (fun b hb hx => (hb.ne (HT.out b hx) (by decide)) rfl)
    iterate 8 (refine Fr.setCell ?_ (by first | exact .inl rfl | exact .inr rfl) _)
    exact Fr.refl _ _
  · iterate 8 (refine Below.setCell ?_ (by simp only; omega) _)
    exact HB1.out
/-- what a call gives that makes items of its own -/
def OutF (w : World) (its : List It) (e : Ending) (w' : World) : Prop :=
  ∃ a c lo, e = .returned (.slice a (List.length lo) c) ∧ w'.ownsRow w.heap.size 40 7 (.slice a lo.length c) lo.length (iFlat lo) ∧ (∀ x ∈ lo, LlF w.heap.size w' x.la x.lc x.e.lab) ∧ lo.map SI.it = its ∧ Below w.heap.size w w'
def FrInvF (w : World) (l : List SI) (out i : Value) (wr : World) : Prop :=
  ∃ (k : Nat) (lo : List SI), k ≤ l.length ∧ i = .int .i64 k ∧ wr.ownsRow w.heap.size 40 7 out lo.length (iFlat lo) ∧ (∀ x ∈ lo, LlF w.heap.size wr x.la x.lc x.e.lab) ∧ lo.map SI.it = (l.take k).map SI.it ∧ Below w.heap.size w wr
theorem FrInvF.step {w wr w5 w6 : World} {l lo : List SI} {k : Nat} {x : SI} {a5 : Option Addr} {c5 : Nat} {o o' : Obj} {out out' : Value} (hx : l[k]? = some x) (hown : wr.ownsRow w.heap.size 40 7 out lo.length (iFlat lo)) (hl : ∀ x ∈ lo, LlF w.heap.size wr x.la x.lc x.e.lab) (hm : lo.map SI.it = (l.take k).map SI.it) (hb : Below w.heap.size w wr)
    (hb5 : Below (wr.alloc o).heap.size (wr.alloc o) w5) (hl5 : LlF w.heap.size w5 a5 c5 x.e.lab) (hown' : w6.ownsRow w.heap.size 40 7 out' (lo.length + 1) (iFlat lo ++ iB ⟨x.key, a5, c5, x.e⟩)) (hg : (w5.alloc o').grownBy w6 out.ownBlock) : FrInvF w l out' (.int .i64 ((k + 1 : Nat) : Int)) w6 := by
  have hb1 : Below wr.heap.size wr w5 := ((Below.refl _ _).alloc (Nat.le_refl _) o).trans (hb5.mono (by simp))
  have hb2 : Below wr.heap.size wr (w5.alloc o') := hb1.alloc hb1.size o'
  have hown2 : (w5.alloc o').ownsRow w.heap.size 40 7 out lo.length (iFlat lo) := own_fr hown (X := fun k => wr.heap.size ≤ k) (Fr.of_below hb2) (fun k hk => by have := (own_isT hown hk).lt; omega)
  have hbw := hb.size
  refine ⟨k + 1, lo ++ [⟨x.key, a5, c5, x.e⟩], by have := (List.getElem?_eq_some_iff.1 hx).1; omega, rfl, ?_, ?_, ?_, ?_⟩
  · rw [iFlat_append]
    simpa [iFlat] using hown'
  · intro y hy
    rcases List.mem_append.1 hy with hy | hy
    · exact llF_grown hown2 (by decide) hg ((hl y hy).below hb2 (Nat.le_refl _))
    · obtain rfl : y = _ := by simpa using hy
      exact llF_grown hown2 (by decide) hg (hl5.below ((Below.refl _ _).alloc (Nat.le_refl _) o') (Nat.le_refl _))
  · rw [List.map_append, hm, List.take_add_one, hx, List.map_append]
    rfl
  · have h2 : Below w.heap.size w (w5.alloc o') := hb.trans (hb2.mono hbw)
    exact below_own h2 h2.size hown2 hg
set_option maxRecDepth 100000 in
set_option maxHeartbeats 2000000 in
theorem from_someF (n : Nat) (w : World) {p base mb n' : Nat} {v : Value} {l : List SI} (h : SinkAt w p base mb n' v l) (hn : n < l.length) :
    Calls Tryz.prog 49 #[.pointer (some ⟨p, 0, none⟩), .int .i64 (n : Int)] w (OutF w ((l.drop n).map SI.it)) := by
  have c1 : w.cell? ⟨p, 1, none⟩ = some (.map (some mb)) := by simp [World.cell?, h.cells]
  have c0 : w.cell? ⟨p, 0, none⟩ = some v := by simp [World.cell?, h.cells]
  obtain ⟨va, vc, rfl⟩ := own_form h.own
  obtain ⟨g, rfl, hg1, hg2, hg3⟩ := own_at0 h.own (iFlat_ne (by intro e; subst e; simp at hn))
  have hrd : RdI w (some ⟨g, 0 + n * 7, none⟩) (l.drop n) := (RdI.of_own h.own h.lab).drop n
  rw [Nat.zero_add] at hrd
  have hok : ∀ x ∈ l.drop n, x.e.lab.length ≤ 1000000000 := fun x hx => by
    have := (labRight_ok (right_lab (h.ok x (List.mem_of_mem_drop hx)).1)).1
    omega
  have hcap : l.length ≤ vc := by
    rcases h.own.2 with ⟨_, h0⟩ | ⟨g', cap', cur, hv, _, _, h1, _⟩
    · omega
    · cases hv; exact h1
  have hle := h.len
  obtain ⟨m, hm⟩ : ∃ m, m = (l.drop n).length := ⟨_, rfl⟩
  have hml : m = l.length - n := by rw [hm, List.length_drop]
  have hvc : ¬ (vc = n) := by omega
  have hvm : vc ≤ 9223372036854775807 := by
    rcases h.own.2 with ⟨_, h0⟩ | ⟨g', cap', cur, hv, _, _, _, h2, _⟩
    · omega
    · cases hv; unfold maxLen at h2; omega
  have hn0 : decide ((n : Int) < 0) = false := by simp
  have hn1 : decide (l.length < n) = false := by simp; omega
  have HOK := Lib.hid (And.intro hok hrd)
  have HM := Lib.hid hm
  clear h hok hg1 hg2 hg3 hrd hm
  go_enter Tryz.func49, Tryz.ntmps49
  go_wp2_with fail
  go_at_call 39
  refine (none_cell _ (mb := mb) c1).mono ?_
  rintro e w1 ⟨rfl, rfl⟩
  go_wp2_with fail
  go_loopw [5, 30] (fun out i wr => FrInvF w (l.drop n) out i wr) (fun _ i _ => (l.length - n) - (intOf i).toNat)
  case atStart => exact ⟨0, [], Nat.zero_le _, rfl, World.ownsRow_nil _ _ _ _, (fun x hx => by cases hx), rfl, Below.refl _ _⟩
  case round =>
    obtain ⟨k, lo, hk, rfl, hown, hll, hm, hb⟩ := hrel
    rw [← HM.out, hml] at hk
    have hbs := hb.size
    have HB := Lib.hid hb
    have HO := Lib.hid (And.intro hown (And.intro hll hm))
    have hlo : lo.length ≤ 65536 := by
      have := congrArg List.length hm
      rw [List.length_map, List.length_map, List.length_take] at this
      omega
    clear hown hll hm hb
    by_cases hlt : k < l.length - n
    · obtain ⟨x, hx⟩ : ∃ x, (l.drop n)[k]? = some x := ⟨_, List.getElem?_eq_getElem (by rw [List.length_drop]; exact hlt)⟩
      obtain ⟨b, off, e, hbl, ht, hc⟩ := (HOK.out.2.below HB.out (Nat.le_refl _)).at_ hx
      cases e
      have hxm := List.mem_of_getElem? hx
      have HX := Lib.hid (And.intro hx (And.intro (HOK.out.1 x hxm) ((HOK.out.2.lab x hxm).below HB.out (Nat.le_refl _))))
      have c0 := hc 0 _ rfl
      rw [Nat.add_zero] at c0
      have c1 := hc 1 _ rfl
      have c2 := hc 2 _ rfl
      have c3 := hc 3 _ rfl
      have c4 := hc 4 _ rfl
      have c5 := hc 5 _ rfl
      have c6 := hc 6 _ rfl
      obtain ⟨w0, hw0⟩ : ∃ q, q = wr := ⟨_, rfl⟩
      subst hw0
      clear hc hx hxm ht
      go_wp2_with fail
      go_at_call 44
      refine (copied_callsF x _ (HX.out.2.2.below ((Below.refl _ _).alloc (Nat.le_refl _) _) (Nat.le_refl _)) HX.out.2.1).mono ?_
      rintro e w5 ⟨a5, c5', rfl, hl5, hb5⟩
      have hb05 : Below w0.heap.size w0 w5 := ((Below.refl _ _).alloc (Nat.le_refl _) _).trans (hb5.mono (by simp))
      have HO5 : Hid (w5.ownsRow w.heap.size 40 7 u5 lo.length (iFlat lo)) := Lib.hid (own_fr HO.out.1 (X := fun k => w0.heap.size ≤ k) (Fr.of_below hb05) (fun k hk => by have := (own_isT HO.out.1 hk).lt; omega))
      have hs5 := hb05.size
      have H5 := Lib.hid (And.intro hb5 (hl5.mono (B := w.heap.size) (by have h1 := hbs; simp; omega)))
      clear hb5 hl5 hb05 c0 c1 c2 c3 c4 c5 c6
      go_wp2_with (at_builtin; refine wpList_app rfl _ _ 28 40 7 80 _ rfl Tryz.underlying28 Tryz.info40 rfl (by decide) (by decide) w.heap.size _ lo.length (iFlat lo) rfl (HO5.out.alloc _) ⟨w5.heap.size, 0, none⟩ 1 1 (iB ⟨x.key, a5, c5', x.e⟩) rfl rfl (cells_new w5 #[.string x.key, .slice a5 x.e.lab.length c5', .bool x.e.mark, .int .u64 x.e.bits, .bool x.e.st, .int .i64 x.e.time, .int .i64 x.e.stamp] _ _ rfl) (by intro u hu; simp [iB] at hu; rcases hu with rfl | rfl | rfl | rfl | rfl | rfl | rfl <;> rfl) (by omega) (by simp; omega) ?_; intro v6 w6 hown6 hgrow6 _ _; have H6 := Lib.hid (And.intro hown6 hgrow6); clear hown6 hgrow6)
      go_roundw
      case rel => exact FrInvF.step HX.out.1 HO.out.1 HO.out.2.1 HO.out.2.2 HB.out H5.out.1 H5.out.2 H6.out.1 H6.out.2
      case measure => simp [intOf]; omega
    · obtain rfl : k = l.length - n := by omega
      have hm2 := HO.out.2.2
      rw [List.take_of_length_le (by simp)] at hm2
      have HM2 := Lib.hid hm2
      clear hm2
      obtain ⟨ao, co, rfl⟩ := own_form HO.out.1
      go_wp2
      go_ret
      exact ⟨ao, co, lo, rfl, HO.out.1, HO.out.2.1, HM2.out, HB.out⟩
theorem OutI.toF {w w' : World} {e : Ending} (h : OutI w [] e w') : OutF w [] e w' := by
  obtain ⟨a, c, lo, h1, h2, h3, h4, h5⟩ := h
  have h0 : lo = [] := List.map_eq_nil_iff.1 h4
  subst h0
  exact ⟨a, c, [], h1, h2, (fun x hx => by cases hx), rfl, h5⟩
theorem from_callsF (i : Int) (w : World) {p base mb n' : Nat} {v : Value} {l : List SI} (h : SinkAt w p base mb n' v l) :
    Calls Tryz.prog 49 #[.pointer (some ⟨p, 0, none⟩), .int .i64 i] w (OutF w (fromS (l.map SI.it) i)) := by
  by_cases hi : 0 ≤ i ∧ i < l.length
  · obtain ⟨n, rfl⟩ := Int.eq_ofNat_of_zero_le hi.1
    have : fromS (l.map SI.it) (n : Int) = (l.drop n).map SI.it := by
      unfold fromS
      rw [List.length_map, if_pos ⟨hi.1, by omega⟩, show (n : Int).toNat = n from rfl, ← List.map_drop]
    rw [this]
    exact from_someF n w h (by omega)
  · have : fromS (l.map SI.it) i = [] := by
      unfold fromS
      rw [List.length_map]
      split
      · exact List.drop_of_length_le (by simp; omega)
      · rfl
    have hf := from_calls i w h
    rw [this] at hf ⊢
    exact hf.mono fun _ _ h => OutI.toF h
set_option maxRecDepth 100000 in
theorem all_callsF (w : World) {p base mb n' : Nat} {v : Value} {l : List SI} (h : SinkAt w p base mb n' v l) :
    Calls Tryz.prog 14 #[.pointer (some ⟨p, 0, none⟩)] w (OutF w (l.map SI.it)) := by
  have hf := from_callsF 0 w h
  rw [show fromS (l.map SI.it) 0 = l.map SI.it by unfold fromS; rw [if_pos ⟨by decide, by omega⟩]; rfl] at hf
  have HF := Lib.hid hf
  clear hf h
  go_enter Tryz.func14, Tryz.ntmps14
  go_wp2_with fail
  go_at_call 49
  refine HF.out.mono ?_
  rintro e w1 ⟨a, c, lo, rfl, hown, hl, hm, hb⟩
  have H := Lib.hid (And.intro hown (And.intro hl (And.intro hm hb)))
  clear hown hl hm hb
  go_wp2
  go_ret
  exact ⟨a, c, lo, rfl, H.out⟩
end Go.Proofs.YtdgfldeeflmnmaaGreatDoor.Sk
namespace Go.Proofs.YtdgfldeeflmnmaaGreatDoor
open Go Go.RowKit
/-- the iterator's contract: what it tells of x at its yield (Px), what of all of them at the end (S) -/
def Teller {α : Type} (F : Fence) (n : Nat) (P : Program) (gf : Nat) (lb : Array Value) (encs : α → Array Value) (Px : List α → α → World → Prop) (Kp : World → World → Prop) (S : List α → World → Prop) (w : World) : Prop :=
  ∀ (l : Nat) (J : List α → World → Prop) (W : World), Below w.heap.size w W → AbidesFrom W.heap.size J →
    (∀ pre x W1, J pre W1 → Px pre x W1 → YieldAt F (n - 1) P l (encs x) W1 fun e W' => e = .returned (.bool true) ∧ J (pre ++ [x]) W' ∧ Kp W1 W') →
    J [] W → CallsIn F n P gf (#[.func (.yield l) #[] #[]] ++ lb) W fun e W' => (∃ v, e = .returned v) ∧ ∃ xs, S xs W' ∧ J xs W'
/-- how a round's body ends -/
def TellEnd {α : Type} (B : Nat) (Kp : World → World → Prop) (I : List α → World → Prop) (xs : List α) (W : World) : Exit → Act → World → Prop
  | .normal, _, W' => KeepsFrom B W W' ∧ Kp W W' ∧ I xs W'
  | _, _, _ => False
variable {F : Fence} {n : Nat} {P : Program}
theorem range_tell {α : Type} {g : Operand} {ps : Array Tmp} {assign body : Code} {Q : Exit → Act → World → Prop} {a : Act} {w : World}
    (hro : F.round = none) (h1 : 1 ≤ n) {gf : Nat} {lb : Array Value} (hg : a.eval g = .func (.func gf) #[] lb) (hFg : F.fn gf) (eg : ∀ args w, (callFunc gf args).run P w = .ok (.enter gf args) w)
    {encs : α → Array Value} {Px : List α → α → World → Prop} {Kp : World → World → Prop} {S : List α → World → Prop} (hseq : Teller F (n - 1) P gf lb encs Px Kp S w)
    (hps : ∀ x, (encs x).size = ps.size) (hKt : ∀ {A B C : World}, Kp A B → Kp B C → Kp A C) (hKb : ∀ (W : World) (o o' : Obj), W.heap[w.heap.size + 1]? = some o → o.isCells = false → Kp W (W.putObj (w.heap.size + 1) o'))
    (I : List α → World → Prop) (hI : OwnFrom w.heap.size I) (h0 : I [] w) (hS : OwnFrom w.heap.size S) (Ax : List α → α → Act → World → Prop) (hAx : ∀ pre x a', OwnFrom w.heap.size (fun (_ : Unit) W => Ax pre x a' W))
    (hassign : ∀ (l : Nat) (pre : List α) (x : α) (W : World) (K : Act → World → Prop), I pre W → Px pre x W → (∀ a' W', KeepsFrom w.heap.size W W' → Kp W W' → I pre W' → Ax pre x a' W' → K a' W') →
      assign.wpIn (F.inRound l) (n - 1 - 1) P (Exit.then K (fun _ _ _ => False)) { tmps := (ps.zip (encs x)).foldl (fun t (p, v) => t.setIfInBounds p v) a.tmps, defers := [] } W)
    (hbody : ∀ (l : Nat) (pre : List α) (x : α) (a' : Act) (W : World), w.heap.size ≤ l → I pre W → Ax pre x a' W → body.wpIn (F.inRound l) (n - 1 - 1) P (TellEnd w.heap.size Kp I (pre ++ [x]) W) a' W)
    (hdone : ∀ (D : Nat) (xs : List α) (W : World), w.heap.size ≤ D → S xs W → I xs W → W.heap[D]? = some (.deferred (some [])) → Q .normal { a with defers := { target := .collected D, args := #[] } :: a.defers } W) :
    (Code.rangeFunc g ps assign body).wpIn F n P Q a w := by
  refine wpIn_rangeFunc ?_
  intro fn hfn
  rw [hro]
  obtain ⟨rc, hrc⟩ : ∃ rc : LoopState → Loop, rc = fun st => { state := st, pending := none, fn, tmps := a.tmps, params := ps, assign, body, defers := w.heap.size } := ⟨_, rfl⟩
  -- the two blocks that keep the loop's books
  have hbk : ∀ W : World, (W.heap[w.heap.size + 1]? = some (.loop (rc .ready)) ∧ W.heap[w.heap.size]? = some (.deferred (some []))) → w.heap.size + 1 < W.heap.size := fun W h => (Array.getElem?_eq_some_iff.1 h.1).1
  have hnew : ((w.alloc (.deferred (some []))).alloc (.loop (rc .ready))).heap[w.heap.size + 1]? = some (.loop (rc .ready)) := by
    have h := heap_alloc_new (w.alloc (.deferred (some []))) (.loop (rc .ready))
    simpa using h
  have hold : ((w.alloc (.deferred (some []))).alloc (.loop (rc .ready))).heap[w.heap.size]? = some (.deferred (some [])) :=
    (Below.heap_alloc _ _ _ (by simp)).trans (heap_alloc_new w _)
  have hbel : Below w.heap.size w ((w.alloc (.deferred (some []))).alloc (.loop (rc .ready))) := ((Below.refl _ _).alloc (Nat.le_refl _) _).alloc (by simp) _
  refine ⟨w.heap.size + 1, [{ target := .collected w.heap.size, args := #[] }], (w.alloc (.deferred (some []))).alloc (.loop (rc .ready)), { target := .fn (.func gf) lb, args := #[.func (.yield (w.heap.size + 1)) #[] #[]] }, ((w.alloc (.deferred (some []))).alloc (.loop (rc .ready))), gf, #[.func (.yield (w.heap.size + 1)) #[] #[]] ++ lb, ((w.alloc (.deferred (some []))).alloc (.loop (rc .ready))),
    by rw [hrc]; exact run_enterLoop_outer _ _ _ _ _, by simp only [resolve, hg]; simp [go_sem], ?_, by simp [invoke, go_sem, eg], fun _ => h1, ?_⟩
  · intro f' hf'
    simp [Target.leads] at hf'
    subst hf'
    exact hFg
  · refine (hseq (w.heap.size + 1) (fun pre W => I pre W ∧ W.heap[w.heap.size + 1]? = some (.loop (rc .ready)) ∧ W.heap[w.heap.size]? = some (.deferred (some []))) _ hbel ?_ ?_ ⟨hI.alloc _ (hI.alloc _ h0), hnew, hold⟩).mono ?_
    · intro s A B row hs hgr hr
      have hw : ∀ r, row = some r → ∃ o : Obj, A.heap[r]? = some o ∧ o.isWalk = true := fun r e => (hr r e).2
      refine ⟨hI s A B row hs.1 hgr (fun r e => ?_), (grownBy_keeps hgr hw hs.2.1 rfl).trans hs.2.1, (grownBy_keeps hgr hw hs.2.2 rfl).trans hs.2.2⟩
      obtain ⟨hB, o, ho, hwk⟩ := hr r e
      exact ⟨by simp at hB; omega, o, ho, Obj.not_cells_of_walk hwk⟩
    · rintro pre x W ⟨hi, hl, hk⟩ hx
      have hy := run_yield (P := P) (args := encs x) hl (by rw [hrc]; exact hps x)
      rw [hrc] at hy
      refine ⟨fn, _, assign, body, hy, roundIn_of_wpIn hfn (hassign _ pre x W _ hi hx ?_)⟩
      intro a' Wa hka hkp hia hax
      have hla := hka.same _ _ (by omega) hl rfl
      have hda := hka.same _ _ (Nat.le_refl _) hk rfl
      have hlt := hbk Wa ⟨hla, hda⟩
      refine ⟨_, run_beginRound hla (by rw [hrc]), ?_⟩
      obtain ⟨Wb, hWb⟩ : ∃ Wb, Wb = Wa.putObj (w.heap.size + 1) (.loop { rc .ready with state := .busy }) := ⟨_, rfl⟩
      rw [← hWb]
      have hlb : Wb.heap[w.heap.size + 1]? = some (.loop { rc .ready with state := .busy }) := by rw [hWb]; exact World.putObj_heap_same hlt
      have hdb : Wb.heap[w.heap.size]? = some (.deferred (some [])) := by rw [hWb]; exact (World.putObj_heap_other (by omega)).trans hda
      have hkb : Kp Wa Wb := by rw [hWb]; exact hKb _ _ _ hla rfl
      refine wpIn_mono (hbody (w.heap.size + 1) pre x a' Wb (by omega) (by rw [hWb]; exact hI.putObj _ hia (by omega) hla rfl) (by rw [hWb]; exact (hAx pre x a').putObj (s := ()) _ hax (by omega) hla rfl)) ?_
      intro e a3 W3 hp
      cases e with
      | normal =>
        obtain ⟨hk3, hkp3, hi3⟩ := hp
        have hl3 := hk3.same _ _ (by omega) hlb rfl
        have hd3 := hk3.same _ _ (Nat.le_refl _) hdb rfl
        have hr3 := run_endRound (P := P) none hl3
        refine ⟨_, _, hr3, rfl, ⟨hI.putObj _ hi3 (by omega) hl3 rfl, ?_, (World.putObj_heap_other (by omega)).trans hd3⟩, hKt hkp (hKt hkb (hKt hkp3 (hKb _ _ _ hl3 rfl)))⟩
        have h4 := World.putObj_heap_same (o := .loop { { rc .ready with state := .busy } with state := if (none : Option Code).isNone then .ready else .done, pending := none }) (Array.getElem?_eq_some_iff.1 hl3).1
        rw [h4, hrc]
        rfl
      | ret => exact hp.elim
      | exit id => exact hp.elim
      | goto t => exact hp.elim
      | panic ch => exact hp.elim
      | outgrown => exact hp.elim
    · rintro e W2 ⟨⟨v, rfl⟩, xs, hs, hi, hl, hk⟩
      have hr2 := run_endLoop (P := P) hl (by rw [hrc]; simp)
      rw [hrc] at hr2
      exact ⟨none, _, hr2, hdone _ xs _ (Nat.le_refl _) (hS.putObj _ hs (by omega) hl rfl) (hI.putObj _ hi (by omega) hl rfl) ((World.putObj_heap_other (by omega)).trans hk)⟩
end Go.Proofs.YtdgfldeeflmnmaaGreatDoor
namespace Go.Proofs.YtdgfldeeflmnmaaGreatDoor.Sk
open Go Go.RowKit Go.Shelf
attribute [local go_sem] Oper.semAt_some
def eAgg (x : SE) : Value := .agg #[.slice x.la x.e.lab.length x.lc, .bool x.e.mark, .int .u64 x.e.bits, .bool x.e.st, .int .i64 x.e.time, .int .i64 x.e.stamp]
/-- what a round of Of keeps: whatever is no entry and no slice of entries -/
structure KpE (W W' : World) : Prop where
  size : W.heap.size ≤ W'.heap.size
  same : ∀ (b : Nat) (cs : Array Value) (T : TypeId) (fz : Nat × Nat), T ≠ 34 → T ≠ 45 → W.heap[b]? = some (.cells cs T fz) → W'.heap[b]? = some (.cells cs T fz)
theorem KpE.refl (W : World) : KpE W W := ⟨Nat.le_refl _, fun _ _ _ _ _ _ h => h⟩
theorem KpE.trans {A B C : World} (h : KpE A B) (k : KpE B C) : KpE A C := ⟨Nat.le_trans h.size k.size, fun b cs T fz h1 h2 h3 => k.same b cs T fz h1 h2 (h.same b cs T fz h1 h2 h3)⟩
theorem KpE.cell {W W' : World} (h : KpE W W') {b o : Nat} {T : TypeId} {v : Value} (hb : isT W b T) (h1 : T ≠ 34) (h2 : T ≠ 45) (hc : W.cell? ⟨b, o, none⟩ = some v) : W'.cell? ⟨b, o, none⟩ = some v := by
  obtain ⟨cs, fz, hh⟩ := hb
  have := h.same b cs T fz h1 h2 hh
  simp only [World.cell?, hh] at hc
  simp only [World.cell?, this]
  exact hc
theorem KpE.isT {W W' : World} (h : KpE W W') {b : Nat} {T : TypeId} (hb : isT W b T) (h1 : T ≠ 34) (h2 : T ≠ 45) : isT W' b T := by
  obtain ⟨cs, fz, hh⟩ := hb
  exact ⟨cs, fz, h.same b cs T fz h1 h2 hh⟩
theorem KpE.ll {W W' : World} (h : KpE W W') {a : Option Addr} {c : Nat} {l : List Lab} (hl : Ll W a c l) : Ll W' a c l := by
  refine ⟨fun hne => ?_, hl.nil, fun hne q e => h.isT (hl.ty hne q e) (by decide) (by decide)⟩
  obtain ⟨b, off, e, hlt, hc⟩ := hl.rd hne
  have ht := hl.ty hne _ e
  exact ⟨b, off, e, Nat.lt_of_lt_of_le hlt h.size, fun i x hi => ⟨h.cell ht (by decide) (by decide) (hc i x hi).1, h.cell ht (by decide) (by decide) (hc i x hi).2⟩⟩
theorem KpE.lz {W W' : World} (h : KpE W W') {B c : Nat} {a : Option Addr} (hl : LZ B W a c) : LZ B W' a c := fun q e => by
  obtain ⟨h1, h2, h3, cur, hh, hz⟩ := hl q e
  exact ⟨h1, h2, h3, cur, h.same _ _ _ _ (by decide) (by decide) hh, hz⟩
theorem KpE.llF {W W' : World} (h : KpE W W') {B : Nat} {a : Option Addr} {c : Nat} {l : List Lab} (hl : LlF B W a c l) : LlF B W' a c l := ⟨h.ll hl.ll, h.lz hl.lz⟩
theorem KpE.rdI {W W' : World} (h : KpE W W') {a : Option Addr} {l : List SI} (hl : RdI W a l) : RdI W' a l := by
  refine ⟨fun hne => ?_, fun x hx => h.ll (hl.lab x hx)⟩
  obtain ⟨b, off, e, ht, hc⟩ := hl.rd hne
  exact ⟨b, off, e, h.isT ht (by decide) (by decide), fun j u hu => h.cell ht (by decide) (by decide) (hc j u hu)⟩
theorem KpE.of_below {W W' : World} (h : Below W.heap.size W W') : KpE W W' := ⟨h.size, fun b _cs _T _fz _ _ hb => (h.block b (isT_of hb).lt).trans hb⟩
theorem abides_below {β : Type} {B : Nat} {J : β → World → Prop} (hJ : AbidesFrom B J) {s : β} {W W' : World} (h : J s W) (hb : Below W.heap.size W W') : J s W' :=
  hJ s W W' none h ⟨hb.os, hb.tape, hb.output, hb.size, fun k hk _ => hb.block k hk⟩ (fun r e => by cases e)
/-- the entries of a key -/
def ownE (K : ByteArray) (l : List It) : List Ent := (ownL K l).map It.e
theorem ownE_snoc_yes {K : ByteArray} {l : List It} {x : It} (h : x.key = K) : ownE K (l ++ [x]) = ownE K l ++ [x.e] := by unfold ownE; rw [ownL_snoc_yes h, List.map_append]; rfl
theorem ownE_snoc_no {K : ByteArray} {l : List It} {x : It} (h : x.key ≠ K) : ownE K (l ++ [x]) = ownE K l := by unfold ownE; rw [ownL_snoc_no h]
theorem take_snocL {α : Type} {l : List α} {k : Nat} {x : α} (h : l[k]? = some x) : l.take (k + 1) = l.take k ++ [x] := by rw [List.take_add_one, h]; rfl
def PxE (B0 : Nat) (pre : List SE) (x : SE) (W : World) : Prop := LlF B0 W x.la x.lc x.e.lab ∧ pre.length < 65536
def SE' (B0 : Nat) (ents : List Ent) (xs : List SE) (W : World) : Prop := xs.map SE.e = ents ∧ ∀ x ∈ xs, LlF B0 W x.la x.lc x.e.lab
def EnInv (B0 : Nat) (K : ByteArray) (B2 : Nat) (a : Option Addr) (lo : List SI) (J : List SE → World → Prop) (i : Value) (wr : World) : Prop :=
  ∃ (k : Nat) (pre : List SE), k ≤ lo.length ∧ i = .int .i64 k ∧ pre.length ≤ k ∧ SE' B0 (ownE K ((lo.take k).map SI.it)) pre wr ∧ J pre wr ∧ RdI wr a lo ∧ wr.heap[B2]? = some (.cells #[.string K] 9 (0, 0)) ∧ ∀ x ∈ lo, LZ B0 wr x.la x.lc
set_option maxRecDepth 100000 in
set_option maxHeartbeats 4000000 in
theorem entries_tell (B0 : Nat) (K : ByteArray) (B1 B2 : Nat) (w : World) (hB0 : B0 ≤ w.heap.size) {ap : Option Addr} {its : List It} (h : ∀ W, Below w.heap.size w W → Calls Tryz.prog 49 #[.pointer ap, .int .i64 0] W (OutF W its)) (hlen : its.length ≤ 65536) (hb1 : w.heap[B1]? = some (.cells #[.pointer ap] 26 (0, 0))) (hb2 : w.heap[B2]? = some (.cells #[.string K] 9 (0, 0))) :
    Teller Fence.wide 5 Tryz.prog 164 #[.pointer (some ⟨B1, 0, none⟩), .pointer (some ⟨B2, 0, none⟩)] (fun x : SE => #[eAgg x]) (PxE B0) KpE (SE' B0 (ownE K its)) w := by
  intro l0 J W hW hJ hY h0
  have hBW : B0 ≤ W.heap.size := Nat.le_trans hB0 hW.size
  have hfr := h W hW
  have c1 := block_cell ((hW.block _ (isT_of hb1).lt).trans hb1) 0 _ rfl
  have H := Lib.hid (And.intro hfr (And.intro h0 (And.intro hJ (And.intro hY ((hW.block _ (isT_of hb2).lt).trans hb2)))))
  clear hfr h0 hJ hY h hb1 hb2 hW
  refine callsIn_of_wp Tryz.func164 rfl trivial ?_ rfl
  simp only [Tryz.ntmps164, List.size_toArray, List.length_cons, List.length_nil, Nat.reduceAdd, Nat.reduceSub, Array.replicate_succ, Array.replicate_zero, List.push_toArray, List.append_toArray, List.nil_append, List.cons_append]
  gi_wp2_with fail
  refine ⟨trivial, ?_⟩
  gi_at_call 49
  refine (callsIn_wide.2 H.out.1).mono ?_
  rintro e w1 ⟨a, c, lo, rfl, hown, hll, hm, hb⟩
  have hlo : lo.length ≤ 65536 := by have := congrArg List.length hm; rw [List.length_map] at this; omega
  have hj0 : J [] w1 := abides_below H.out.2.2.1 H.out.2.1 hb
  have hB2 := (hb.block B2 (isT_of H.out.2.2.2.2).lt).trans H.out.2.2.2.2
  have HLZ : Hid (∀ x ∈ lo, LZ B0 w1 x.la x.lc) := Lib.hid (fun x hx => (hll x hx).lz.mono hBW)
  have HL := Lib.hid (And.intro (RdI.of_own hown (fun x hx => (hll x hx).ll)) (And.intro hm (And.intro hj0 hB2)))
  clear hown hll hm hb hj0 hB2 c1
  gi_wp2_with fail
  gi_loopw [9] (fun i wr => EnInv B0 K B2 a lo J i wr) (fun i _ => lo.length - (intOf i).toNat)
  case atStart => exact ⟨0, [], Nat.zero_le _, rfl, Nat.le_refl _, ⟨rfl, fun x hx => by cases hx⟩, HL.out.2.2.1, HL.out.1, HL.out.2.2.2, HLZ.out⟩
  case round =>
    obtain ⟨k, pre, hk, rfl, hpk, hse, hj, hrd, hb2, hlz⟩ := hrel
    have HZ := Lib.hid hlz
    clear hlz
    by_cases hlt : k < lo.length
    · obtain ⟨x, hx⟩ : ∃ x, lo[k]? = some x := ⟨_, List.getElem?_eq_getElem hlt⟩
      obtain ⟨b, off, e, hbl, ht, hc⟩ := hrd.at_ hx
      cases e
      have hxm := List.mem_of_getElem? hx
      have cB : wr.cell? ⟨B2, 0, none⟩ = some (.string K) := block_cell hb2 0 _ rfl
      have c0 := hc 0 _ rfl
      rw [Nat.add_zero] at c0
      have c1 := hc 1 _ rfl
      have c2 := hc 2 _ rfl
      have c3 := hc 3 _ rfl
      have c4 := hc 4 _ rfl
      have c5 := hc 5 _ rfl
      have c6 := hc 6 _ rfl
      have hB2 := (isT_of hb2).lt
      have HX := Lib.hid (And.intro hx (And.intro hse (And.intro hj (And.intro hrd hb2))))
      obtain ⟨w0, hw0⟩ : ∃ q, q = wr := ⟨_, rfl⟩
      subst hw0
      clear hc hxm ht hx hse hj hrd hb2
      have hbd : pre.length < 65536 := by omega
      by_cases hkey : x.key = K
      · subst hkey
        have hbW : Below w0.heap.size w0 (w0.alloc (.cells #[.string x.key, .slice x.la x.e.lab.length x.lc, .bool x.e.mark, .int .u64 x.e.bits, .bool x.e.st, .int .i64 x.e.time, .int .i64 x.e.stamp] 40)) := (Below.refl _ _).alloc (Nat.le_refl _) _
        obtain ⟨fn, tm, asg, bd, hy, hR⟩ := H.out.2.2.2.1 pre ⟨x.la, x.lc, x.e⟩ _ (abides_below H.out.2.2.1 HX.out.2.2.1 hbW) ⟨⟨(HX.out.2.2.2.1.lab x (List.mem_of_getElem? HX.out.1)).below hbW (Nat.le_refl _), (HZ.out x (List.mem_of_getElem? HX.out.1)).below hbW⟩, hbd⟩
        have HW := Lib.hid hbW
        clear hbW
        simp only [eAgg] at hy
        gi_wp2_with fail
        refine hR.mono ?_
        rintro e W' ⟨rfl, hJ', hk'⟩
        have HJ := Lib.hid (And.intro hJ' ((KpE.of_below HW.out).trans hk'))
        clear hy hJ' hk' hR
        gi_wp2_with fail
        go_roundw
        case rel =>
          refine ⟨k + 1, pre ++ [⟨x.la, x.lc, x.e⟩], by omega, rfl, by simp; omega, ?_, HJ.out.1, HJ.out.2.rdI HX.out.2.2.2.1, HJ.out.2.same _ _ _ _ (by decide) (by decide) HX.out.2.2.2.2, fun y hy => HJ.out.2.lz (HZ.out y hy)⟩
          refine ⟨?_, fun y hy => ?_⟩
          · rw [List.map_append, HX.out.2.1.1, take_snocL HX.out.1, List.map_append]
            exact (ownE_snoc_yes (x := SI.it x) rfl).symm
          · rcases List.mem_append.1 hy with h | h
            · exact HJ.out.2.llF (HX.out.2.1.2 y h)
            · rw [List.mem_singleton.1 h]
              exact HJ.out.2.llF ⟨HX.out.2.2.2.1.lab x (List.mem_of_getElem? HX.out.1), HZ.out x (List.mem_of_getElem? HX.out.1)⟩
        case measure => simp [intOf]; omega
      · have hq : (x.key.toList == K.toList) = false := by rw [ByteArray.toList_eq, ByteArray.toList_eq, beq_eq_false_iff_ne]; exact fun h => hkey (ByteArray.ext (Array.toList_inj.1 h))
        gi_wp2_with fail
        refine ⟨fun _ h => (by cases h), ?_⟩
        gi_wp2_with fail
        go_roundw
        case rel =>
          have hbW : Below w0.heap.size w0 (w0.alloc (.cells #[.string x.key, .slice x.la x.e.lab.length x.lc, .bool x.e.mark, .int .u64 x.e.bits, .bool x.e.st, .int .i64 x.e.time, .int .i64 x.e.stamp] 40)) := (Below.refl _ _).alloc (Nat.le_refl _) _
          have hkp := KpE.of_below hbW
          refine ⟨k + 1, pre, by omega, rfl, by omega, ⟨?_, fun y hy => hkp.llF (HX.out.2.1.2 y hy)⟩, abides_below H.out.2.2.1 HX.out.2.2.1 hbW, hkp.rdI HX.out.2.2.2.1, hkp.same _ _ _ _ (by decide) (by decide) HX.out.2.2.2.2, fun y hy => hkp.lz (HZ.out y hy)⟩
          rw [HX.out.2.1.1, take_snocL HX.out.1, List.map_append]
          exact (ownE_snoc_no (x := SI.it x) hkey).symm
        case measure => simp [intOf]; omega
    · obtain rfl : k = lo.length := by omega
      rw [List.take_of_length_le (Nat.le_refl _)] at hse
      have HE := Lib.hid (And.intro hse hj)
      clear hse hj hrd hb2
      gi_wp2_with fail
      go_end0
      exact ⟨⟨_, rfl⟩, pre, by rw [← HL.out.2.1]; exact HE.out.1, HE.out.2⟩
end Go.Proofs.YtdgfldeeflmnmaaGreatDoor.Sk
namespace Go.Proofs.YtdgfldeeflmnmaaGreatDoor.Sk
open Go Go.RowKit Go.Shelf
attribute [local go_sem] Oper.semAt_some
theorem entriesf_calls (a : Option Addr) (K : ByteArray) (w : World) : Calls Tryz.prog 127 #[.pointer a, .string K] w fun e w' =>
    e = .returned (.func (.func 164) #[] #[.pointer (some ⟨w.heap.size, 0, none⟩), .pointer (some ⟨w.heap.size + 1, 0, none⟩)]) ∧ (w.alloc (.cells #[.pointer a] 26)).alloc (.cells #[.string K] 9) = w' := by
  go_enter Tryz.func127, Tryz.ntmps127
  go_wp2
  go_ret
  exact ⟨rfl, rfl⟩
theorem KpE.grown {X Y : World} {row : Option Nat} (hg : X.grownBy Y row) (hr : ∀ r, row = some r → ∃ o : Obj, X.heap[r]? = some o ∧ o.isCells = false) : KpE X Y :=
  ⟨hg.size, fun b cs T fz _ _ hb => (hg.block b (Array.getElem?_eq_some_iff.1 hb).1 (fun e => by
    obtain ⟨o, ho, hc⟩ := hr b e.symm
    rw [hb] at ho; cases ho; cases hc)).trans hb⟩
theorem KpE.appended {W w1 : World} {n₀ B k : Nat} {v v' : Value} {xs : List Value} {tmp : Obj} (hv : Boxed W B 45 v) (hrow : W.ownsRow n₀ 34 6 v k xs) (hgrow : (W.alloc tmp).grownBy w1 v.ownBlock) :
    KpE W (w1.setCell ⟨B, 0, none⟩ v') := by
  refine ⟨?_, fun b cs T fz h1 h2 hb => ?_⟩
  · have := hgrow.size
    have h2 : (w1.setCell ⟨B, 0, none⟩ v').heap.size = w1.heap.size := by simp
    simp at this
    omega
  · have hlt := (Array.getElem?_eq_some_iff.1 hb).1
    have hb1 : (W.alloc tmp).heap[b]? = some (.cells cs T fz) := (Below.heap_alloc _ _ _ hlt).trans hb
    have hne : some b ≠ v.ownBlock := by
      rcases hrow.2 with ⟨rfl, _⟩ | ⟨g, cap, cur, rfl, _, hgb, _⟩
      · simp [Value.ownBlock]
      · intro e
        obtain rfl : b = g := by simpa [Value.ownBlock] using e
        rw [hb] at hgb
        cases hgb
        exact h1 rfl
    have hb2 := (hgrow.block b (by simp; omega) hne).trans hb1
    refine (Below.heap_setCell _ _ _ b (fun e => ?_)).trans hb2
    dsimp only at e
    subst e
    have := (show W.heap[b]? = _ from hv).symm.trans hb
    cases this
    exact h2 rfl
theorem se_own (B0 B : Nat) (ents : List Ent) : OwnFrom B (SE' B0 ents) := by
  rintro xs X Y row ⟨h1, h2⟩ hg hr
  have hk := KpE.grown hg (fun r e => (hr r e).2)
  exact ⟨h1, fun x hx => hk.llF (h2 x hx)⟩
/-- what Of's loop keeps -/
def OfI' (w : World) (pre : List SE) (W : World) : Prop :=
  (∃ v, Boxed W w.heap.size 45 v ∧ W.ownsRow w.heap.size 34 6 v pre.length (eFlat pre) ∧ True) ∧ Below w.heap.size w W
theorem ofI_own {B : Nat} {w : World} (hB : w.heap.size ≤ B) : OwnFrom B (OfI' w) := by
  rintro pre X Y row ⟨hv, hb⟩ hg hr
  exact ⟨((holdsRow_own w.heap.size w.heap.size 45 34 6 (fun pre : List SE => pre.length) (fun pre => eFlat pre) (fun _ _ => True)).from B) pre X Y row hv hg hr, hb.grown hg hb.size (fun k e => Nat.le_trans hB (hr k e).1)⟩
theorem wpListIn_app {F : Fence} {n : Nat} {P : Program} {W : World} {ops : Array Oper} {rest : List Oper} {o : Oper} {a : Act} {Q : Exit → Act → World → Prop} (hg : o.guard = none) (s x : Operand) (ST T : TypeId) (size bytes : Nat) (z : Value)
    (hop : o.op = Op.call { callee := Callee.builtin Builtin.append, args := #[s, x], argTypes := #[ST, ST] }) (hu : P.underlying ST = some (.slice T)) (hinfo : (P.info? T).map (fun i => (i.zero, i.size, i.bytes)) = some (some z, size, bytes)) (hzs : z.cells.size = size) (hsz : 0 < size)
    (hby : bytes ≤ 100) (base : Nat) (v : Value) (k : Nat) (xs : List Value) (hs : a.eval s = v) (hown : W.ownsRow base T size v k xs) (ad : Addr) (m c : Nat) (news : List Value) (hx : a.eval x = .slice (some ad) m c) (hl : news.length = m * size)
    (hnews : ∀ j u, news[j]? = some u → W.cell? (ad.add j) = some u) (h1 : ∀ u ∈ news, u.oneCell' = true) (hk : k + m ≤ 1000000000) (hbase : base ≤ W.heap.size)
    (hK : ∀ v' w', w'.ownsRow base T size v' (k + m) (xs ++ news) → W.grownBy w' v.ownBlock → wpListIn F n P ops Q rest (a.put o.dst v') w') :
    wpListIn F n P ops Q (o :: rest) a W := by
  obtain ⟨i0, hi0, hz0, hz1, hz2⟩ := info_parts hinfo
  have hb2 : (k + m) * bytes ≤ 1000000000 * 100 := Nat.mul_le_mul hk hby
  exact wpListIn_append_own W hg s x ST hop base T i0 z size bytes hu hi0 hz0 hz1 hz2 hzs hsz v k xs hs hown ad m c news hx hl hnews h1 (by unfold maxLen; omega) (by omega) hbase (fun v' w' h1 h2 _ => hK v' w' h1 h2)
theorem leaves_marks {F : Fence} {n : Nat} {P : Program} {fn : Func} {tmps : Array Value} {R : Ending → World → Prop} {B0 : Nat} (Φ : World → Prop)
    (hΦ : ∀ W D, Φ W → B0 ≤ D → W.heap[D]? = some (.deferred (some [])) → Φ (W.putObj D (.deferred none))) (hR : ∀ W, Φ W → LeavesInM F n P fn tmps R [] .returning W) :
    ∀ (Ds : List Nat) (W : World), Φ W → (∀ D ∈ Ds, B0 ≤ D ∧ W.heap[D]? = some (.deferred (some []))) → Ds.Nodup → LeavesInM F n P fn tmps R (Ds.map fun D => { target := .collected D, args := #[] }) .returning W
  | [], W, h, _, _ => hR W h
  | D :: Ds, W, h, hm, hd => by
    obtain ⟨hD, hK⟩ := hm D (List.mem_cons_self ..)
    obtain ⟨hn, hd'⟩ := List.nodup_cons.1 hd
    refine ⟨by simp, .inl ⟨D, _, rfl, run_takeDeferred hK, leaves_marks Φ hΦ hR Ds _ (hΦ W D h hD hK) (fun D' h' => ?_) hd'⟩⟩
    obtain ⟨a, b⟩ := hm D' (List.mem_cons_of_mem _ h')
    exact ⟨a, (World.putObj_heap_other (fun e => hn (by rw [← e]; exact h'))).trans b⟩
set_option maxRecDepth 100000 in
set_option maxHeartbeats 4000000 in
theorem of_callsG (K : ByteArray) (w : World) {ap : Option Addr} {its : List It} (h : ∀ W, Below w.heap.size w W → Calls Tryz.prog 49 #[.pointer ap, .int .i64 0] W (OutF W its)) (hlen : its.length ≤ 65536) :
    Calls Tryz.prog 80 #[.pointer ap, .string K] w fun e w' => ∃ a c xs, e = .returned (.slice a (List.length xs) c) ∧ w'.ownsRow w.heap.size 34 6 (.slice a xs.length c) xs.length (eFlat xs) ∧ (∀ x ∈ xs, LlF w.heap.size w' x.la x.lc x.e.lab) ∧ xs.map SE.e = ownE K its ∧ Below w.heap.size w w' := by
  refine (callsIn_wide (n := 6)).1 ?_
  refine callsIn_of_wp_marks Tryz.func80 rfl trivial ?_ rfl
  simp only [Tryz.ntmps80, List.size_toArray, List.length_cons, List.length_nil, Nat.reduceAdd, Nat.reduceSub, Array.replicate_succ, Array.replicate_zero, List.push_toArray, List.append_toArray, List.nil_append, List.cons_append]
  gi_wp2_with fail
  refine ⟨trivial, ?_⟩
  gi_at_call 127
  refine (callsIn_wide.2 (entriesf_calls _ _ _)).mono ?_
  rintro e w1 ⟨rfl, rfl⟩
  gi_wp2_with fail
  have hS0 := Lib.hid (And.intro h hlen)
  clear h hlen
  obtain ⟨W0, hW0⟩ : ∃ W0, (((w.alloc (.cells #[.slice none 0 0] 45)).alloc (.cells #[.pointer ap] 26)).alloc (.cells #[.string K] 9)) = W0 := ⟨_, rfl⟩
  have hb0 : Below w.heap.size w W0 := by rw [← hW0]; exact (((Below.refl _ _).alloc (Nat.le_refl _) _).alloc (by simp) _).alloc (by simp; omega) _
  have hs0 : W0.heap.size = w.heap.size + 3 := by rw [← hW0]; simp
  have hbox : Boxed W0 w.heap.size 45 (.slice none 0 0) := by rw [← hW0]; exact ((Boxed.new w _ _).alloc _).alloc _
  have hp1 : W0.heap[w.heap.size + 1]? = some (.cells #[.pointer ap] 26 (0, 0)) := by
    rw [← hW0]
    exact (Below.heap_alloc _ _ _ (by simp)).trans (by have := World.alloc_heap_new (w.alloc (.cells #[.slice none 0 0] 45)) (.cells #[.pointer ap] 26); rw [World.size_alloc] at this; exact this)
  have hp2 : W0.heap[w.heap.size + 1 + 1]? = some (.cells #[.string K] 9 (0, 0)) := by
    rw [← hW0]
    have := World.alloc_heap_new ((w.alloc (.cells #[.slice none 0 0] 45)).alloc (.cells #[.pointer ap] 26)) (.cells #[.string K] 9)
    rw [World.size_alloc, World.size_alloc] at this
    exact this
  rw [hW0]
  have HT := Lib.hid (entries_tell w.heap.size K _ _ W0 (by omega) (fun W hW => hS0.out.1 W (hb0.trans (hW.mono (by omega)))) hS0.out.2 hp1 hp2)
  have HB := Lib.hid (And.intro hb0 hbox)
  have hI0 : OfI' w [] W0 := ⟨⟨_, hbox, World.ownsRow_nil _ _ _ _, trivial⟩, hb0⟩
  have HI := Lib.hid hI0
  have hle : w.heap.size ≤ W0.heap.size := by omega
  clear hW0 hb0 hbox hp1 hp2 hI0 hs0
  refine range_tell rfl (by decide) (gf := 164) (lb := #[.pointer (some ⟨w.heap.size + 1, 0, none⟩), .pointer (some ⟨w.heap.size + 1 + 1, 0, none⟩)]) rfl trivial (enters_of Tryz.func164 (by kernel_rfl) rfl) HT.out (fun _ => rfl) (fun h k => h.trans k)
    (fun W o o' hl ho => KpE.grown (grownBy_putObj' W _ o') (fun r e => by cases e; exact ⟨o, hl, ho⟩)) (OfI' w) (ofI_own hle) HI.out (se_own _ _ _)
    (fun pre x a' W => ∃ Bx, a' = { tmps := #[.pointer ap, .string K, undef, undef, .slice none 0 0, .pointer (some ⟨w.heap.size, 0, none⟩), .pointer (some ⟨Bx, 0, none⟩), .pointer ap, .string K, .func (.func 164) #[] #[.pointer (some ⟨w.heap.size + 1, 0, none⟩), .pointer (some ⟨w.heap.size + 1 + 1, 0, none⟩)], eAgg x, undef, undef, undef, undef, undef], defers := [] } ∧ W.heap[Bx]? = some (.cells #[.slice x.la x.e.lab.length x.lc, .bool x.e.mark, .int .u64 x.e.bits, .bool x.e.st, .int .i64 x.e.time, .int .i64 x.e.stamp] 34 (0, 0)) ∧ pre.length < 65536)
    (fun pre x a' => by
      rintro _ X Y row ⟨Bx, e, h, hl⟩ hg hr
      exact ⟨Bx, e, (hg.block Bx (Array.getElem?_eq_some_iff.1 h).1 (fun e' => by
        obtain ⟨_, o, ho, hoc⟩ := hr Bx e'.symm
        rw [h] at ho; cases ho; cases hoc)).trans h, hl⟩) ?assign ?body ?done
  case assign =>
    rintro l' pre x W K' hi' ⟨hll, hlp⟩ hK
    have HIW := Lib.hid (And.intro hi' hll)
    clear hi' hll
    dsimp only [eAgg]
    gi_wp2
    have hb := (Below.refl W.heap.size W).alloc (Nat.le_refl _) (.cells #[.slice x.la x.e.lab.length x.lc, .bool x.e.mark, .int .u64 x.e.bits, .bool x.e.st, .int .i64 x.e.time, .int .i64 x.e.stamp] 34)
    exact hK _ _ ((KeepsOthers.alloc _ _).from _) (KpE.of_below hb) ((ofI_own (Nat.le_refl _)).alloc _ HIW.out.1) ⟨W.heap.size, rfl, World.alloc_heap_new W _, hlp⟩
  case body =>
    rintro l' pre x a' W hl' hi ⟨Bx, rfl, hbx, hlp⟩
    obtain ⟨⟨v1, hv, hrow, _⟩, hb⟩ := hi
    obtain ⟨av, cv, rfl⟩ := own_form hrow
    have hvc := hv.cell
    have hvf := hv.frozen
    have hsz := hb.size
    have p0 := block_cell hbx 0 _ rfl
    have p1 := block_cell hbx 1 _ rfl
    have p2 := block_cell hbx 2 _ rfl
    have p3 := block_cell hbx 3 _ rfl
    have p4 := block_cell hbx 4 _ rfl
    have p5 := block_cell hbx 5 _ rfl
    have HW := Lib.hid (And.intro hv (And.intro hrow hb))
    clear hv hrow hb hbx
    gi_wp2_with (gi_at_builtin; refine Hid.out ?_)
    refine Lib.hid ?_
    refine wpListIn_app rfl _ _ 45 34 6 64 (.agg #[.slice none 0 0, .bool false, .int .u64 0, .bool false, .int .i64 0, .int .i64 0]) rfl Tryz.underlying45 (by kernel_rfl) rfl (by decide) (by decide) w.heap.size _ pre.length (eFlat pre) rfl (HW.out.2.1.alloc _) ⟨W.heap.size, 0, none⟩ 1 1 (eB x) rfl rfl (cells_new W #[.slice x.la x.e.lab.length x.lc, .bool x.e.mark, .int .u64 x.e.bits, .bool x.e.st, .int .i64 x.e.time, .int .i64 x.e.stamp] _ _ rfl) (by intro u hu; simp [eB] at hu; rcases hu with rfl | rfl | rfl | rfl | rfl | rfl <;> rfl) (by omega) (by simp; omega) ?_
    intro v6 w6 hown6 hgrow6
    have hb6 := (HW.out.1.alloc _).kept hgrow6 (HW.out.1.not_row (by decide) HW.out.2.1)
    have hc6 := hb6.cell
    have hf6 := hb6.frozen
    obtain ⟨g', cap', rfl⟩ := ownsRow_succ hown6
    have H6 := Lib.hid (And.intro hown6 hgrow6)
    clear hown6 hgrow6 hb6 hvc hvf
    gi_wp2_with fail
    obtain ⟨q1, q2, q3, q4, q5⟩ := HW.out.1.appended (by decide) HW.out.2.1 hsz (Nat.le_refl _) H6.out.1 H6.out.2
    refine ⟨q4.from _, KpE.appended HW.out.1 HW.out.2.1 H6.out.2, ⟨_, q2, ?_, trivial⟩, HW.out.2.2.trans q5⟩
    rw [List.length_append, show eFlat (pre ++ [x]) = eFlat pre ++ eB x by simp [eFlat]]
    exact q3
  case done =>
    rintro D xs W hD hS hi hK
    obtain ⟨⟨v1, hv, hrow, _⟩, hb⟩ := hi
    obtain ⟨av, cv, rfl⟩ := own_form hrow
    have hvc := hv.cell
    have hvf := hv.frozen
    have HD := Lib.hid (And.intro hS (And.intro hrow (And.intro hb hK)))
    clear hv hS hrow hb hK
    gi_wp2
    refine leaves_marks (B0 := W0.heap.size) (fun W => W.ownsRow w.heap.size 34 6 (.slice av xs.length cv) xs.length (eFlat xs) ∧ SE' w.heap.size (ownE K its) xs W ∧ Below w.heap.size w W)
      (fun W D h hD hK => ⟨ownsRow_putObj h.1 _ hK rfl, (se_own w.heap.size W0.heap.size _).putObj _ h.2.1 hD hK rfl, h.2.2.grown (grownBy_putObj' W D _) h.2.2.size (fun k e => by cases e; exact Nat.le_trans hle hD)⟩) (fun W h => ?_) [D] W ⟨HD.out.2.1, HD.out.1, HD.out.2.2.1⟩ (fun D' hD' => by rw [List.mem_singleton.1 hD']; exact ⟨hD, HD.out.2.2.2⟩) (by simp)
    exact ⟨_, results_tmp rfl _ _ _, av, cv, xs, rfl, h.1, h.2.1.2, h.2.1.1, h.2.2⟩
theorem of_calls (K : ByteArray) (w : World) {p base mb n : Nat} {v : Value} {l : List SI} (h : SinkAt w p base mb n v l) :
    Calls Tryz.prog 80 #[.pointer (some ⟨p, 0, none⟩), .string K] w fun e w' => ∃ a c xs, e = .returned (.slice a (List.length xs) c) ∧ w'.ownsRow w.heap.size 34 6 (.slice a xs.length c) xs.length (eFlat xs) ∧ (∀ x ∈ xs, LlF w.heap.size w' x.la x.lc x.e.lab) ∧ xs.map SE.e = ownE K (l.map SI.it) ∧ Below w.heap.size w w' := by
  refine of_callsG K w (fun W hW => ?_) (by rw [List.length_map]; exact h.len)
  have hfr := from_callsF 0 W (h.below hW)
  rw [show fromS (l.map SI.it) 0 = l.map SI.it by unfold fromS; rw [if_pos ⟨by decide, by omega⟩]; rfl] at hfr
  exact hfr
end Go.Proofs.YtdgfldeeflmnmaaGreatDoor.Sk
