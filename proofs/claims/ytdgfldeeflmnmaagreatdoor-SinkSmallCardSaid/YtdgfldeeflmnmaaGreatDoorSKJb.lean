/- Texts of the claim, put together: KJb. -/
import Derived.Test.YtdgfldeeflmnmaaGreatDoorSKRg
import Derived.Test.YtdgfldeeflmnmaaGreatDoorSKoA
import Derived.Test.YtdgfldeeflmnmaaGreatDoorSKqC
import Derived.Deep.RegionHeldLaw
import Derived.Test.YtdgfldeeflmnmaaGreatDoorSKiA
namespace Go.Proofs.YtdgfldeeflmnmaaGreatDoor.Sk
open Go Go.RowKit
theorem rdF_take {w : World} {a : Option Addr} {xs : List Value} (h : RdF w a xs) (n : Nat) : RdF w a (xs.take n) := by
  intro hx
  obtain ⟨b, off, e, hl, hc⟩ := h (by intro e; subst e; simp at hx)
  refine ⟨b, off, e, hl, fun j u hu => hc j u ?_⟩
  rw [List.getElem?_take] at hu
  split at hu
  · exact hu
  · cases hu
theorem iFlat_take (l : List SI) (n : Nat) : iFlat (l.take n) = (iFlat l).take (n * 7) := by
  induction n generalizing l with
  | zero => simp [iFlat]
  | succ n ih =>
    cases l with
    | nil => simp [iFlat]
    | cons x r =>
      rw [List.take_succ_cons, show (n + 1) * 7 = 7 + n * 7 by omega]
      show iB x ++ iFlat (r.take n) = (iB x ++ iFlat r).take (7 + n * 7)
      have h7 : (iB x).length = 7 := rfl
      rw [List.take_append, List.take_of_length_le (l := iB x) (by omega), show 7 + n * 7 - (iB x).length = n * 7 by omega, ih r]
theorem RdJ.take {w : World} {a : Option Addr} {l : List SI} (h : RdJ w a l) (n : Nat) : RdJ w a (l.take n) :=
  ⟨by rw [iFlat_take]; exact rdF_take h.rd _, fun x hx => h.lab x (List.mem_of_mem_take hx)⟩
/-- items whose parts are not longer than this machine's -/
structure JOk (l : List SI) : Prop where
  ky : ∀ x ∈ l, x.key.size ≤ 1100000
  ln : ∀ x ∈ l, x.e.lab.length ≤ 1000000000
  sz : ∀ x ∈ l, LabZ x.e.lab
theorem JOk.take {l : List SI} (h : JOk l) (n : Nat) : JOk (l.take n) := ⟨fun x hx => h.ky x (List.mem_of_mem_take hx), fun x hx => h.ln x (List.mem_of_mem_take hx), fun x hx => h.sz x (List.mem_of_mem_take hx)⟩
/-- no item from k on has this key and these labels -/
def NoneFrom (l : List SI) (k : Nat) (x : SI) : Prop := ∀ (j : Nat) z, k ≤ j → l[j]? = some z → ¬ (z.key = x.key ∧ z.e.lab = x.e.lab)
theorem NoneFrom.step {l : List SI} {k : Nat} {x y : SI} (h : NoneFrom l (k + 1) x) (hy : l[k]? = some y) (hn : ¬ (y.key = x.key ∧ y.e.lab = x.e.lab)) : NoneFrom l k x := fun j z hj hz => by
  rcases Nat.eq_or_lt_of_le hj with e | e
  · subst e
    obtain rfl := Option.some.inj (hy.symm.trans hz)
    exact hn
  · exact h j z e hz
theorem it_right {l : List SI} (hr : ∀ y ∈ l, itemRight (d y.key) y.e = true) {j : Nat} {z : It} (hz : (l.map SI.it)[j]? = some z) : ∃ y, l[j]? = some y ∧ z = y.it ∧ itemRight (d y.key) y.e = true := by
  rw [List.getElem?_map] at hz
  cases hy : l[j]? with
  | none => rw [hy] at hz; cases hz
  | some y => rw [hy] at hz; exact ⟨y, rfl, (Option.some.inj hz).symm, hr y (List.mem_of_getElem? hy)⟩
theorem NoneFrom.line {l : List SI} {k : Nat} {x : SI} (h : NoneFrom l k x) (hr : ∀ y ∈ l, itemRight (d y.key) y.e = true) (hx : itemRight (d x.key) x.e = true) : ∀ (j : Nat) z, k ≤ j → (l.map SI.it)[j]? = some z → lineOf z ≠ lineOf x.it := fun j z hj hz e => by
  obtain ⟨y, hy, rfl, hyr⟩ := it_right hr hz
  exact h j y hj hy ((line_iff (x := y.it) (y := x.it) hyr hx).1 e)
/-- what breaks returns -/
def BrPost (l : List It) (x : It) (w : World) (e : Ending) (w' : World) : Prop := e = .returned (.int .i64 (fol (lastOf l) x)) ∧ Below w.heap.size w w'
theorem at_worldB {f : FuncId} {args : Array Value} {w : World} {Q : Ending → World → Prop} (h : ∀ W, W = w → Calls Tryz.prog f args W Q) : Calls Tryz.prog f args w Q := h w rfl
set_option maxRecDepth 100000 in
set_option maxHeartbeats 4000000 in
theorem rbreaks_calls (a : Option Addr) (cap : Nat) (l : List SI) (x : SI) (w : World) (hl : RdJ w a l) (hx : RdL w x.la x.e.lab) (ho : JOk l) (hox : x.e.lab.length ≤ 1000000000 ∧ LabZ x.e.lab) (hr : ∀ y ∈ l, itemRight (d y.key) y.e = true) (hrx : itemRight (d x.key) x.e = true) (hn : l.length ≤ 1100000) :
    Calls Tryz.prog 107 #[.slice a l.length cap, .agg #[.string x.key, .slice x.la x.e.lab.length x.lc, .bool x.e.mark, .int .u64 x.e.bits, .bool x.e.st, .int .i64 x.e.time, .int .i64 x.e.stamp]] w (BrPost (l.map SI.it) x.it w) := by
  obtain ⟨w0, hw0⟩ : ∃ q, q = w.alloc (.cells #[.string x.key, .slice x.la x.e.lab.length x.lc, .bool x.e.mark, .int .u64 x.e.bits, .bool x.e.st, .int .i64 x.e.time, .int .i64 x.e.stamp] 70) := ⟨_, rfl⟩
  have hblk0 : w0.heap[w.heap.size]? = some (.cells #[.string x.key, .slice x.la x.e.lab.length x.lc, .bool x.e.mark, .int .u64 x.e.bits, .bool x.e.st, .int .i64 x.e.time, .int .i64 x.e.stamp] 70 (0, 0)) := by rw [hw0]; exact heap_alloc_new w _
  have hb0 : Below w.heap.size w w0 := by rw [hw0]; exact (Below.refl _ _).alloc (Nat.le_refl _) _
  have HR := Lib.hid (And.intro (hl.below hb0) (And.intro (hx.below hb0 (Nat.le_refl _)) (And.intro ho (And.intro hox (And.intro hr hrx)))))
  have H0 := Lib.hid (And.intro hblk0 hb0)
  have hgl : w.heap.size < w0.heap.size := (isT_of hblk0).lt
  clear hl hx ho hox hr hrx hblk0 hb0
  go_enter Tryz.func107, Tryz.ntmps107
  go_wp2_with fail
  rw [← hw0]
  clear hw0
  go_loopw [5] (fun i wr => ∃ k : Nat, k ≤ l.length ∧ ((k = 0 ∧ i = .int .i64 (-1)) ∨ ∃ j : Nat, k = j + 1 ∧ i = .int .i64 j) ∧ NoneFrom l k x ∧ Below w0.heap.size w0 wr) (fun i _ => (intOf i + 1).toNat)
  case atStart =>
    refine ⟨l.length, Nat.le_refl _, ?_, fun j z hj hz => ?_, Below.refl _ _⟩
    · rcases Nat.eq_zero_or_pos l.length with h | h
      · exact .inl ⟨h, int_eq (by omega)⟩
      · exact .inr ⟨l.length - 1, by omega, int_eq (by omega)⟩
    · have := (List.getElem?_eq_some_iff.1 hz).1
      omega
  case round =>
    obtain ⟨k, hk, hi, hno, hbr⟩ := hrel
    have hblk := (hbr.block _ (isT_of H0.out.1).lt).trans H0.out.1
    have m2 := block_cell hblk 2 _ rfl
    have m6 := block_cell hblk 6 _ rfl
    rcases hi with ⟨rfl, rfl⟩ | ⟨j, rfl, rfl⟩
    · have HE : Hid (fol (lastOf (l.map SI.it)) x.it = if x.e.mark then 382 else 0) := Lib.hid (fol_miss (fun j z hz => hno.line HR.out.2.2.2.2.1 HR.out.2.2.2.2.2 j z (Nat.zero_le _) hz))
      have HB := Lib.hid (Bthen H0.out.2 hbr)
      clear hno hbr hblk m6
      rcases Bool.eq_false_or_eq_true x.e.mark with hm | hm
      · have HM := Lib.hid hm
        go_wp2_with fail
        go_ret
        exact ⟨by rw [HE.out, HM.out]; rfl, HB.out⟩
      · have HM := Lib.hid hm
        go_wp2_with fail
        go_ret
        exact ⟨by rw [HE.out, HM.out]; rfl, HB.out⟩
    · obtain ⟨y, hy⟩ : ∃ y, l[j]? = some y := ⟨_, List.getElem?_eq_getElem (by omega)⟩
      have hym := List.mem_of_getElem? hy
      obtain ⟨b, off, e, hbl, hc⟩ := (HR.out.1.below hbr).at_ hy
      subst e
      have c0 := hc 0 _ rfl
      rw [Nat.add_zero] at c0
      have c1 := hc 1 _ rfl
      have c2 := hc 2 _ rfl
      have c3 := hc 3 _ rfl
      have c4 := hc 4 _ rfl
      have c5 := hc 5 _ rfl
      have c6 := hc 6 _ rfl
      have m0 := block_cell hblk 0 _ rfl
      have m1 := block_cell hblk 1 _ rfl
      have m3 := block_cell hblk 3 _ rfl
      have m4 := block_cell hblk 4 _ rfl
      have m5 := block_cell hblk 5 _ rfl
      have hjl : j < l.length := by omega
      obtain ⟨w1, hw1⟩ : ∃ q, q = wr := ⟨_, rfl⟩
      subst hw1
      have hgl1 : w.heap.size < w1.heap.size := Nat.lt_of_lt_of_le hgl hbr.size
      obtain ⟨q, hq⟩ : ∃ q, q = decide (y.key = x.key ∧ y.e.lab = x.e.lab) := ⟨_, rfl⟩
      have hcall : ∀ W : World, Below w1.heap.size w1 W → Calls Tryz.prog 125 #[.agg #[.string y.key, .slice y.la y.e.lab.length y.lc, .bool y.e.mark, .int .u64 y.e.bits, .bool y.e.st, .int .i64 y.e.time, .int .i64 y.e.stamp], .agg #[.string x.key, .slice x.la x.e.lab.length x.lc, .bool x.e.mark, .int .u64 x.e.bits, .bool x.e.st, .int .i64 x.e.time, .int .i64 x.e.stamp]] W (TdPost (.bool q) W) := fun W hb => by
        rw [hq]
        exact alike_calls y.key x.key y.la x.la y.lc x.lc y.e x.e W (((HR.out.1.lab y hym).below hbr (Nat.le_refl _)).below hb (Nat.le_refl _)) ((HR.out.2.1.below hbr (Nat.le_refl _)).below hb (Nat.le_refl _)) (HR.out.2.2.1.ln y hym) HR.out.2.2.2.1.1 (HR.out.2.2.1.sz y hym) HR.out.2.2.2.1.2
      have HC := Lib.hid hcall
      have HSK : Hid (∀ w' : World, Below w1.heap.size w1 w' → w'.cell? ⟨b, off + j * 7, none⟩ = some (.string y.key) ∧ w'.cell? ⟨b, off + j * 7 + 1, none⟩ = some (.slice y.la y.e.lab.length y.lc) ∧ w'.cell? ⟨b, off + j * 7 + 2, none⟩ = some (.bool y.e.mark) ∧ w'.cell? ⟨b, off + j * 7 + 3, none⟩ = some (.int .u64 y.e.bits) ∧ w'.cell? ⟨b, off + j * 7 + 4, none⟩ = some (.bool y.e.st) ∧ w'.cell? ⟨b, off + j * 7 + 5, none⟩ = some (.int .i64 y.e.time) ∧ w'.cell? ⟨b, off + j * 7 + 6, none⟩ = some (.int .i64 y.e.stamp) ∧ w'.cell? ⟨w.heap.size, 0, none⟩ = some (.string x.key) ∧ w'.cell? ⟨w.heap.size, 1, none⟩ = some (.slice x.la x.e.lab.length x.lc) ∧ w'.cell? ⟨w.heap.size, 2, none⟩ = some (.bool x.e.mark) ∧ w'.cell? ⟨w.heap.size, 3, none⟩ = some (.int .u64 x.e.bits) ∧ w'.cell? ⟨w.heap.size, 4, none⟩ = some (.bool x.e.st) ∧ w'.cell? ⟨w.heap.size, 5, none⟩ = some (.int .i64 x.e.time) ∧ w'.cell? ⟨w.heap.size, 6, none⟩ = some (.int .i64 x.e.stamp)) := Lib.hid (fun w' hb => by
        have h := (hb.block _ (isT_of hblk).lt).trans hblk
        have h2 : ∀ o u, (iB y)[o]? = some u → w'.cell? ⟨b, off + j * 7 + o, none⟩ = some u := fun o u hu => (hb.cell (p := ⟨b, off + j * 7 + o, none⟩) hbl).trans (hc o u hu)
        exact ⟨h2 0 _ rfl, h2 1 _ rfl, h2 2 _ rfl, h2 3 _ rfl, h2 4 _ rfl, h2 5 _ rfl, h2 6 _ rfl, block_cell h 0 _ rfl, block_cell h 1 _ rfl, block_cell h 2 _ rfl, block_cell h 3 _ rfl, block_cell h 4 _ rfl, block_cell h 5 _ rfl, block_cell h 6 _ rfl⟩)
      have HK := Lib.hid (And.intro hy (And.intro hno (And.intro hbr (And.intro hblk hq))))
      have HCC := Lib.hid hc
      clear hc hy hym hno hbr hblk hcall hq
      go_wp2_with fail
      go_cut [18] (fun s18 wx => s18 = .bool q ∧ Below w1.heap.size w1 wx)
      case first =>
        go_region_held_law (fun w' : World => w'.cell? ⟨b, off + j * 7, none⟩ = some (.string y.key) ∧ w'.cell? ⟨b, off + j * 7 + 1, none⟩ = some (.slice y.la y.e.lab.length y.lc) ∧ w'.cell? ⟨b, off + j * 7 + 2, none⟩ = some (.bool y.e.mark) ∧ w'.cell? ⟨b, off + j * 7 + 3, none⟩ = some (.int .u64 y.e.bits) ∧ w'.cell? ⟨b, off + j * 7 + 4, none⟩ = some (.bool y.e.st) ∧ w'.cell? ⟨b, off + j * 7 + 5, none⟩ = some (.int .i64 y.e.time) ∧ w'.cell? ⟨b, off + j * 7 + 6, none⟩ = some (.int .i64 y.e.stamp) ∧ w'.cell? ⟨w.heap.size, 0, none⟩ = some (.string x.key) ∧ w'.cell? ⟨w.heap.size, 1, none⟩ = some (.slice x.la x.e.lab.length x.lc) ∧ w'.cell? ⟨w.heap.size, 2, none⟩ = some (.bool x.e.mark) ∧ w'.cell? ⟨w.heap.size, 3, none⟩ = some (.int .u64 x.e.bits) ∧ w'.cell? ⟨w.heap.size, 4, none⟩ = some (.bool x.e.st) ∧ w'.cell? ⟨w.heap.size, 5, none⟩ = some (.int .i64 x.e.time) ∧ w'.cell? ⟨w.heap.size, 6, none⟩ = some (.int .i64 x.e.stamp)) (first | go_keep | (with_reducible exact HSK.out _ hb5))
          (first
            | (go_at_call 125; refine at_worldB ?_; intro W1 hW1; have hb1 : Below w1.heap.size w1 W1 := (by rw [hW1]; first | exact Below.refl _ _ | exact (Below.refl _ _).drew | exact (Below.refl _ _).drew.drew | exact below_drewN (Below.refl _ _) _ | exact (below_drewN (Below.refl _ _) _).drew); clear hW1; refine (HC.out W1 hb1).mono ?_; rintro e w4 ⟨rfl, hb4⟩; have hb5 : Below w1.heap.size w1 w4 := hb1.trans (hb4.mono hb1.size); clear hb1 hb4))
        all_goals
          go_wp2_with fail
          go_meet
          exact ⟨rfl, hb5⟩
      case rest =>
      obtain ⟨w2, hw2⟩ : ∃ q, q = wc := ⟨_, rfl⟩
      subst hw2
      obtain ⟨h18, hb2⟩ := hcut
      subst h18
      have hblk2 := (hb2.block _ hgl1).trans HK.out.2.2.2.1
      have hcl : ∀ o v, w1.cell? ⟨b, o, none⟩ = some v → w2.cell? ⟨b, o, none⟩ = some v := fun o v h => (hb2.cell (p := ⟨b, o, none⟩) hbl).trans h
      have d2 := hcl _ _ (HCC.out 2 _ rfl)
      have d6 := hcl _ _ (HCC.out 6 _ rfl)
      have x2 := block_cell hblk2 2 _ rfl
      have x6 := block_cell hblk2 6 _ rfl
      have hbl2 : b < w2.heap.size := Nat.lt_of_lt_of_le hbl hb2.size
      have hgl2 : w.heap.size < w2.heap.size := Nat.lt_of_lt_of_le hgl1 hb2.size
      have HB := Lib.hid (And.intro (Bthen HK.out.2.2.1 hb2) (Bthen H0.out.2 (Bthen HK.out.2.2.1 hb2)))
      clear HSK hcl hblk2 hb2 c0 c1 c2 c3 c4 c5 c6 m0 m1 m2 m3 m4 m5 m6 HCC HC
      cases q with
      | false =>
        have HN := Lib.hid (HK.out.2.1.step HK.out.1 (of_decide_eq_false HK.out.2.2.2.2.symm))
        go_wp2_with fail
        go_roundw
        case rel =>
          refine ⟨j, by omega, ?_, HN.out, HB.out.1⟩
          cases j with
          | zero => exact .inl ⟨rfl, int_eq (by omega)⟩
          | succ j => exact .inr ⟨j, rfl, int_eq (by omega)⟩
        case measure => simp [intOf]
      | true =>
        have HF : Hid (fol (lastOf (l.map SI.it)) x.it = if x.e.stamp ≤ y.e.stamp then 381 else if x.e.mark && y.e.mark then 382 else 0) := Lib.hid (by
          have hyr := HR.out.2.2.2.2.1 y (List.mem_of_getElem? HK.out.1)
          exact fol_hit (k := j) (y := y.it) (by rw [List.getElem?_map, HK.out.1]; rfl) ((line_iff (x := y.it) (y := x.it) hyr HR.out.2.2.2.2.2).2 (of_decide_eq_true HK.out.2.2.2.2.symm)) (fun j' z hj' hz => HK.out.2.1.line HR.out.2.2.2.2.1 HR.out.2.2.2.2.2 j' z hj' hz))
        by_cases hst : x.e.stamp ≤ y.e.stamp
        · have HE : Hid (fol (lastOf (l.map SI.it)) x.it = 381) := Lib.hid (by rw [HF.out, if_pos hst])
          have hd : decide (x.e.stamp ≤ y.e.stamp) = true := decide_eq_true hst
          clear hst HF
          go_wp2_with fail
          go_big_quiet (fail)
          go_wp2_with fail
          go_ret
          exact ⟨by rw [HE.out]; rfl, below_drewN HB.out.2 _⟩
        · have HE : Hid (fol (lastOf (l.map SI.it)) x.it = if x.e.mark && y.e.mark then 382 else 0) := Lib.hid (by rw [HF.out, if_neg hst])
          have hd : decide (x.e.stamp ≤ y.e.stamp) = false := decide_eq_false hst
          clear hst HF
          rcases Bool.eq_false_or_eq_true y.e.mark with hm | hm <;> rcases Bool.eq_false_or_eq_true x.e.mark with hm2 | hm2
          all_goals
            have HM := Lib.hid (And.intro hm hm2)
            go_wp2_with fail
            go_big_quiet (fail)
            go_wp2_with fail
            go_ret
            exact ⟨by rw [HE.out, HM.out.1, HM.out.2]; rfl, below_drewN HB.out.2 _⟩
set_option maxRecDepth 100000 in
set_option maxHeartbeats 4000000 in
theorem rcheck38_calls (a : Option Addr) (cap : Nat) (l : List SI) (w : World) (hl : RdJ w a l) (ho : JOk l) (hn : l.length ≤ 1100000) (hcap : l.length ≤ cap) :
    Calls Tryz.prog 70 #[.slice a l.length cap] w (ChkPost (l.map SI.it) w) := by
  have HR := Lib.hid (And.intro hl ho)
  clear hl ho
  go_enter Tryz.func70, Tryz.ntmps70
  go_wp2_with fail
  go_loopw [4] (fun i wr => ∃ k : Nat, i = .int .i64 k ∧ ChkTo (l.map SI.it) k ∧ Below w.heap.size w wr) (fun i _ => l.length - (intOf i).toNat)
  case atStart => exact ⟨0, rfl, ChkTo.start _, Below.refl _ _⟩
  case round =>
    obtain ⟨k, rfl, hc, hb⟩ := hrel
    have hkl : k ≤ l.length := by have := hc.le; simpa using this
    obtain ⟨w1, hw1⟩ : ∃ q, q = wr := ⟨_, rfl⟩
    subst hw1
    have H1 := Lib.hid (And.intro hc hb)
    clear hc hb
    by_cases hlt : k < l.length
    · obtain ⟨x, hx⟩ : ∃ x, l[k]? = some x := ⟨_, List.getElem?_eq_getElem hlt⟩
      have hxm := List.mem_of_getElem? hx
      obtain ⟨b, off, e, hbl, hc⟩ := (HR.out.1.below H1.out.2).at_ hx
      subst e
      have c0 := hc 0 _ rfl
      rw [Nat.add_zero] at c0
      have c1 := hc 1 _ rfl
      have c2 := hc 2 _ rfl
      have c3 := hc 3 _ rfl
      have c4 := hc 4 _ rfl
      have c5 := hc 5 _ rfl
      have c6 := hc 6 _ rfl
      have hxi : (l.map SI.it)[k]? = some x.it := by rw [List.getElem?_map, hx]; rfl
      have HX := Lib.hid (And.intro hxi (And.intro hxm hc))
      clear hc hx hxm hxi
      go_wp2_with fail
      go_at_call 71
      refine (rr38_calls x.key x.la x.lc x.e w1 (HR.out.2.ky x HX.out.2.1) ((HR.out.1.lab x HX.out.2.1).below H1.out.2 (Nat.le_refl _)) (HR.out.2.ln x HX.out.2.1) (HR.out.2.sz x HX.out.2.1)).mono ?_
      rintro e w2 ⟨rfl, hb2⟩
      have H2 := Lib.hid (And.intro hb2 (Bthen H1.out.2 hb2))
      have hcl : ∀ o v, w1.cell? ⟨b, o, none⟩ = some v → w2.cell? ⟨b, o, none⟩ = some v := fun o v h => (hb2.cell (p := ⟨b, o, none⟩) hbl).trans h
      have d0 := hcl _ _ c0
      have d1 := hcl _ _ c1
      have d2 := hcl _ _ c2
      have d3 := hcl _ _ c3
      have d4 := hcl _ _ c4
      have d5 := hcl _ _ c5
      have d6 := hcl _ _ c6
      have hbl2 : b < w2.heap.size := Nat.lt_of_lt_of_le hbl hb2.size
      clear hb2 hcl c0 c1 c2 c3 c4 c5 c6
      cases hir : itemRight (d x.key) x.e with
      | false =>
        have HE := Lib.hid (H1.out.1.bad HX.out.1 hir)
        clear hir
        go_wp2_with fail
        go_ret2
        exact ⟨by rw [HE.out]; rfl, H2.out.2⟩
      | true =>
        have hlk : (l.take k).length = k := by rw [List.length_take]; omega
        obtain ⟨er, her⟩ : ∃ er, er = fol (lastOf ((l.map SI.it).take k)) x.it := ⟨_, rfl⟩
        have hrt : ∀ y ∈ l.take k, itemRight (d y.key) y.e = true := fun y hy => H1.out.1.right y.it (by rw [← List.map_take]; exact List.mem_map_of_mem hy)
        have hcall : ∀ W : World, Below w2.heap.size w2 W → Calls Tryz.prog 107 #[.slice (some ⟨b, off, none⟩) k cap, .agg #[.string x.key, .slice x.la x.e.lab.length x.lc, .bool x.e.mark, .int .u64 x.e.bits, .bool x.e.st, .int .i64 x.e.time, .int .i64 x.e.stamp]] W (TdPost (.int .i64 er) W) := fun W hb => by
          have hbw := Bthen H2.out.2 hb
          have h := rbreaks_calls (some ⟨b, off, none⟩) cap (l.take k) x W ((HR.out.1.below hbw).take k) ((HR.out.1.lab x HX.out.2.1).below hbw (Nat.le_refl _)) (HR.out.2.take k) ⟨HR.out.2.ln x HX.out.2.1, HR.out.2.sz x HX.out.2.1⟩ hrt hir (by omega)
          rw [hlk, List.map_take] at h
          rw [her]
          exact h
        have HC := Lib.hid hcall
        have hbl2' : b < w2.heap.size := hbl2
        have HSK : Hid (∀ w' : World, Below w2.heap.size w2 w' → w'.cell? ⟨b, off + k * 7, none⟩ = some (.string x.key) ∧ w'.cell? ⟨b, off + k * 7 + 1, none⟩ = some (.slice x.la x.e.lab.length x.lc) ∧ w'.cell? ⟨b, off + k * 7 + 2, none⟩ = some (.bool x.e.mark) ∧ w'.cell? ⟨b, off + k * 7 + 3, none⟩ = some (.int .u64 x.e.bits) ∧ w'.cell? ⟨b, off + k * 7 + 4, none⟩ = some (.bool x.e.st) ∧ w'.cell? ⟨b, off + k * 7 + 5, none⟩ = some (.int .i64 x.e.time) ∧ w'.cell? ⟨b, off + k * 7 + 6, none⟩ = some (.int .i64 x.e.stamp)) := Lib.hid (fun w' hb => by
          have h2 : ∀ o u, w2.cell? ⟨b, o, none⟩ = some u → w'.cell? ⟨b, o, none⟩ = some u := fun o u hu => (hb.cell (p := ⟨b, o, none⟩) hbl2').trans hu
          exact ⟨h2 _ _ d0, h2 _ _ d1, h2 _ _ d2, h2 _ _ d3, h2 _ _ d4, h2 _ _ d5, h2 _ _ d6⟩)
        clear hbl2'
        have HI := Lib.hid (And.intro hir her)
        have hkc : k ≤ cap := by omega
        clear hcall hir her hrt hlk
        go_wp2_with fail
        go_cut [5] (fun s5 wx => s5 = .int .i64 er ∧ Below w2.heap.size w2 wx)
        case first =>
          go_region_held_law (fun w' : World => w'.cell? ⟨b, off + k * 7, none⟩ = some (.string x.key) ∧ w'.cell? ⟨b, off + k * 7 + 1, none⟩ = some (.slice x.la x.e.lab.length x.lc) ∧ w'.cell? ⟨b, off + k * 7 + 2, none⟩ = some (.bool x.e.mark) ∧ w'.cell? ⟨b, off + k * 7 + 3, none⟩ = some (.int .u64 x.e.bits) ∧ w'.cell? ⟨b, off + k * 7 + 4, none⟩ = some (.bool x.e.st) ∧ w'.cell? ⟨b, off + k * 7 + 5, none⟩ = some (.int .i64 x.e.time) ∧ w'.cell? ⟨b, off + k * 7 + 6, none⟩ = some (.int .i64 x.e.stamp)) (first | go_keep | (with_reducible exact HSK.out _ hb5))
            (first
              | (go_at_call 107; refine at_worldB ?_; intro W1 hW1; have hb1 : Below w2.heap.size w2 W1 := (by rw [hW1]; first | exact Below.refl _ _ | exact (Below.refl _ _).drew | exact (Below.refl _ _).drew.drew | exact below_drewN (Below.refl _ _) _ | exact (below_drewN (Below.refl _ _) _).drew); clear hW1; refine (HC.out W1 hb1).mono ?_; rintro e w4 ⟨rfl, hb4⟩; have hb5 : Below w2.heap.size w2 w4 := hb1.trans (hb4.mono hb1.size); clear hb1 hb4))
          all_goals
            go_wp2_with fail
            go_meet
            exact ⟨rfl, hb5⟩
        case rest =>
        obtain ⟨w3, hw3⟩ : ∃ q, q = wc := ⟨_, rfl⟩
        subst hw3
        obtain ⟨h5, hb3⟩ := hcut
        subst h5
        have H3 := Lib.hid (Bthen H2.out.2 hb3)
        clear hb3 HSK d0 d1 d2 d3 d4 d5 d6 HC
        rcases (show (er != 0) = true ∨ (er != 0) = false by cases (er != 0) <;> simp) with he0 | he0
        · have HE := Lib.hid (H1.out.1.breach HX.out.1 HI.out.1 (by rw [← HI.out.2]; simpa using he0))
          go_wp2_with fail
          go_ret2
          exact ⟨by rw [HE.out, ← HI.out.2]; rfl, H3.out⟩
        · have HE := Lib.hid (H1.out.1.step HX.out.1 HI.out.1 (by rw [← HI.out.2]; simpa using he0))
          go_wp2_with fail
          go_roundw
          case rel => exact ⟨k + 1, by go_num, HE.out, H3.out⟩
          case measure => simp [intOf]; omega
    · obtain rfl : k = l.length := by omega
      have HE : Hid (check (l.map SI.it) = (-1, 0)) := Lib.hid (by have h := H1.out.1; rw [show l.length = (l.map SI.it).length by simp] at h; exact h.done)
      go_wp2_with fail
      go_ret2
      exact ⟨by rw [HE.out]; rfl, H1.out.2⟩
end Go.Proofs.YtdgfldeeflmnmaaGreatDoor.Sk
namespace Go.Proofs.YtdgfldeeflmnmaaGreatDoor.Sk
open Go Go.RowKit
theorem own_cap {w : World} {base n cap size : Nat} {T : TypeId} {a : Option Addr} {xs : List Value} (h : w.ownsRow base T size (.slice a n cap) n xs) : n ≤ cap := by
  rcases h.2 with ⟨hv, h0⟩ | ⟨g, cap', cur, hv, _, _, h1, _⟩
  · omega
  · cases hv; exact h1
set_option maxRecDepth 100000 in
set_option maxHeartbeats 4000000 in
theorem same1_yes (key : ByteArray) (la : Option Addr) (lc : Nat) (e : Ent) (w : World) (ha : RdL w la e.lab) (hl : e.lab.length ≤ 1000000000) (zl : LabZ e.lab) :
    Calls Tryz.prog 119 #[.agg #[.string key, .slice la e.lab.length lc, .bool e.mark, .int .u64 e.bits, .bool e.st, .int .i64 e.time, .int .i64 e.stamp], .agg #[.string key, .slice la e.lab.length lc, .bool e.mark, .int .u64 e.bits, .bool e.st, .int .i64 e.time, .int .i64 e.stamp]] w
      (TdPost (.bool true) w) := by
  obtain ⟨w1, hw1⟩ : ∃ q, q = w.alloc (.cells #[.string key, .slice la e.lab.length lc, .bool e.mark, .int .u64 e.bits, .bool e.st, .int .i64 e.time, .int .i64 e.stamp] 40) := ⟨_, rfl⟩
  obtain ⟨w2, hw2⟩ : ∃ q, q = w1.alloc (.cells #[.string key, .slice la e.lab.length lc, .bool e.mark, .int .u64 e.bits, .bool e.st, .int .i64 e.time, .int .i64 e.stamp] 70) := ⟨_, rfl⟩
  have hz1 : w1.heap.size = w.heap.size + 1 := by rw [hw1]; simp
  have hb1 : Below w.heap.size w w1 := by rw [hw1]; exact (Below.refl _ _).alloc (Nat.le_refl _) _
  have hb2 : Below w1.heap.size w1 w2 := by rw [hw2]; exact (Below.refl _ _).alloc (Nat.le_refl _) _
  have hbk1 : w2.heap[w.heap.size]? = some (.cells #[.string key, .slice la e.lab.length lc, .bool e.mark, .int .u64 e.bits, .bool e.st, .int .i64 e.time, .int .i64 e.stamp] 40 (0, 0)) := (hb2.block _ (by omega)).trans (by rw [hw1]; exact heap_alloc_new w _)
  obtain ⟨gy, hgy⟩ : ∃ q, q = w.heap.size + 1 := ⟨_, rfl⟩
  obtain ⟨gx, hgx⟩ : ∃ q, q = w.heap.size := ⟨_, rfl⟩
  rw [← hgx] at hbk1
  have hbk2 : w2.heap[gy]? = some (.cells #[.string key, .slice la e.lab.length lc, .bool e.mark, .int .u64 e.bits, .bool e.st, .int .i64 e.time, .int .i64 e.stamp] 70 (0, 0)) := by rw [hgy, ← hz1, hw2]; exact heap_alloc_new w1 _
  have hbw := Bthen hb1 hb2
  have HL := Lib.hid (And.intro (ha.below hbw (Nat.le_refl _)) (And.intro hl (And.intro zl hbw)))
  have HSK : Hid (∀ w' : World, Below w2.heap.size w2 w' → w'.cell? ⟨gx, 0, none⟩ = some (.string key) ∧ w'.cell? ⟨gx, 1, none⟩ = some (.slice la e.lab.length lc) ∧ w'.cell? ⟨gx, 2, none⟩ = some (.bool e.mark) ∧ w'.cell? ⟨gx, 3, none⟩ = some (.int .u64 e.bits) ∧ w'.cell? ⟨gx, 4, none⟩ = some (.bool e.st) ∧ w'.cell? ⟨gx, 5, none⟩ = some (.int .i64 e.time) ∧ w'.cell? ⟨gx, 6, none⟩ = some (.int .i64 e.stamp) ∧ w'.cell? ⟨gy, 0, none⟩ = some (.string key) ∧ w'.cell? ⟨gy, 1, none⟩ = some (.slice la e.lab.length lc) ∧ w'.cell? ⟨gy, 2, none⟩ = some (.bool e.mark) ∧ w'.cell? ⟨gy, 3, none⟩ = some (.int .u64 e.bits) ∧ w'.cell? ⟨gy, 4, none⟩ = some (.bool e.st) ∧ w'.cell? ⟨gy, 5, none⟩ = some (.int .i64 e.time) ∧ w'.cell? ⟨gy, 6, none⟩ = some (.int .i64 e.stamp)) := Lib.hid (fun w' hb => by
    have h := (hb.block _ (isT_of hbk2).lt).trans hbk2
    have h1 := (hb.block _ (isT_of hbk1).lt).trans hbk1
    exact ⟨block_cell h1 0 _ rfl, block_cell h1 1 _ rfl, block_cell h1 2 _ rfl, block_cell h1 3 _ rfl, block_cell h1 4 _ rfl, block_cell h1 5 _ rfl, block_cell h1 6 _ rfl, block_cell h 0 _ rfl, block_cell h 1 _ rfl, block_cell h 2 _ rfl, block_cell h 3 _ rfl, block_cell h 4 _ rfl, block_cell h 5 _ rfl, block_cell h 6 _ rfl⟩)
  have hl1 := (isT_of hbk1).lt
  have hl2 := (isT_of hbk2).lt
  have c0 := block_cell hbk1 0 _ rfl
  have c1 := block_cell hbk1 1 _ rfl
  have c2 := block_cell hbk1 2 _ rfl
  have c3 := block_cell hbk1 3 _ rfl
  have c4 := block_cell hbk1 4 _ rfl
  have c5 := block_cell hbk1 5 _ rfl
  have c6 := block_cell hbk1 6 _ rfl
  have d0 := block_cell hbk2 0 _ rfl
  have d1 := block_cell hbk2 1 _ rfl
  have d2 := block_cell hbk2 2 _ rfl
  have d3 := block_cell hbk2 3 _ rfl
  have d4 := block_cell hbk2 4 _ rfl
  have d5 := block_cell hbk2 5 _ rfl
  have d6 := block_cell hbk2 6 _ rfl
  have HW := Lib.hid (And.intro hw2 (And.intro hw1 (And.intro hgy hgx)))
  clear hbk1 hbk2 hb1 hb2 hbw ha hl zl hw1 hw2 hgy hgx hz1
  go_enter Tryz.func119, Tryz.ntmps119
  go_upto_region 1 with fail
  rw [← HW.out.2.1, ← HW.out.1, ← HW.out.2.2.1, ← HW.out.2.2.2]
  clear HW
  go_region_held_law (fun w' : World => w'.cell? ⟨gx, 0, none⟩ = some (.string key) ∧ w'.cell? ⟨gx, 1, none⟩ = some (.slice la e.lab.length lc) ∧ w'.cell? ⟨gx, 2, none⟩ = some (.bool e.mark) ∧ w'.cell? ⟨gx, 3, none⟩ = some (.int .u64 e.bits) ∧ w'.cell? ⟨gx, 4, none⟩ = some (.bool e.st) ∧ w'.cell? ⟨gx, 5, none⟩ = some (.int .i64 e.time) ∧ w'.cell? ⟨gx, 6, none⟩ = some (.int .i64 e.stamp) ∧ w'.cell? ⟨gy, 0, none⟩ = some (.string key) ∧ w'.cell? ⟨gy, 1, none⟩ = some (.slice la e.lab.length lc) ∧ w'.cell? ⟨gy, 2, none⟩ = some (.bool e.mark) ∧ w'.cell? ⟨gy, 3, none⟩ = some (.int .u64 e.bits) ∧ w'.cell? ⟨gy, 4, none⟩ = some (.bool e.st) ∧ w'.cell? ⟨gy, 5, none⟩ = some (.int .i64 e.time) ∧ w'.cell? ⟨gy, 6, none⟩ = some (.int .i64 e.stamp)) (first | go_keep | (with_reducible exact HSK.out _ hA) | (with_reducible exact HSK.out _ hC))
    (first
      | (go_at_call 26; refine at_worldB ?_; intro W1 hW1; have hb1 : Below w2.heap.size w2 W1 := (by rw [hW1]; first | exact Below.refl _ _ | exact (Below.refl _ _).drew | exact below_drewN (Below.refl _ _) _); clear hW1; refine (theirs_calls key la e.lab.length lc e.mark e.st e.bits e.time e.stamp W1).mono ?_; rintro en w4 ⟨rfl, hb4⟩; have hA : Below w2.heap.size w2 w4 := hb1.trans (hb4.mono hb1.size); clear hb1 hb4)
      | (go_at_call 78; refine at_worldB ?_; intro W3 hW3; have hb3 : Below w4.heap.size w4 W3 := (by rw [hW3]; first | exact Below.refl _ _ | exact (Below.refl _ _).drew | exact below_drewN (Below.refl _ _) _); clear hW3; refine (same_yes key la la lc lc e W3 ((HL.out.1.below hA (Nat.le_refl _)).below hb3 (Nat.le_refl _)) ((HL.out.1.below hA (Nat.le_refl _)).below hb3 (Nat.le_refl _)) HL.out.2.1 HL.out.2.2.1).mono ?_; rintro en w5 ⟨rfl, hb5⟩; have hC : Below w2.heap.size w2 w5 := hA.trans ((hb3.trans (hb5.mono hb3.size)).mono hA.size); have hB : Below w.heap.size w w5 := HL.out.2.2.2.trans (hC.mono HL.out.2.2.2.size); clear hb3 hb5))
  all_goals
    have HB := Lib.hid hB
    clear hB hA hC
    go_wp2_with fail
    go_ret
    exact ⟨rfl, HB.out⟩
set_option maxRecDepth 100000 in
set_option maxHeartbeats 4000000 in
theorem eqJ_yes (a b : Option Addr) (ca cb : Nat) (l : List SI) (w : World) (ha : RdJ w a l) (hb : RdJ w b l) (ho : JOk l) (hs : l.length ≤ 1000000000) :
    Calls Tryz.prog 118 #[.slice a l.length ca, .slice b l.length cb, .func (Fn.func 119) #[] #[]] w
      (TdPost (.bool true) w) := by
  have H := Lib.hid (And.intro ha (And.intro hb ho))
  clear ha hb ho
  go_enter Tryz.func118, Tryz.ntmps118
  go_wp2_with fail
  go_loopw [17] (fun i wr => ∃ k : Nat, k ≤ l.length ∧ i = .int .i64 k ∧ Below w.heap.size w wr) (fun i _ => l.length - (intOf i).toNat)
  case atStart => exact ⟨0, Nat.zero_le _, rfl, Below.refl _ _⟩
  case round =>
    obtain ⟨k, hk, rfl, hbr⟩ := hrel
    have hbs := hbr.size
    have HB := Lib.hid hbr
    clear hbr
    by_cases hlt : k < l.length
    · obtain ⟨x, hx⟩ : ∃ x, l[k]? = some x := ⟨_, List.getElem?_eq_getElem hlt⟩
      obtain ⟨ba, oa, rfl, hla, hca⟩ := (H.out.1.below HB.out).at_ hx
      obtain ⟨bb, ob, rfl, hlb, hcb⟩ := (H.out.2.1.below HB.out).at_ hx
      have hxm := List.mem_of_getElem? hx
      have HX := Lib.hid (And.intro ((H.out.1.lab x hxm).below HB.out (Nat.le_refl _)) (And.intro (H.out.2.2.ln x hxm) (H.out.2.2.sz x hxm)))
      have c0 := hca 0 _ rfl
      rw [Nat.add_zero] at c0
      have c1 := hca 1 _ rfl
      have c2 := hca 2 _ rfl
      have c3 := hca 3 _ rfl
      have c4 := hca 4 _ rfl
      have c5 := hca 5 _ rfl
      have c6 := hca 6 _ rfl
      have d0 := hcb 0 _ rfl
      rw [Nat.add_zero] at d0
      have d1 := hcb 1 _ rfl
      have d2 := hcb 2 _ rfl
      have d3 := hcb 3 _ rfl
      have d4 := hcb 4 _ rfl
      have d5 := hcb 5 _ rfl
      have d6 := hcb 6 _ rfl
      obtain ⟨w0, hw0⟩ : ∃ q, q = wr := ⟨_, rfl⟩
      subst hw0
      clear hca hcb hx hxm
      go_wp2_with fail
      go_at_call 119
      have hb2 : Below w0.heap.size w0 ((w0.alloc (.cells (iB x).toArray 40)).alloc (.cells (iB x).toArray 70)) := ((Below.refl _ _).alloc (Nat.le_refl _) _).alloc (by simp) _
      refine (same1_yes x.key x.la x.lc x.e _ (HX.out.1.below hb2 (Nat.le_refl _)) HX.out.2.1 HX.out.2.2).mono ?_
      rintro en w1 ⟨rfl, hb1⟩
      have HB1 : Hid (Below w.heap.size w w1) := Lib.hid ((HB.out.trans (hb2.mono hbs)).trans (hb1.mono (by simp; omega)))
      clear hb1 hb2 c0 c1 c2 c3 c4 c5 c6 d0 d1 d2 d3 d4 d5 d6
      go_wp2
      go_roundw
      case rel => exact ⟨k + 1, by omega, by go_num, HB1.out⟩
      case measure => simp [intOf]; omega
    · go_wp2
      go_ret
      exact ⟨rfl, HB.out⟩
set_option maxRecDepth 100000 in
theorem sameJ_yes (a b : Option Addr) (ca cb : Nat) (l : List SI) (w : World) (ha : RdJ w a l) (hb : RdJ w b l) (ho : JOk l) (hs : l.length ≤ 1000000000) :
    Calls Tryz.prog 72 #[.slice a l.length ca, .slice b l.length cb] w (TdPost (.bool true) w) := by
  have H := Lib.hid (eqJ_yes a b ca cb l w ha hb ho hs)
  clear ha hb ho
  go_enter Tryz.func72, Tryz.ntmps72
  go_wp2_with fail
  go_at_call 118
  refine H.out.mono ?_
  rintro en w1 ⟨rfl, hb1⟩
  have HB := Lib.hid hb1
  clear hb1
  go_wp2
  go_ret
  exact ⟨rfl, HB.out⟩
end Go.Proofs.YtdgfldeeflmnmaaGreatDoor.Sk
