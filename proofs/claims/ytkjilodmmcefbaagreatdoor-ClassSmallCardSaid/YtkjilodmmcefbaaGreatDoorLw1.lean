/- The law's own helpers: theirs, Turned, same; slices.Equal at the reference's ranges. -/
import Derived.Test.YtkjilodmmcefbaaGreatDoorRfO
import Derived.Test.YtkjilodmmcefbaaGreatDoorAbt
namespace Go.Proofs.YtkjilodmmcefbaaGreatDoor
open Go.RowKit Go.Shelf
theorem run_neq_R6 (x y : Rs.R) (w : World) : (binOp .neq 59 (.agg #[.int .i64 x.1, .int .i64 x.2]) (.agg #[.int .i64 y.1, .int .i64 y.2])).run Tryz.prog w = .ok (.bool (!decide (x = y))) w := by
  rw [show decide (x = y) = (x.1 == y.1 && x.2 == y.2) by
    obtain ⟨x1, x2⟩ := x
    obtain ⟨y1, y2⟩ := y
    rw [Bool.eq_iff_iff]; simp]
  go_simp
  by_cases h1 : x.1 = y.1 <;> by_cases h2 : x.2 = y.2 <;> simp [h1, h2]

set_option maxRecDepth 100000 in
set_option maxHeartbeats 2000000 in
theorem eq6_calls (a b : Option Addr) (ca cb : Nat) (l m : Rs.S) (w : World) (ha : Sl w a ca l) (hb : Sl w b cb m) (hn : l.length < 4611686018427387904) :
    Calls Tryz.prog 45 #[.slice a l.length ca, .slice b m.length cb] w fun e w' => e = .returned (.bool (decide (l = m))) ∧ ∃ n, w' = w.drewN n := by
  have HA := Lib.hid ha
  have HB := Lib.hid hb
  clear ha hb
  by_cases hl : l.length = m.length
  · have hneq : ((l.length : Int) != (m.length : Int)) = false := by simp; omega
    have hl1 : l.length ≤ m.length := by omega
    have hl2 : m.length ≤ l.length := by omega
    clear hl
    go_enter Tryz.func45, Tryz.ntmps45
    go_wp2
    go_loopw [13] (fun i wr => ∃ k n : Nat, k ≤ l.length ∧ i = .int .i64 k ∧ Hid (l.take k = m.take k) ∧ Hid (wr = w.drewN n)) (fun i _ => l.length - (intOf i).toNat)
    case atStart => exact ⟨0, 0, Nat.zero_le _, rfl, Lib.hid (by simp), Lib.hid rfl⟩
    case round =>
      obtain ⟨k, n, hk, rfl, HT, HW⟩ := hrel
      by_cases hlt : k < l.length
      · obtain ⟨ba, oa, rfl, _, hca⟩ := HA.out.rd (by intro e; subst e; simp at hlt)
        obtain ⟨bb, ob, rfl, _, hcb⟩ := HB.out.rd (by intro e; rw [e] at hl1; simp at hl1; rw [hl1] at hlt; simp at hlt)
        obtain ⟨x, hx⟩ : ∃ x, l[k]? = some x := ⟨_, List.getElem?_eq_getElem hlt⟩
        obtain ⟨y, hy⟩ : ∃ y, m[k]? = some y := ⟨_, List.getElem?_eq_getElem (by omega)⟩
        obtain ⟨c0, c1⟩ := hca k _ hx
        obtain ⟨d0, d1⟩ := hcb k _ hy
        rw [← show wr.cell? _ = w.cell? _ by rw [HW.out]; rfl] at c0 c1 d0 d1
        have hne := fun W => run_neq_R6 x y W
        have HX := Lib.hid (show _ ∧ _ from ⟨hx, hy⟩)
        have hlt2 : k < m.length := by omega
        clear hx hy hca hcb
        by_cases hxy : x = y
        · rw [show (!decide (x = y)) = false by simp [hxy]] at hne
          have HE := Lib.hid hxy
          clear hxy
          go_wp2_with fail
          go_big_quiet (fail)
          go_wp2
          go_roundw
          case rel => exact ⟨k + 1, n + nq, by omega, by go_num, Lib.hid (by rw [Rs.take_succ HX.out.1, Rs.take_succ HX.out.2, HT.out, HE.out]), Lib.hid (by rw [HW.out, World.drewN_drewN])⟩
          case measure => simp [intOf]; omega
        · rw [show (!decide (x = y)) = true by simp [hxy]] at hne
          have HE : Hid (decide (l = m) = false) := Lib.hid (by simp; intro e; subst e; have := HX.out.1.symm.trans HX.out.2; cases this; exact hxy rfl)
          clear hxy
          go_wp2_with fail
          go_big_quiet (fail)
          go_wp2
          go_ret
          exact ⟨by rw [HE.out]; rfl, n + nq, by rw [HW.out, World.drewN_drewN]⟩
      · have hkl : k = l.length := by omega
        have HE : Hid (decide (l = m) = true) := Lib.hid (by have := HT.out; rw [List.take_of_length_le (by omega), List.take_of_length_le (by omega)] at this; simpa using this)
        have hge : ¬ (k : Int) < (l.length : Int) := by omega
        clear hkl
        go_wp2
        go_ret
        exact ⟨by rw [HE.out]; rfl, n, HW.out⟩
  · have hneq : ((l.length : Int) != (m.length : Int)) = true := by simp; omega
    have HE : Hid (decide (l = m) = false) := Lib.hid (by simp; intro e; exact hl (by rw [e]))
    clear hl
    go_enter Tryz.func45, Tryz.ntmps45
    go_wp2
    go_ret
    exact ⟨by rw [HE.out]; rfl, 0, rfl⟩
set_option maxRecDepth 100000 in
set_option maxHeartbeats 1000000 in
theorem theirs_calls (a : Option Addr) (cap : Nat) (l : Rs.S) (w : World) (h : Sl w a cap l) (hn : l.length ≤ 1000000000) :
    Calls Tryz.prog 46 #[.slice a l.length cap] w fun e w' => ∃ v, e = .returned v ∧ w'.ownsRow w.heap.size 59 2 v l.length (rFlat l) ∧ Below w.heap.size w w' := by
  have HSL := Lib.hid h
  clear h
  obtain ⟨i0, hi0, hz0, hz1, hz2⟩ := info_parts Tryz.info59
  go_enter Tryz.func46, Tryz.ntmps46
  go_wp2
  go_loopw [3, 5, 8] (fun v _ i wr => ∃ k : Nat, k ≤ l.length ∧ i = .int .i64 k ∧ wr.ownsRow w.heap.size 59 2 v k (rFlat (l.take k)) ∧ Below w.heap.size w wr) (fun _ _ i _ => l.length - (intOf i).toNat)
  case atStart => exact ⟨0, Nat.zero_le _, rfl, World.ownsRow_nil _ _ _ _, Below.refl _ _⟩
  case round =>
    obtain ⟨k, hk, rfl, hrow, hb⟩ := hrel
    have hbs := hb.size
    by_cases hlt : k < l.length
    · obtain ⟨b, off, rfl, hbl, hc⟩ := HSL.out.rd (by intro e; subst e; simp at hlt)
      obtain ⟨r, hr⟩ : ∃ r, l[k]? = some r := ⟨_, List.getElem?_eq_getElem hlt⟩
      obtain ⟨c0, c1⟩ := hc k _ hr
      rw [← hb.cell (by exact hbl)] at c0 c1
      have hbw : b < wr.heap.size := by omega
      have hst := Rs.take_succ hr
      obtain ⟨lo, hi⟩ := r
      dsimp only at c0 c1
      have HR := Lib.hid (show _ ∧ _ ∧ _ from ⟨hrow, hst, hb⟩)
      clear hr hc hrow hst hb
      go_wp2_with (at_builtin; refine wpList_append_own _ rfl _ _ 58 rfl w.heap.size 59 i0 (.agg #[.int .i64 0, .int .i64 0]) 2 16 Tryz.underlying58 hi0 hz0 hz1 hz2 rfl (by decide) _ _ _ rfl ((HR.out.1.alloc (.cells #[.int .i64 lo, .int .i64 hi] 34)).alloc (.cells #[.int .i64 lo, .int .i64 hi] 59)) ⟨wr.heap.size + 1, 0, none⟩ 1 1 [.int .i64 lo, .int .i64 hi] rfl rfl (cells_new (wr.alloc (.cells #[.int .i64 lo, .int .i64 hi] 34)) #[.int .i64 lo, .int .i64 hi] _ _ (by simp)) (by intro u hu; simp at hu; rcases hu with rfl | rfl <;> rfl) (by unfold maxLen; omega) (by omega) (by simp; omega) ?_; intro v' w1 hown' hgrow _;
                                        have HB2 := Lib.hid (show Below w.heap.size w w1 from app_endG (HR.out.1.alloc _) (HR.out.2.2.alloc hbs _) (by simp; omega) hgrow);
                                        clear hgrow)
      go_roundw
      case rel => exact ⟨k + 1, by omega, by go_num, by rw [HR.out.2.1, rFlat_append]; exact hown', HB2.out⟩
      case measure => simp [intOf]; omega
    · obtain rfl : k = l.length := by omega
      rw [List.take_length] at hrow
      go_wp2
      go_ret
      exact ⟨_, rfl, hrow, hb⟩
set_option maxRecDepth 100000 in
set_option maxHeartbeats 1000000 in
theorem turned_calls (a : Option Addr) (cap : Nat) (l : Rs.S) (w : World) (h : Sl w a cap l) (hn : l.length ≤ 1000000000) :
    Calls Tryz.prog 33 #[.slice a l.length cap] w fun e w' => ∃ v, e = .returned v ∧ w'.ownsRow w.heap.size 34 2 v l.length (rFlat l) ∧ Below w.heap.size w w' := by
  have HSL := Lib.hid h
  clear h
  obtain ⟨i0, hi0, hz0, hz1, hz2⟩ := info_parts Tryz.info34
  go_enter Tryz.func33, Tryz.ntmps33
  go_wp2
  go_loopw [3, 5, 8] (fun v _ i wr => ∃ k : Nat, k ≤ l.length ∧ i = .int .i64 k ∧ wr.ownsRow w.heap.size 34 2 v k (rFlat (l.take k)) ∧ Below w.heap.size w wr) (fun _ _ i _ => l.length - (intOf i).toNat)
  case atStart => exact ⟨0, Nat.zero_le _, rfl, World.ownsRow_nil _ _ _ _, Below.refl _ _⟩
  case round =>
    obtain ⟨k, hk, rfl, hrow, hb⟩ := hrel
    have hbs := hb.size
    by_cases hlt : k < l.length
    · obtain ⟨b, off, rfl, hbl, hc⟩ := HSL.out.rd (by intro e; subst e; simp at hlt)
      obtain ⟨r, hr⟩ : ∃ r, l[k]? = some r := ⟨_, List.getElem?_eq_getElem hlt⟩
      obtain ⟨c0, c1⟩ := hc k _ hr
      rw [← hb.cell (by exact hbl)] at c0 c1
      have hbw : b < wr.heap.size := by omega
      have hst := Rs.take_succ hr
      obtain ⟨lo, hi⟩ := r
      dsimp only at c0 c1
      have HR := Lib.hid (show _ ∧ _ ∧ _ from ⟨hrow, hst, hb⟩)
      clear hr hc hrow hst hb
      go_wp2_with (at_builtin; refine wpList_append_own _ rfl _ _ 25 rfl w.heap.size 34 i0 (.agg #[.int .i64 0, .int .i64 0]) 2 16 Tryz.underlying25 hi0 hz0 hz1 hz2 rfl (by decide) _ _ _ rfl ((HR.out.1.alloc (.cells #[.int .i64 lo, .int .i64 hi] 59)).alloc (.cells #[.int .i64 lo, .int .i64 hi] 34)) ⟨wr.heap.size + 1, 0, none⟩ 1 1 [.int .i64 lo, .int .i64 hi] rfl rfl (cells_new (wr.alloc (.cells #[.int .i64 lo, .int .i64 hi] 59)) #[.int .i64 lo, .int .i64 hi] _ _ (by simp)) (by intro u hu; simp at hu; rcases hu with rfl | rfl <;> rfl) (by unfold maxLen; omega) (by omega) (by simp; omega) ?_; intro v' w1 hown' hgrow _;
                                        have HB2 := Lib.hid (show Below w.heap.size w w1 from app_endG (HR.out.1.alloc _) (HR.out.2.2.alloc hbs _) (by simp; omega) hgrow);
                                        clear hgrow)
      go_roundw
      case rel => exact ⟨k + 1, by omega, by go_num, by rw [HR.out.2.1, rFlat_append]; exact hown', HB2.out⟩
      case measure => simp [intOf]; omega
    · obtain rfl : k = l.length := by omega
      rw [List.take_length] at hrow
      go_wp2
      go_ret
      exact ⟨_, rfl, hrow, hb⟩


set_option maxRecDepth 100000 in
set_option maxHeartbeats 1000000 in
theorem same_true (a b : Option Addr) (ca cb : Nat) (l : Rs.S) (er : Int) (w : World) (h : Sl w a ca l) (k : Sl w b cb l) (hn : l.length ≤ 1000000000) :
    Calls Tryz.prog 44 #[.slice a l.length ca, .int .i64 er, .slice b l.length cb, .int .i64 er] w fun e w' => e = .returned (.bool true) ∧ Below w.heap.size w w' := by
  have ht := theirs_calls a ca l w h hn
  have HK := Lib.hid k
  clear h k
  go_enter Tryz.func44, Tryz.ntmps44
  go_wp2_with fail
  go_at_call 46
  refine ht.mono ?_
  clear ht
  rintro e w1 ⟨v, rfl, hown, hb⟩
  obtain ⟨a3, c3, rfl, _, hs3⟩ := Sl.of_ownT hown
  have heq := eq6_calls a3 b c3 cb l l w1 hs3 (HK.out.below hb) (by omega)
  rw [decide_eq_true rfl] at heq
  have HB := Lib.hid hb
  clear hown hs3 hb
  go_wp2_with fail
  go_at_call 45
  refine heq.mono ?_
  clear heq
  rintro e w2 ⟨rfl, nq, hw2⟩
  subst hw2
  go_wp2
  go_ret
  exact ⟨rfl, Bdrew HB.out nq⟩
end Go.Proofs.YtkjilodmmcefbaaGreatDoor
