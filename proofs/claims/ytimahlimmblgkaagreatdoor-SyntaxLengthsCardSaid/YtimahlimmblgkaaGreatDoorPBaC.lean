/- Texts of the claim, put together: BaC. -/
import Derived.Test.YtimahlimmblgkaaGreatDoorPBaA
namespace Go.Proofs.YtimahlimmblgkaaGreatDoor
open Go.RowKit
theorem point_calls (c : Int) (w : World) : Calls Tryz.prog 130 #[.int .i64 c] w fun e w' => e = .returned (.bool (Rs.pt c)) ∧ w = w' := by
  go_enter Tryz.func130, Tryz.ntmps130
  go_wp2
  all_goals go_ret
  all_goals exact ⟨ret_bool (by rw [Bool.eq_iff_iff]; simp [Rs.pt]; omega), rfl⟩
theorem point_quiet (c : Int) (w : World) : Calls Tryz.prog 130 #[.int .i64 c] w fun e w' => e = .returned (.bool (Rs.pt c)) ∧ w' = w :=
  (point_calls c w).mono fun _ _ h => ⟨h.1, h.2.symm⟩
set_option maxRecDepth 100000 in
set_option maxHeartbeats 2000000 in
theorem right_calls (a : Option Addr) (cap : Nat) (l : Rs.S) (w : World) (hrd : RdR w a l) (hn : l.length < 4611686018427387904) :
    Calls Tryz.prog 100 #[.slice a l.length cap] w fun e w' => e = .returned (.bool (Rs.right l)) ∧ Below w.heap.size w w' := by
  go_enter Tryz.func100, Tryz.ntmps100
  go_wp2
  go_loopw [7] (fun i wr => ∃ k : Nat, k ≤ l.length ∧ i = .int .i64 k ∧ Rs.right (l.take k) = true ∧ Below w.heap.size w wr) (fun i _ => l.length - (intOf i).toNat)
  case atStart => exact ⟨0, Nat.zero_le _, rfl, rfl, Below.refl _ _⟩
  case round =>
    obtain ⟨k, hk, rfl, hR, hb⟩ := hrel
    by_cases hlt : k < l.length
    · obtain ⟨b, off, rfl, hbs, hc⟩ := hrd (by intro e; subst e; simp at hlt)
      obtain ⟨r, hr⟩ : ∃ r, l[k]? = some r := ⟨_, List.getElem?_eq_getElem hlt⟩
      obtain ⟨lo, hi⟩ := r
      obtain ⟨c0, c1⟩ := hc k _ hr
      rw [← hb.cell (by exact hbs)] at c0 c1
      have hbw : b < wr.heap.size := by have := hb.size; omega
      have HR := Lib.hid hr
      have HRR := Lib.hid hR
      have HC := Lib.hid hc
      clear hr hR hc hrd
      dsimp only at c0 c1
      have fin : ∀ n, Below w.heap.size w ((wr.alloc (Obj.cells #[Value.int IntKind.i64 lo, Value.int IntKind.i64 hi] 84)).drewN n) := fun n => below_drewN (hb.alloc hb.size _) n
      have FIN := Lib.hid fin
      clear fin
      rcases (show (Rs.pt lo = false) ∨ (Rs.pt lo = true ∧ Rs.pt hi = false) ∨ (Rs.pt lo = true ∧ Rs.pt hi = true ∧ hi < lo) ∨ (Rs.pt lo = true ∧ Rs.pt hi = true ∧ lo ≤ hi ∧ lo ≤ 55295 ∧ 55295 < hi) ∨
        (Rs.pt lo = true ∧ Rs.pt hi = true ∧ lo ≤ hi ∧ lo ≤ 55295 ∧ hi ≤ 55295) ∨ (Rs.pt lo = true ∧ Rs.pt hi = true ∧ lo ≤ hi ∧ 55295 < lo) from by
          cases Rs.pt lo <;> cases Rs.pt hi <;> simp <;> omega) with h | ⟨h, h2⟩ | ⟨h, h2, h3⟩ | ⟨h, h2, h3, h4, h5⟩ | ⟨h, h2, h3, h4, h5⟩ | ⟨h, h2, h3, h4⟩
      · have NO : Hid (Rs.right l = false) := Lib.hid (Rs.right_no HR.out (Rs.okR_no _ (.inl h)))
        go_wp2_with fail
        go_big_quiet ((go_at_call 130; exact Calls.quiet_of_same (point_quiet _ _)))
        go_wp2
        go_ret
        exact ⟨by rw [NO.out]; rfl, FIN.out _⟩
      · have NO : Hid (Rs.right l = false) := Lib.hid (Rs.right_no HR.out (Rs.okR_no _ (.inr (.inl h2))))
        go_wp2_with fail
        go_big_quiet ((go_at_call 130; exact Calls.quiet_of_same (point_quiet _ _)))
        go_wp2
        go_ret
        exact ⟨by rw [NO.out]; rfl, FIN.out _⟩
      · have NO : Hid (Rs.right l = false) := Lib.hid (Rs.right_no HR.out (Rs.okR_no _ (.inr (.inr (.inl h3)))))
        have hd1 : decide (hi < lo) = true := by simp; omega
        go_wp2_with fail
        go_big_quiet ((go_at_call 130; exact Calls.quiet_of_same (point_quiet _ _)))
        go_wp2
        go_ret
        exact ⟨by rw [NO.out]; rfl, FIN.out _⟩
      · have NO : Hid (Rs.right l = false) := Lib.hid (Rs.right_no HR.out (Rs.okR_no _ (.inr (.inr (.inr ⟨h4, h5⟩)))))
        have hd1 : decide (hi < lo) = false := by simp; omega
        have hd2 : decide (55295 < hi) = true := by simp; omega
        go_wp2_with fail
        go_big_quiet ((go_at_call 130; exact Calls.quiet_of_same (point_quiet _ _)))
        go_wp2
        go_ret
        exact ⟨by rw [NO.out]; rfl, FIN.out _⟩
      all_goals
        have ho : Hid (Rs.okR (lo, hi) = true) := Lib.hid (Rs.okR_of _ h h2 h3 (by simp only; omega))
        have hd1 : decide (hi < lo) = false := by simp; omega
        have hd2 : decide (lo ≤ 55295) = true → decide (55295 < hi) = false := by simp; omega
        by_cases hk0 : k ≤ 0
        · have YES : Hid (Rs.right (l.take (k + 1)) = true) := Lib.hid (Rs.right_yes HRR.out HR.out ho.out (fun q hq => by omega))
          have hd : decide (0 < k) = false := by simp; omega
          first | (have hd3 : decide (55295 < hi) = false := by simp; omega) | (have hd3 : decide (lo ≤ 55295) = false := by simp; omega)
          go_wp2_with fail
          go_big_quiet ((go_at_call 130; exact Calls.quiet_of_same (point_quiet _ _)))
          go_wp2
          go_roundw
          case rel => exact ⟨k + 1, by omega, by go_num, YES.out, FIN.out _⟩
          case measure => simp [intOf]; omega
        · have hk1 : 1 ≤ k := by omega
          clear hk0
          obtain ⟨r', hr'⟩ : ∃ r', l[k - 1]? = some r' := ⟨_, List.getElem?_eq_getElem (by omega)⟩
          obtain ⟨plo, phi⟩ := r'
          obtain ⟨d0, d1⟩ := HC.out (k - 1) _ hr'
          rw [← hb.cell (by exact hbs)] at d0 d1
          have HR' := Lib.hid hr'
          dsimp only at d0 d1
          clear hr'
          have hpo := (Rs.okR_iff _).1 (Rs.right_take_ok HRR.out (by omega) HR'.out)
          dsimp only at hpo
          have hph : phi ≤ 1114111 := by omega
          have hph' : 0 ≤ phi := by omega
          clear hpo
          have hd : decide (0 < k) = true := by simp; omega
          first | (have hd3 : decide (55295 < hi) = false := by simp; omega) | (have hd3 : decide (lo ≤ 55295) = false := by simp; omega)
          by_cases h6 : lo ≤ phi + 1
          · have NO : Hid (Rs.right l = false) := Lib.hid (Rs.right_no2 hk1 HR'.out HR.out h6)
            go_wp2_with fail
            go_big_quiet ((go_at_call 130; exact Calls.quiet_of_same (point_quiet _ _)))
            go_wp2
            go_ret
            exact ⟨by rw [NO.out]; rfl, FIN.out _⟩
          · have YES : Hid (Rs.right (l.take (k + 1)) = true) := Lib.hid (Rs.right_yes HRR.out HR.out ho.out (fun q _ hq => by rw [HR'.out] at hq; cases hq; simp only; omega))
            go_wp2_with fail
            go_big_quiet ((go_at_call 130; exact Calls.quiet_of_same (point_quiet _ _)))
            go_wp2
            go_roundw
            case rel => exact ⟨k + 1, by omega, by go_num, YES.out, FIN.out _⟩
            case measure => simp [intOf]; omega
    · have YES : Hid (Rs.right l = true) := Lib.hid (by rw [List.take_of_length_le (by omega)] at hR; exact hR)
      clear hR
      go_wp2
      go_ret
      exact ⟨by rw [YES.out]; rfl, hb⟩
end Go.Proofs.YtimahlimmblgkaaGreatDoor
