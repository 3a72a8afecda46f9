/- Several parts in one text: EcS, EcT. -/
import Derived.Test.YtkjilodmmcefbaaGreatDoorEcR
/- The reference's Escape: a mark behind the stroke. -/
namespace Go.Proofs.YtkjilodmmcefbaaGreatDoor
open Go.RowKit Go.Shelf
-- REST
set_option maxRecDepth 100000 in
set_option maxHeartbeats 4000000 in
theorem resc_chr (s : ByteArray) (w : World) (g0 : 0 < s.size) (g1 : 1 < s.size) (h1 : ((((s[0]'g0).toNat : Int)) != 92) = false) (hx : Rs.sign ((s[1]'g1).toNat : Int) = none) (hc : (33 ≤ (s[1]'g1).toNat ∧ (s[1]'g1).toNat ≤ 47) ∨ (58 ≤ (s[1]'g1).toNat ∧ (s[1]'g1).toNat ≤ 64) ∨ (91 ≤ (s[1]'g1).toNat ∧ (s[1]'g1).toNat ≤ 96) ∨ (123 ≤ (s[1]'g1).toNat ∧ (s[1]'g1).toNat ≤ 126)) :
    Calls Tryz.prog 42 #[.string s] w fun e w' => e = .returned (.tuple #[.int .i64 ((s[1]'g1).toNat : Int), .int .i64 2, .int .i64 0]) ∧ Below w.heap.size w w' := by
  have HX := Lib.hid hx
  clear hx
  have HB : Hid (Below w.heap.size w (w.alloc (.cells #[.int .i64 10, .int .i64 9, .int .i64 13, .int .i64 12, .int .i64 11, .int .i64 7] 3))) := Lib.hid (Bnew (Below.refl _ _) _)
  go_enter Tryz.func42, Tryz.ntmps42
  go_wp2
  go_loopw [7] (fun i wr => EcI 0 (w.alloc (.cells #[.int .i64 10, .int .i64 9, .int .i64 13, .int .i64 12, .int .i64 11, .int .i64 7] 3)) i wr) (fun i _ => 6 - (intOf i).toNat)
  case atStart => exact ⟨0, by decide, rfl, fun j hj => by omega, 0, rfl⟩
  case round =>
    obtain ⟨k, hk, rfl, hno, n, rfl⟩ := hrel
    clear hno
    have hb := (s[1]'g1).toNat_lt
    have i1 : ∀ W, (Instr.index 9 (.string s) (.int .i64 1)).run Tryz.prog W = .ok (.int .u8 ((s[1]'g1).toNat : Int)) W := fun W => by
      rw [run_index_string (h := Tryz.underlying9), dif_pos ⟨by decide, by omega⟩]; rfl
    by_cases h6 : k = 6
    · subst h6
      have hw : IntKind.i64.wrap ((s[1]'g1).toNat : Int) = ((s[1]'g1).toNat : Int) := by rw [IntKind.wrap_i64]; omega
      rcases hc with ⟨c1, c2⟩ | ⟨c1, c2⟩ | ⟨c1, c2⟩ | ⟨c1, c2⟩
      all_goals
        go_wp2
        go_ret3
        exact ⟨rfl, below_drewN HB.out _⟩
    · have HN : Hid (∀ j, j < k + 1 → sgs.getD j 0 ≠ 0) := Lib.hid (fun j hj => by
        have : ∀ q : Fin 6, sgs.getD q.val 0 ≠ 0 := by decide
        exact this ⟨j, by omega⟩)
      rcases (show k = 0 ∨ k = 1 ∨ k = 2 ∨ k = 3 ∨ k = 4 ∨ k = 5 by omega) with rfl | rfl | rfl | rfl | rfl | rfl
      · have hq : (((s[1]'g1).toNat : Int) == (((⟨#[110, 116, 114, 102, 118, 97]⟩ : ByteArray)[0]'(by decide)).toNat : Int)) = false := by
          rw [show (((⟨#[110, 116, 114, 102, 118, 97]⟩ : ByteArray)[0]'(by decide)).toNat : Int) = 110 from rfl]
          have hs := HX.out
          simp only [beq_eq_false_iff_ne, ne_eq]
          intro e
          rw [e] at hs
          cases hs
        go_wp2_with fail
        go_big_quiet (fail)
        go_wp2_with fail
        go_roundw
        case rel =>
          refine ⟨1, by decide, rfl, HN.out, ?_⟩
          first | exact ⟨_, World.drewN_drewN _ _ _⟩ | exact ⟨_, rfl⟩ | (rw [World.drewN_drewN]; exact ⟨_, rfl⟩)
        case measure => simp [intOf]
      · have hq : (((s[1]'g1).toNat : Int) == (((⟨#[110, 116, 114, 102, 118, 97]⟩ : ByteArray)[1]'(by decide)).toNat : Int)) = false := by
          rw [show (((⟨#[110, 116, 114, 102, 118, 97]⟩ : ByteArray)[1]'(by decide)).toNat : Int) = 116 from rfl]
          have hs := HX.out
          simp only [beq_eq_false_iff_ne, ne_eq]
          intro e
          rw [e] at hs
          cases hs
        go_wp2_with fail
        go_big_quiet (fail)
        go_wp2_with fail
        go_roundw
        case rel =>
          refine ⟨2, by decide, rfl, HN.out, ?_⟩
          first | exact ⟨_, World.drewN_drewN _ _ _⟩ | exact ⟨_, rfl⟩ | (rw [World.drewN_drewN]; exact ⟨_, rfl⟩)
        case measure => simp [intOf]
      · have hq : (((s[1]'g1).toNat : Int) == (((⟨#[110, 116, 114, 102, 118, 97]⟩ : ByteArray)[2]'(by decide)).toNat : Int)) = false := by
          rw [show (((⟨#[110, 116, 114, 102, 118, 97]⟩ : ByteArray)[2]'(by decide)).toNat : Int) = 114 from rfl]
          have hs := HX.out
          simp only [beq_eq_false_iff_ne, ne_eq]
          intro e
          rw [e] at hs
          cases hs
        go_wp2_with fail
        go_big_quiet (fail)
        go_wp2_with fail
        go_roundw
        case rel =>
          refine ⟨3, by decide, rfl, HN.out, ?_⟩
          first | exact ⟨_, World.drewN_drewN _ _ _⟩ | exact ⟨_, rfl⟩ | (rw [World.drewN_drewN]; exact ⟨_, rfl⟩)
        case measure => simp [intOf]
      · have hq : (((s[1]'g1).toNat : Int) == (((⟨#[110, 116, 114, 102, 118, 97]⟩ : ByteArray)[3]'(by decide)).toNat : Int)) = false := by
          rw [show (((⟨#[110, 116, 114, 102, 118, 97]⟩ : ByteArray)[3]'(by decide)).toNat : Int) = 102 from rfl]
          have hs := HX.out
          simp only [beq_eq_false_iff_ne, ne_eq]
          intro e
          rw [e] at hs
          cases hs
        go_wp2_with fail
        go_big_quiet (fail)
        go_wp2_with fail
        go_roundw
        case rel =>
          refine ⟨4, by decide, rfl, HN.out, ?_⟩
          first | exact ⟨_, World.drewN_drewN _ _ _⟩ | exact ⟨_, rfl⟩ | (rw [World.drewN_drewN]; exact ⟨_, rfl⟩)
        case measure => simp [intOf]
      · have hq : (((s[1]'g1).toNat : Int) == (((⟨#[110, 116, 114, 102, 118, 97]⟩ : ByteArray)[4]'(by decide)).toNat : Int)) = false := by
          rw [show (((⟨#[110, 116, 114, 102, 118, 97]⟩ : ByteArray)[4]'(by decide)).toNat : Int) = 118 from rfl]
          have hs := HX.out
          simp only [beq_eq_false_iff_ne, ne_eq]
          intro e
          rw [e] at hs
          cases hs
        go_wp2_with fail
        go_big_quiet (fail)
        go_wp2_with fail
        go_roundw
        case rel =>
          refine ⟨5, by decide, rfl, HN.out, ?_⟩
          first | exact ⟨_, World.drewN_drewN _ _ _⟩ | exact ⟨_, rfl⟩ | (rw [World.drewN_drewN]; exact ⟨_, rfl⟩)
        case measure => simp [intOf]
      · have hq : (((s[1]'g1).toNat : Int) == (((⟨#[110, 116, 114, 102, 118, 97]⟩ : ByteArray)[5]'(by decide)).toNat : Int)) = false := by
          rw [show (((⟨#[110, 116, 114, 102, 118, 97]⟩ : ByteArray)[5]'(by decide)).toNat : Int) = 97 from rfl]
          have hs := HX.out
          simp only [beq_eq_false_iff_ne, ne_eq]
          intro e
          rw [e] at hs
          cases hs
        go_wp2_with fail
        go_big_quiet (fail)
        go_wp2_with fail
        go_roundw
        case rel =>
          refine ⟨6, by decide, rfl, HN.out, ?_⟩
          first | exact ⟨_, World.drewN_drewN _ _ _⟩ | exact ⟨_, rfl⟩ | (rw [World.drewN_drewN]; exact ⟨_, rfl⟩)
        case measure => simp [intOf]
end Go.Proofs.YtkjilodmmcefbaaGreatDoor
/- The reference's Escape: no mark and no x behind the stroke. -/
namespace Go.Proofs.YtkjilodmmcefbaaGreatDoor
open Go.RowKit Go.Shelf
-- REST
set_option maxRecDepth 100000 in
set_option maxHeartbeats 4000000 in
theorem resc_nox (s : ByteArray) (w : World) (g0 : 0 < s.size) (g1 : 1 < s.size) (h1 : ((((s[0]'g0).toNat : Int)) != 92) = false) (hx : Rs.sign ((s[1]'g1).toNat : Int) = none) (hc : ¬ ((33 ≤ (s[1]'g1).toNat ∧ (s[1]'g1).toNat ≤ 47) ∨ (58 ≤ (s[1]'g1).toNat ∧ (s[1]'g1).toNat ≤ 64) ∨ (91 ≤ (s[1]'g1).toNat ∧ (s[1]'g1).toNat ≤ 96) ∨ (123 ≤ (s[1]'g1).toNat ∧ (s[1]'g1).toNat ≤ 126))) (hz : (s[1]'g1).toNat ≠ 120 ∨ s.size < 4) :
    Calls Tryz.prog 42 #[.string s] w fun e w' => e = .returned (.tuple #[.int .i64 0, .int .i64 0, .int .i64 61]) ∧ Below w.heap.size w w' := by
  have HX := Lib.hid hx
  clear hx
  have HB : Hid (Below w.heap.size w (w.alloc (.cells #[.int .i64 10, .int .i64 9, .int .i64 13, .int .i64 12, .int .i64 11, .int .i64 7] 3))) := Lib.hid (Bnew (Below.refl _ _) _)
  go_enter Tryz.func42, Tryz.ntmps42
  go_wp2
  go_loopw [7] (fun i wr => EcI 0 (w.alloc (.cells #[.int .i64 10, .int .i64 9, .int .i64 13, .int .i64 12, .int .i64 11, .int .i64 7] 3)) i wr) (fun i _ => 6 - (intOf i).toNat)
  case atStart => exact ⟨0, by decide, rfl, fun j hj => by omega, 0, rfl⟩
  case round =>
    obtain ⟨k, hk, rfl, hno, n, rfl⟩ := hrel
    clear hno
    have hb := (s[1]'g1).toNat_lt
    have i1 : ∀ W, (Instr.index 9 (.string s) (.int .i64 1)).run Tryz.prog W = .ok (.int .u8 ((s[1]'g1).toNat : Int)) W := fun W => by
      rw [run_index_string (h := Tryz.underlying9), dif_pos ⟨by decide, by omega⟩]; rfl
    by_cases h6 : k = 6
    · subst h6
      have hw : IntKind.i64.wrap ((s[1]'g1).toNat : Int) = ((s[1]'g1).toNat : Int) := by rw [IntKind.wrap_i64]; omega
      rcases (show (s[1]'g1).toNat < 33 ∨ (47 < (s[1]'g1).toNat ∧ (s[1]'g1).toNat < 58) ∨ (64 < (s[1]'g1).toNat ∧ (s[1]'g1).toNat < 91) ∨ (96 < (s[1]'g1).toNat ∧ (s[1]'g1).toNat < 123) ∨ 126 < (s[1]'g1).toNat by omega) with c1 | ⟨c1, c2⟩ | ⟨c1, c2⟩ | ⟨c1, c2⟩ | c1
      all_goals
        rcases hz with hz | hz
        all_goals
          go_wp2
          all_goals
            go_ret3
            exact ⟨rfl, below_drewN HB.out _⟩
    · have HN : Hid (∀ j, j < k + 1 → sgs.getD j 0 ≠ 0) := Lib.hid (fun j hj => by
        have : ∀ q : Fin 6, sgs.getD q.val 0 ≠ 0 := by decide
        exact this ⟨j, by omega⟩)
      rcases (show k = 0 ∨ k = 1 ∨ k = 2 ∨ k = 3 ∨ k = 4 ∨ k = 5 by omega) with rfl | rfl | rfl | rfl | rfl | rfl
      · have hq : (((s[1]'g1).toNat : Int) == (((⟨#[110, 116, 114, 102, 118, 97]⟩ : ByteArray)[0]'(by decide)).toNat : Int)) = false := by
          rw [show (((⟨#[110, 116, 114, 102, 118, 97]⟩ : ByteArray)[0]'(by decide)).toNat : Int) = 110 from rfl]
          have hs := HX.out
          simp only [beq_eq_false_iff_ne, ne_eq]
          intro e
          rw [e] at hs
          cases hs
        go_wp2_with fail
        go_big_quiet (fail)
        go_wp2_with fail
        go_roundw
        case rel =>
          refine ⟨1, by decide, rfl, HN.out, ?_⟩
          first | exact ⟨_, World.drewN_drewN _ _ _⟩ | exact ⟨_, rfl⟩ | (rw [World.drewN_drewN]; exact ⟨_, rfl⟩)
        case measure => simp [intOf]
      · have hq : (((s[1]'g1).toNat : Int) == (((⟨#[110, 116, 114, 102, 118, 97]⟩ : ByteArray)[1]'(by decide)).toNat : Int)) = false := by
          rw [show (((⟨#[110, 116, 114, 102, 118, 97]⟩ : ByteArray)[1]'(by decide)).toNat : Int) = 116 from rfl]
          have hs := HX.out
          simp only [beq_eq_false_iff_ne, ne_eq]
          intro e
          rw [e] at hs
          cases hs
        go_wp2_with fail
        go_big_quiet (fail)
        go_wp2_with fail
        go_roundw
        case rel =>
          refine ⟨2, by decide, rfl, HN.out, ?_⟩
          first | exact ⟨_, World.drewN_drewN _ _ _⟩ | exact ⟨_, rfl⟩ | (rw [World.drewN_drewN]; exact ⟨_, rfl⟩)
        case measure => simp [intOf]
      · have hq : (((s[1]'g1).toNat : Int) == (((⟨#[110, 116, 114, 102, 118, 97]⟩ : ByteArray)[2]'(by decide)).toNat : Int)) = false := by
          rw [show (((⟨#[110, 116, 114, 102, 118, 97]⟩ : ByteArray)[2]'(by decide)).toNat : Int) = 114 from rfl]
          have hs := HX.out
          simp only [beq_eq_false_iff_ne, ne_eq]
          intro e
          rw [e] at hs
          cases hs
        go_wp2_with fail
        go_big_quiet (fail)
        go_wp2_with fail
        go_roundw
        case rel =>
          refine ⟨3, by decide, rfl, HN.out, ?_⟩
          first | exact ⟨_, World.drewN_drewN _ _ _⟩ | exact ⟨_, rfl⟩ | (rw [World.drewN_drewN]; exact ⟨_, rfl⟩)
        case measure => simp [intOf]
      · have hq : (((s[1]'g1).toNat : Int) == (((⟨#[110, 116, 114, 102, 118, 97]⟩ : ByteArray)[3]'(by decide)).toNat : Int)) = false := by
          rw [show (((⟨#[110, 116, 114, 102, 118, 97]⟩ : ByteArray)[3]'(by decide)).toNat : Int) = 102 from rfl]
          have hs := HX.out
          simp only [beq_eq_false_iff_ne, ne_eq]
          intro e
          rw [e] at hs
          cases hs
        go_wp2_with fail
        go_big_quiet (fail)
        go_wp2_with fail
        go_roundw
        case rel =>
          refine ⟨4, by decide, rfl, HN.out, ?_⟩
          first | exact ⟨_, World.drewN_drewN _ _ _⟩ | exact ⟨_, rfl⟩ | (rw [World.drewN_drewN]; exact ⟨_, rfl⟩)
        case measure => simp [intOf]
      · have hq : (((s[1]'g1).toNat : Int) == (((⟨#[110, 116, 114, 102, 118, 97]⟩ : ByteArray)[4]'(by decide)).toNat : Int)) = false := by
          rw [show (((⟨#[110, 116, 114, 102, 118, 97]⟩ : ByteArray)[4]'(by decide)).toNat : Int) = 118 from rfl]
          have hs := HX.out
          simp only [beq_eq_false_iff_ne, ne_eq]
          intro e
          rw [e] at hs
          cases hs
        go_wp2_with fail
        go_big_quiet (fail)
        go_wp2_with fail
        go_roundw
        case rel =>
          refine ⟨5, by decide, rfl, HN.out, ?_⟩
          first | exact ⟨_, World.drewN_drewN _ _ _⟩ | exact ⟨_, rfl⟩ | (rw [World.drewN_drewN]; exact ⟨_, rfl⟩)
        case measure => simp [intOf]
      · have hq : (((s[1]'g1).toNat : Int) == (((⟨#[110, 116, 114, 102, 118, 97]⟩ : ByteArray)[5]'(by decide)).toNat : Int)) = false := by
          rw [show (((⟨#[110, 116, 114, 102, 118, 97]⟩ : ByteArray)[5]'(by decide)).toNat : Int) = 97 from rfl]
          have hs := HX.out
          simp only [beq_eq_false_iff_ne, ne_eq]
          intro e
          rw [e] at hs
          cases hs
        go_wp2_with fail
        go_big_quiet (fail)
        go_wp2_with fail
        go_roundw
        case rel =>
          refine ⟨6, by decide, rfl, HN.out, ?_⟩
          first | exact ⟨_, World.drewN_drewN _ _ _⟩ | exact ⟨_, rfl⟩ | (rw [World.drewN_drewN]; exact ⟨_, rfl⟩)
        case measure => simp [intOf]
end Go.Proofs.YtkjilodmmcefbaaGreatDoor
