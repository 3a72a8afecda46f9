/- Texts of the claim, put together: SlD. -/
import Derived.Test.YtimahlimmblgkaaGreatDoorPBkQ
import Derived.Test.YtimahlimmblgkaaGreatDoorPBaC
import Derived.Test.YtimahlimmblgkaaGreatDoorPSlC
namespace Go.Proofs.YtimahlimmblgkaaGreatDoor
namespace Rs
end Rs
open Go.RowKit Go.Shelf
end Go.Proofs.YtimahlimmblgkaaGreatDoor
namespace Go.Proofs.YtimahlimmblgkaaGreatDoor
open Go.RowKit Go.Shelf
theorem owns_new (W : World) (l : Rs.S) (T : TypeId) (hl : l.length ≤ 1000000) : (W.alloc (.cells (rFlat l).toArray T)).ownsRow W.heap.size T 2 (.slice (some ⟨W.heap.size, 0, none⟩) l.length l.length) l.length (rFlat l) :=
  ⟨rFlat_length l, .inr ⟨_, _, _, rfl, Nat.le_refl _, World.alloc_heap_new _ _, Nat.le_refl _, by unfold maxLen; omega, by simp [rFlat_length], by simp [← rFlat_length l]⟩⟩
set_option maxRecDepth 100000 in
set_option maxHeartbeats 1000000 in
theorem named_low (c : Int) (hc : c = 100 ∨ c = 115 ∨ c = 119) (w : World) :
    Calls Tryz.prog 137 #[.int .u8 c] w fun e w' => ∃ v, e = .returned (.tuple #[v, .bool true]) ∧ w'.ownsRow w.heap.size 84 2 v (Rs.lowS c).length (rFlat (Rs.lowS c)) ∧ Below w.heap.size w w' := by
  rcases hc with rfl | rfl | rfl
  all_goals
    go_enter Tryz.func137, Tryz.ntmps137
    go_wp2
    go_ret2
  · exact ⟨_, rfl, owns_new w [(48, 57)] _ (by decide), Bnew (Below.refl _ _) _⟩
  · exact ⟨_, rfl, owns_new w [(9, 10), (12, 13), (32, 32)] _ (by decide), Bnew (Below.refl _ _) _⟩
  · exact ⟨_, rfl, owns_new w [(48, 57), (65, 90), (95, 95), (97, 122)] _ (by decide), Bnew (Below.refl _ _) _⟩
set_option maxRecDepth 100000 in
set_option maxHeartbeats 1000000 in
theorem named_up (c d : Int) (hcd : (c = 68 ∧ d = 100) ∨ (c = 83 ∧ d = 115) ∨ (c = 87 ∧ d = 119)) (w : World) :
    Calls Tryz.prog 137 #[.int .u8 c] w fun e w' => ∃ v, e = .returned (.tuple #[v, .bool true]) ∧ w'.ownsRow w.heap.size 84 2 v (Rs.notS (Rs.lowS d)).length (rFlat (Rs.notS (Rs.lowS d))) ∧ Below w.heap.size w w' := by
  have hlow := named_low d (by omega) w
  have hr := Rs.lowS_right d
  have hlen := Rs.right_len hr
  have hnt := fun w2 a2 c2 (h : Sl w2 a2 c2 (Rs.lowS d)) => not_calls a2 c2 (Rs.lowS d) w2 h (by omega) (Rs.right_rg hr) (Rs.gaps_rg _ 0 (-2) (by omega) hr)
  clear hr
  generalize Rs.lowS d = L at *
  rcases hcd with ⟨rfl, rfl⟩ | ⟨rfl, rfl⟩ | ⟨rfl, rfl⟩
  all_goals
    go_enter Tryz.func137, Tryz.ntmps137
    go_wp2_with (first
      | (go_at_call 137; refine hlow.mono ?_; clear hlow; rintro e w2 ⟨v2, rfl, hown2, hb2⟩;
                                        obtain ⟨a2, c2, rfl, _, hs2⟩ := Sl.of_own hown2;
                                        replace hnt := hnt w2 a2 c2 hs2;
                                        clear hown2 hs2)
      | (go_at_call 162; refine hnt.mono ?_; clear hnt; rintro e w3 ⟨v3, rfl, hown3, hb3⟩))
    go_ret2
    exact ⟨_, rfl, ownsRow_base hown3 hb2.size, Bthen hb2 hb3⟩
set_option maxRecDepth 100000 in
set_option maxHeartbeats 1000000 in
theorem named_calls (c : Int) (w : World) :
    Calls Tryz.prog 137 #[.int .u8 c] w fun e w' => ∃ v, e = .returned (.tuple #[v, .bool (Rs.namedB c)]) ∧ w'.ownsRow w.heap.size 84 2 v (Rs.namedS c).length (rFlat (Rs.namedS c)) ∧ Below w.heap.size w w' := by
  by_cases h1 : c = 100 ∨ c = 115 ∨ c = 119
  · have e1 : Rs.namedB c = true := by unfold Rs.namedB; rcases h1 with rfl | rfl | rfl <;> rfl
    have e2 : Rs.namedS c = Rs.lowS c := if_pos h1
    rw [e1, e2]
    exact named_low c h1 w
  · by_cases h2 : c = 68 ∨ c = 83 ∨ c = 87
    · have e1 : Rs.namedB c = true := by unfold Rs.namedB; rcases h2 with rfl | rfl | rfl <;> rfl
      have e2 : Rs.namedS c = Rs.notS (Rs.lowS (c + 32)) := (if_neg h1).trans (if_pos h2)
      rw [e1, e2]
      exact named_up c (c + 32) (by omega) w
    · have e1 : Rs.namedB c = false := by unfold Rs.namedB; simp; omega
      have e2 : Rs.namedS c = [] := (if_neg h1).trans (if_neg h2)
      rw [e1, e2]
      have n1 : ¬ c = 100 := by omega
      have n2 : ¬ c = 115 := by omega
      have n3 : ¬ c = 119 := by omega
      have n4 : ¬ c = 68 := by omega
      have n5 : ¬ c = 83 := by omega
      have n6 : ¬ c = 87 := by omega
      clear h1 h2 e1 e2
      go_enter Tryz.func137, Tryz.ntmps137
      go_wp2
      go_ret2
      exact ⟨_, rfl, World.ownsRow_nil _ _ _ _, Below.refl _ _⟩
def letterB (c : Int) : Bool := (decide (48 ≤ c) && decide (c ≤ 57)) || (decide (65 ≤ c) && decide (c ≤ 90)) || (decide (97 ≤ c) && decide (c ≤ 122))
set_option maxRecDepth 100000 in
set_option maxHeartbeats 1000000 in
theorem letter_calls (c : Int) (w : World) :
    Calls Tryz.prog 170 #[.int .u8 c] w fun e w' => e = .returned (.bool (letterB c)) ∧ w' = w := by
  rcases (show c < 48 ∨ (48 ≤ c ∧ c ≤ 57) ∨ (57 < c ∧ c < 65) ∨ (65 ≤ c ∧ c ≤ 90) ∨ (90 < c ∧ c < 97) ∨ (97 ≤ c ∧ c ≤ 122) ∨ 122 < c from by omega) with h | ⟨h, k⟩ | ⟨h, k⟩ | ⟨h, k⟩ | ⟨h, k⟩ | ⟨h, k⟩ | h
  all_goals
    go_enter Tryz.func170, Tryz.ntmps170
    go_wp2
    go_ret
    exact ⟨ret_bool (by unfold letterB; rw [Bool.eq_iff_iff]; simp; omega), rfl⟩
end Go.Proofs.YtimahlimmblgkaaGreatDoor
namespace Go.Proofs.YtimahlimmblgkaaGreatDoor.Rs
end Go.Proofs.YtimahlimmblgkaaGreatDoor.Rs
namespace Go.Proofs.YtimahlimmblgkaaGreatDoor.Rs
end Go.Proofs.YtimahlimmblgkaaGreatDoor.Rs
