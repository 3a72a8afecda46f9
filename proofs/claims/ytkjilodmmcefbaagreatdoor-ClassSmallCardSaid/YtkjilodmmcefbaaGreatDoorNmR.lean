/- The reference's other and Named. -/
import Derived.Test.YtkjilodmmcefbaaGreatDoorRfO
import Derived.Test.YtkjilodmmcefbaaGreatDoorSlD
namespace Go.Proofs.YtkjilodmmcefbaaGreatDoor
open Go.RowKit Go.Shelf
theorem other_low (v : Value) (c : Int) (hc : 97 ≤ c) (w : World) :
    Calls Tryz.prog 79 #[v, .int .u8 c] w fun e w' => e = .returned v ∧ w' = w := by
  go_enter Tryz.func79, Tryz.ntmps79
  go_wp2
  go_ret
  exact ⟨rfl, rfl⟩
theorem other_up (l : Rs.S) (T : TypeId) (c : Int) (hc : c < 97) (w : World) (hp : Rs.right l = true) (hn : l.length ≤ 1000) :
    Calls Tryz.prog 79 #[.slice (some ⟨w.heap.size, 0, none⟩) l.length l.length, .int .u8 c] (w.alloc (.cells (rFlat l).toArray T)) fun e w' => ∃ v, e = .returned v ∧ w'.ownsRow w.heap.size 59 2 v (Rs.notS l).length (rFlat (Rs.notS l)) ∧ Below w.heap.size w w' := by
  obtain ⟨a, cap, e, _, hs⟩ := Sl.of_ownT (owns_new w l T (by omega))
  cases e
  have hj := join_calls (some ⟨w.heap.size, 0, none⟩) none l.length 0 l [] (Rs.notS l) false false false true _ hs (Sl.nil0 _) (by omega) (by simp) (Rs.right_bd hp) (fun r hr => by cases hr) (Rs.notS_right hp) (fun c => by rw [Rs.jf_no, Rs.notS_mem hp])
  have HB : Hid (Below w.heap.size w (w.alloc (.cells (rFlat l).toArray T))) := Lib.hid (Bnew (Below.refl _ _) _)
  clear hs hp
  generalize w.alloc (.cells (rFlat l).toArray T) = w1 at *
  generalize hg : (some ⟨w.heap.size, 0, none⟩ : Option Addr) = g at *
  clear hg
  go_enter Tryz.func79, Tryz.ntmps79
  go_wp2_with fail
  go_at_call 73
  refine hj.mono ?_
  clear hj
  rintro e w2 ⟨v, rfl, hown, hb2⟩
  go_wp2_with fail
  go_ret
  exact ⟨_, rfl, ownsRow_base hown HB.out.size, Bthen HB.out hb2⟩
def NamR (w : World) (c : Int) (e : Ending) (w' : World) : Prop := ∃ v, e = .returned (.tuple #[v, .bool (Rs.namedB c)]) ∧ w'.ownsRow w.heap.size 59 2 v (Rs.namedS c).length (rFlat (Rs.namedS c)) ∧ Below w.heap.size w w'
set_option maxRecDepth 100000 in
set_option maxHeartbeats 1000000 in
theorem refNamed_calls (c : Int) (w : World) : Calls Tryz.prog 43 #[.int .u8 c] w (NamR w c) := by
  rcases (show c = 100 ∨ c = 115 ∨ c = 119 ∨ c = 68 ∨ c = 83 ∨ c = 87 ∨ (c ≠ 100 ∧ c ≠ 115 ∧ c ≠ 119 ∧ c ≠ 68 ∧ c ≠ 83 ∧ c ≠ 87) by omega) with rfl | rfl | rfl | rfl | rfl | rfl | ⟨n1, n2, n3, n4, n5, n6⟩
  · go_enter Tryz.func43, Tryz.ntmps43
    go_wp2_with fail
    go_at_call 79
    refine (other_low _ 100 (by decide) _).mono ?_
    rintro e w1 ⟨rfl, rfl⟩
    go_wp2_with fail
    go_ret2
    exact ⟨_, rfl, owns_new w [(48, 57)] _ (by decide), Bnew (Below.refl _ _) _⟩
  · go_enter Tryz.func43, Tryz.ntmps43
    go_wp2_with fail
    go_at_call 79
    refine (other_low _ 115 (by decide) _).mono ?_
    rintro e w1 ⟨rfl, rfl⟩
    go_wp2_with fail
    go_ret2
    exact ⟨_, rfl, owns_new w [(9, 10), (12, 13), (32, 32)] _ (by decide), Bnew (Below.refl _ _) _⟩
  · go_enter Tryz.func43, Tryz.ntmps43
    go_wp2_with fail
    go_at_call 79
    refine (other_low _ 119 (by decide) _).mono ?_
    rintro e w1 ⟨rfl, rfl⟩
    go_wp2_with fail
    go_ret2
    exact ⟨_, rfl, owns_new w [(48, 57), (65, 90), (95, 95), (97, 122)] _ (by decide), Bnew (Below.refl _ _) _⟩
  · have ho := other_up [(48, 57)] 59 68 (by decide) w (by decide) (by decide)
    go_enter Tryz.func43, Tryz.ntmps43
    go_wp2_with fail
    go_at_call 79
    refine ho.mono ?_
    clear ho
    rintro e w1 ⟨v, rfl, hown, hb⟩
    go_wp2_with fail
    go_ret2
    exact ⟨_, rfl, hown, hb⟩
  · have ho := other_up [(9, 10), (12, 13), (32, 32)] 59 83 (by decide) w (by decide) (by decide)
    go_enter Tryz.func43, Tryz.ntmps43
    go_wp2_with fail
    go_at_call 79
    refine ho.mono ?_
    clear ho
    rintro e w1 ⟨v, rfl, hown, hb⟩
    go_wp2_with fail
    go_ret2
    exact ⟨_, rfl, hown, hb⟩
  · have ho := other_up [(48, 57), (65, 90), (95, 95), (97, 122)] 59 87 (by decide) w (by decide) (by decide)
    go_enter Tryz.func43, Tryz.ntmps43
    go_wp2_with fail
    go_at_call 79
    refine ho.mono ?_
    clear ho
    rintro e w1 ⟨v, rfl, hown, hb⟩
    go_wp2_with fail
    go_ret2
    exact ⟨_, rfl, hown, hb⟩
  · have e1 : Rs.namedB c = false := by unfold Rs.namedB; simp; omega
    have e2 : Rs.namedS c = [] := (if_neg (by omega)).trans (if_neg (by omega))
    unfold NamR
    rw [e1, e2]
    clear e1 e2
    go_enter Tryz.func43, Tryz.ntmps43
    go_wp2
    go_ret2
    exact ⟨_, rfl, World.ownsRow_nil _ _ _ _, Below.refl _ _⟩
end Go.Proofs.YtkjilodmmcefbaaGreatDoor
