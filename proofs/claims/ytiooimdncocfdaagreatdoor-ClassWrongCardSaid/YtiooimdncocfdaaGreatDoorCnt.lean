/- How many members a list of ranges has: Count of package class. -/
import Derived.Test.YtiooimdncocfdaaGreatDoorBaA
namespace Go.Proofs.YtiooimdncocfdaaGreatDoor
open Go.RowKit
set_option maxRecDepth 100000 in
set_option maxHeartbeats 1000000 in
theorem count_calls (a : Option Addr) (cap : Nat) (l : Rs.S) (w : World) (hrd : RdR w a l) (hbl : ∀ b off, a = some ⟨b, off, none⟩ → b < w.heap.size) (hn : l.length < 4611686018427387904) :
    Calls Tryz.prog 25 #[.slice a l.length cap] w fun e w' => e = .returned (.int .i64 (if Rs.right l then Rs.cnt l else 0)) ∧ Below w.heap.size w w' := by
  cases hp : Rs.right l
  · go_enter Tryz.func25, Tryz.ntmps25
    go_wp2_with fail
    refine (right_calls _ _ _ _ hrd hn).mono ?_
    rintro e w1 ⟨rfl, hb⟩
    rw [hp]
    clear hp
    go_wp2
    go_ret
    exact ⟨rfl, hb⟩
  · go_enter Tryz.func25, Tryz.ntmps25
    go_wp2_with fail
    refine (right_calls _ _ _ _ hrd hn).mono ?_
    rintro e w1 ⟨rfl, hb⟩
    rw [hp]
    have HP := Lib.hid hp
    clear hp
    replace hrd := hrd.below hb hbl
    go_wp2
    go_loopw [3, 10] (fun v i wr => ∃ k : Nat, k ≤ l.length ∧ i = .int .i64 k ∧ v = .int .i64 (Rs.cnt (l.take k)) ∧ Below w.heap.size w wr ∧ Below w1.heap.size w1 wr) (fun _ i _ => l.length - (intOf i).toNat)
    case atStart => exact ⟨0, Nat.zero_le _, rfl, rfl, hb, Below.refl _ _⟩
    case round =>
      obtain ⟨k, hk, rfl, rfl, hb1, hb2⟩ := hrel
      have hbd := Rs.cnt_le (Rs.right_take HP.out k)
      by_cases hlt : k < l.length
      · obtain ⟨b, off, rfl, hbs, hc⟩ := hrd (by intro e; subst e; simp at hlt)
        obtain ⟨r, hr⟩ : ∃ r, l[k]? = some r := ⟨_, List.getElem?_eq_getElem hlt⟩
        obtain ⟨lo, hi⟩ := r
        obtain ⟨c0, c1⟩ := hc k _ hr
        rw [← hb2.cell (by exact hbs)] at c0 c1
        have ho := (Rs.okR_iff _).1 (((Rs.right_iff l).1 HP.out).1 k _ hr)
        have hst := Lib.hid (Rs.cnt_step hr)
        dsimp only at c0 c1 ho
        have o1 : lo ≤ hi := ho.1
        have o2 : 0 ≤ lo := by omega
        have o3 : hi ≤ 1114111 := by omega
        clear ho hr hc hrd
        have fin : Below w.heap.size w (wr.alloc (Obj.cells #[Value.int IntKind.i64 lo, Value.int IntKind.i64 hi] 27)) ∧ Below w1.heap.size w1 (wr.alloc (Obj.cells #[Value.int IntKind.i64 lo, Value.int IntKind.i64 hi] 27)) := ⟨hb1.alloc hb1.size _, hb2.alloc hb2.size _⟩
        have FIN := Lib.hid fin
        clear fin
        generalize hT : Rs.cnt (l.take k) = T at *
        have HT := Lib.hid hT
        clear hT
        go_wp2
        go_roundw
        case rel => exact ⟨k + 1, by omega, by go_num, by (have h := hst.out; (try dsimp only at h); exact int_eq (by omega)), FIN.out.1, FIN.out.2⟩
        case measure => simp [intOf]; omega
      · have YES : Hid (Rs.cnt (l.take k) = Rs.cnt l) := Lib.hid (by rw [List.take_of_length_le (by omega)])
        go_wp2
        go_ret
        exact ⟨by rw [← YES.out]; rfl, hb1⟩
end Go.Proofs.YtiooimdncocfdaaGreatDoor
