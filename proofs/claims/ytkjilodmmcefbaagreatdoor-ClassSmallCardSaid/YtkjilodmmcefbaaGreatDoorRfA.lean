/- Several parts in one text: ClsB, ClsC. -/
import Derived.Test.YtkjilodmmcefbaaGreatDoorBaA
/- Ranges as the reference implementation has them: point, Right, in, Count, Next, Has; and Count of package class. -/
namespace Go.Proofs.YtkjilodmmcefbaaGreatDoor
open Go.RowKit
theorem ref_point_calls (c : Int) (w : World) : Calls Tryz.prog 78 #[.int .i64 c] w fun e w' => e = .returned (.bool (Rs.pt c)) ∧ w = w' := by
  go_enter Tryz.func78, Tryz.ntmps78
  go_wp2
  all_goals go_ret
  all_goals exact ⟨ret_bool (by rw [Bool.eq_iff_iff]; simp [Rs.pt]; omega), rfl⟩
theorem ref_point_quiet (c : Int) (w : World) : Calls Tryz.prog 78 #[.int .i64 c] w fun e w' => e = .returned (.bool (Rs.pt c)) ∧ w' = w :=
  (ref_point_calls c w).mono fun _ _ h => ⟨h.1, h.2.symm⟩

set_option maxRecDepth 100000 in
set_option maxHeartbeats 1000000 in
theorem ref_in_calls (a : Option Addr) (cap : Nat) (l : Rs.S) (c : Int) (w : World) (hrd : RdR w a l) (hn : l.length < 4611686018427387904) :
    Calls Tryz.prog 94 #[.slice a l.length cap, .int .i64 c] w fun e w' => e = .returned (.bool (Rs.pt c && Rs.mem c l)) ∧ w = w' := by
  cases hp : Rs.pt c
  · go_enter Tryz.func94, Tryz.ntmps94
    go_wp2_with (go_at_call 78; refine (ref_point_calls _ _).mono ?_; rintro e w' ⟨rfl, rfl⟩)
    go_ret
    exact ⟨rfl, rfl⟩
  · go_enter Tryz.func94, Tryz.ntmps94
    go_wp2_with (go_at_call 78; refine (ref_point_calls _ _).mono ?_; rintro e w' ⟨rfl, rfl⟩)
    go_loop [5] (fun i => ∃ k : Nat, k ≤ l.length ∧ i = .int .i64 k ∧ Rs.mem c (l.take k) = false) (fun i => l.length - (intOf i).toNat)
    case atStart => exact ⟨0, Nat.zero_le _, rfl, rfl⟩
    case round =>
      obtain ⟨k, hk, rfl, hm⟩ := hrel
      by_cases hlt : k < l.length
      · obtain ⟨b, off, rfl, hbs, hc⟩ := hrd (by intro e; subst e; simp at hlt)
        obtain ⟨r, hr⟩ : ∃ r, l[k]? = some r := ⟨_, List.getElem?_eq_getElem hlt⟩
        obtain ⟨lo, hi⟩ := r
        obtain ⟨c0, c1⟩ := hc k _ hr
        have HR := Lib.hid hr
        have HM := Lib.hid hm
        clear hr hm hc hrd hp
        dsimp only at c0 c1
        by_cases hin : lo ≤ c ∧ c ≤ hi
        · obtain ⟨i1, i2⟩ := hin
          have YES : Hid (Rs.mem c l = true) := Lib.hid (Rs.mem_of_get HR.out ((Rs.inR_iff _ _).2 ⟨i1, i2⟩))
          go_wp2
          go_ret
          exact ⟨by rw [YES.out]; rfl, rfl⟩
        · have NO : Hid (Rs.mem c (l.take (k + 1)) = false) := Lib.hid (by
            rw [Rs.mem_step c HR.out, HM.out]
            cases hx : Rs.inR c (lo, hi) with
            | false => rfl
            | true => exact absurd ((Rs.inR_iff _ _).1 hx) hin)
          rcases (show c < lo ∨ hi < c from by omega) with h1 | h1
          all_goals
            clear hin
            go_wp2
            all_goals
              go_round
              case rel => exact ⟨k + 1, by omega, by go_num, NO.out⟩
              case measure => simp [intOf]; omega
      · have NO : Hid (Rs.mem c l = false) := Lib.hid (by rw [List.take_of_length_le (by omega)] at hm; exact hm)
        clear hm hp
        go_wp2
        go_ret
        exact ⟨by rw [NO.out]; rfl, rfl⟩

set_option maxRecDepth 100000 in
set_option maxHeartbeats 2000000 in
theorem ref_right_calls (a : Option Addr) (cap : Nat) (l : Rs.S) (w : World) (hrd : RdR w a l) (hn : l.length < 4611686018427387904) :
    Calls Tryz.prog 66 #[.slice a l.length cap] w fun e w' => e = .returned (.bool (Rs.right l)) ∧ ∃ n, w' = w.drewN n := by
  go_enter Tryz.func66, Tryz.ntmps66
  go_wp2
  go_loopw [3] (fun i wr => ∃ k : Nat, k ≤ l.length ∧ i = .int .i64 k ∧ Rs.right (l.take k) = true ∧ ∃ n, wr = w.drewN n) (fun i _ => l.length - (intOf i).toNat)
  case atStart => exact ⟨0, Nat.zero_le _, rfl, rfl, 0, rfl⟩
  case round =>
    obtain ⟨k, hk, rfl, hR, n, hw⟩ := hrel
    by_cases hlt : k < l.length
    · obtain ⟨b, off, rfl, hbs, hc⟩ := hrd (by intro e; subst e; simp at hlt)
      obtain ⟨r, hr⟩ : ∃ r, l[k]? = some r := ⟨_, List.getElem?_eq_getElem hlt⟩
      obtain ⟨lo, hi⟩ := r
      obtain ⟨c0, c1⟩ := hc k _ hr
      replace c0 : wr.cell? ⟨b, off + k * 2, none⟩ = some (.int .i64 lo) := by rw [hw]; exact c0
      replace c1 : wr.cell? ⟨b, off + k * 2 + 1, none⟩ = some (.int .i64 hi) := by rw [hw]; exact c1
      have HR := Lib.hid hr
      have HRR := Lib.hid hR
      have HC : Hid (∀ (i : Nat) (r : Rs.R), l[i]? = some r → wr.cell? ⟨b, off + i * 2, none⟩ = some (.int .i64 r.1) ∧ wr.cell? ⟨b, off + i * 2 + 1, none⟩ = some (.int .i64 r.2)) := Lib.hid (by rw [hw]; exact hc)
      have fin : ∀ m, ∃ n', wr.drewN m = w.drewN n' := fun m => ⟨_, by rw [hw]; exact World.drewN_drewN _ _ _⟩
      have FIN := Lib.hid fin
      clear fin hw hr hR hc hrd
      rcases (show (Rs.pt lo = false) ∨ (Rs.pt lo = true ∧ Rs.pt hi = false) ∨ (Rs.pt lo = true ∧ Rs.pt hi = true ∧ hi < lo) ∨ (Rs.pt lo = true ∧ Rs.pt hi = true ∧ lo ≤ hi ∧ lo ≤ 55295 ∧ 55295 < hi) ∨
        (Rs.pt lo = true ∧ Rs.pt hi = true ∧ lo ≤ hi ∧ lo ≤ 55295 ∧ hi ≤ 55295) ∨ (Rs.pt lo = true ∧ Rs.pt hi = true ∧ lo ≤ hi ∧ 55295 < lo) from by
          cases Rs.pt lo <;> cases Rs.pt hi <;> simp <;> omega) with h | ⟨h, h2⟩ | ⟨h, h2, h3⟩ | ⟨h, h2, h3, h4, h5⟩ | ⟨h, h2, h3, h4, h5⟩ | ⟨h, h2, h3, h4⟩
      · have NO : Hid (Rs.right l = false) := Lib.hid (Rs.right_no HR.out (Rs.okR_no _ (.inl h)))
        go_wp2_with fail
        go_big_quiet ((go_at_call 78; exact Calls.quiet_of_same (ref_point_quiet _ _)))
        go_wp2
        go_ret
        exact ⟨by rw [NO.out]; rfl, FIN.out _⟩
      · have NO : Hid (Rs.right l = false) := Lib.hid (Rs.right_no HR.out (Rs.okR_no _ (.inr (.inl h2))))
        go_wp2_with fail
        go_big_quiet ((go_at_call 78; exact Calls.quiet_of_same (ref_point_quiet _ _)))
        go_wp2
        go_ret
        exact ⟨by rw [NO.out]; rfl, FIN.out _⟩
      · have NO : Hid (Rs.right l = false) := Lib.hid (Rs.right_no HR.out (Rs.okR_no _ (.inr (.inr (.inl h3)))))
        have hd1 : decide (hi < lo) = true := by simp; omega
        go_wp2_with fail
        go_big_quiet ((go_at_call 78; exact Calls.quiet_of_same (ref_point_quiet _ _)))
        go_wp2
        go_ret
        exact ⟨by rw [NO.out]; rfl, FIN.out _⟩
      · have NO : Hid (Rs.right l = false) := Lib.hid (Rs.right_no HR.out (Rs.okR_no _ (.inr (.inr (.inr ⟨h4, h5⟩)))))
        have hd1 : decide (hi < lo) = false := by simp; omega
        have h6 : 57343 < hi := by rw [Rs.pt_iff] at h2; omega
        have h7 : lo < 55296 := by omega
        go_wp2_with fail
        go_big_quiet ((go_at_call 78; exact Calls.quiet_of_same (ref_point_quiet _ _)))
        go_wp2
        go_ret
        exact ⟨by rw [NO.out]; rfl, FIN.out _⟩
      all_goals
        have ho : Hid (Rs.okR (lo, hi) = true) := Lib.hid (Rs.okR_of _ h h2 h3 (by simp only; omega))
        have hd1 : decide (hi < lo) = false := by simp; omega
        first | (have h7 : hi ≤ 57343 := by omega) | (have h7 : 55296 ≤ lo := by omega)
        by_cases hk0 : k ≤ 0
        · have YES : Hid (Rs.right (l.take (k + 1)) = true) := Lib.hid (Rs.right_yes HRR.out HR.out ho.out (fun q hq => by omega))
          have hd : decide (0 < k) = false := by simp; omega
          go_wp2_with fail
          go_big_quiet ((go_at_call 78; exact Calls.quiet_of_same (ref_point_quiet _ _)))
          go_wp2
          all_goals
            go_big_quiet (fail)
            go_wp2
            go_roundw
            case rel => exact ⟨k + 1, by omega, by go_num, YES.out, by first | exact FIN.out _ | (rw [World.drewN_drewN]; exact FIN.out _)⟩
            case measure => simp [intOf]; omega
        · have hk1 : 1 ≤ k := by omega
          clear hk0
          obtain ⟨r', hr'⟩ : ∃ r', l[k - 1]? = some r' := ⟨_, List.getElem?_eq_getElem (by omega)⟩
          obtain ⟨plo, phi⟩ := r'
          obtain ⟨d0, d1⟩ := HC.out (k - 1) _ hr'
          have HR' := Lib.hid hr'
          dsimp only at d0 d1
          clear hr'
          have hpo := (Rs.okR_iff _).1 (Rs.right_take_ok HRR.out (by omega) HR'.out)
          dsimp only at hpo
          have hph : phi ≤ 1114111 := by omega
          have hph' : 0 ≤ phi := by omega
          clear hpo
          have hd : decide (0 < k) = true := by simp; omega
          by_cases h6 : lo ≤ phi + 1
          · have NO : Hid (Rs.right l = false) := Lib.hid (Rs.right_no2 hk1 HR'.out HR.out h6)
            go_wp2_with fail
            go_big_quiet ((go_at_call 78; exact Calls.quiet_of_same (ref_point_quiet _ _)))
            go_wp2
            all_goals
              go_big_quiet (fail)
              go_wp2
              go_ret
              exact ⟨by rw [NO.out]; rfl, by first | exact FIN.out _ | (rw [World.drewN_drewN]; exact FIN.out _)⟩
          · have YES : Hid (Rs.right (l.take (k + 1)) = true) := Lib.hid (Rs.right_yes HRR.out HR.out ho.out (fun q _ hq => by rw [HR'.out] at hq; cases hq; simp only; omega))
            have h6' : phi + 2 ≤ lo := by omega
            clear h6
            go_wp2_with fail
            go_big_quiet ((go_at_call 78; exact Calls.quiet_of_same (ref_point_quiet _ _)))
            go_wp2
            all_goals
              go_big_quiet (fail)
              go_wp2
              go_roundw
              case rel => exact ⟨k + 1, by omega, by go_num, YES.out, by first | exact FIN.out _ | (rw [World.drewN_drewN]; exact FIN.out _)⟩
              case measure => simp [intOf]; omega
    · have YES : Hid (Rs.right l = true) := Lib.hid (by rw [List.take_of_length_le (by omega)] at hR; exact hR)
      clear hR
      go_wp2
      go_ret
      exact ⟨by rw [YES.out]; rfl, n, rfl⟩
end Go.Proofs.YtkjilodmmcefbaaGreatDoor
/- How many members a list of ranges has, and the next one: the reference implementation's Count, Next, Has, and Count of package class. -/
namespace Go.Proofs.YtkjilodmmcefbaaGreatDoor
open Go.RowKit

set_option maxRecDepth 100000 in
set_option maxHeartbeats 1000000 in
theorem count_calls (a : Option Addr) (cap : Nat) (l : Rs.S) (w : World) (hrd : RdR w a l) (hbl : ∀ b off, a = some ⟨b, off, none⟩ → b < w.heap.size) (hn : l.length < 4611686018427387904) :
    Calls Tryz.prog 24 #[.slice a l.length cap] w fun e w' => e = .returned (.int .i64 (if Rs.right l then Rs.cnt l else 0)) ∧ Below w.heap.size w w' := by
  cases hp : Rs.right l
  · go_enter Tryz.func24, Tryz.ntmps24
    go_wp2_with fail
    refine (right_calls _ _ _ _ hrd hn).mono ?_
    rintro e w1 ⟨rfl, hb⟩
    rw [hp]
    clear hp
    go_wp2
    go_ret
    exact ⟨rfl, hb⟩
  · go_enter Tryz.func24, Tryz.ntmps24
    go_wp2_with fail
    refine (right_calls _ _ _ _ hrd hn).mono ?_
    rintro e w1 ⟨rfl, hb⟩
    rw [hp]
    have HP := Lib.hid hp
    clear hp
    replace hrd := hrd.below hb hbl
    go_wp2
    go_loopw [3, 10] (fun v i wr => ∃ k : Nat, k ≤ l.length ∧ i = .int .i64 k ∧ v = .int .i64 (Rs.cnt (l.take k)) ∧ Below w.heap.size w wr ∧ Below w1.heap.size w1 wr) (fun _ i _ => l.length - (intOf i).toNat)
    case atStart => exact ⟨0, Nat.zero_le _, rfl, rfl, hb, Below.refl _ _⟩
    case round =>
      obtain ⟨k, hk, rfl, rfl, hb1, hb2⟩ := hrel
      have hbd := Rs.cnt_le (Rs.right_take HP.out k)
      by_cases hlt : k < l.length
      · obtain ⟨b, off, rfl, hbs, hc⟩ := hrd (by intro e; subst e; simp at hlt)
        obtain ⟨r, hr⟩ : ∃ r, l[k]? = some r := ⟨_, List.getElem?_eq_getElem hlt⟩
        obtain ⟨lo, hi⟩ := r
        obtain ⟨c0, c1⟩ := hc k _ hr
        rw [← hb2.cell (by exact hbs)] at c0 c1
        have ho := (Rs.okR_iff _).1 (((Rs.right_iff l).1 HP.out).1 k _ hr)
        have hst := Lib.hid (Rs.cnt_step hr)
        dsimp only at c0 c1 ho
        have o1 : lo ≤ hi := ho.1
        have o2 : 0 ≤ lo := by omega
        have o3 : hi ≤ 1114111 := by omega
        clear ho hr hc hrd
        have fin : Below w.heap.size w (wr.alloc (Obj.cells #[Value.int IntKind.i64 lo, Value.int IntKind.i64 hi] 34)) ∧ Below w1.heap.size w1 (wr.alloc (Obj.cells #[Value.int IntKind.i64 lo, Value.int IntKind.i64 hi] 34)) := ⟨hb1.alloc hb1.size _, hb2.alloc hb2.size _⟩
        have FIN := Lib.hid fin
        clear fin
        generalize hT : Rs.cnt (l.take k) = T at *
        have HT := Lib.hid hT
        clear hT
        go_wp2
        go_roundw
        case rel => exact ⟨k + 1, by omega, by go_num, by (have h := hst.out; (try dsimp only at h); exact int_eq (by omega)), FIN.out.1, FIN.out.2⟩
        case measure => simp [intOf]; omega
      · have YES : Hid (Rs.cnt (l.take k) = Rs.cnt l) := Lib.hid (by rw [List.take_of_length_le (by omega)])
        go_wp2
        go_ret
        exact ⟨by rw [← YES.out]; rfl, hb1⟩

set_option maxRecDepth 100000 in
set_option maxHeartbeats 1000000 in
theorem ref_count_calls (a : Option Addr) (cap : Nat) (l : Rs.S) (w : World) (hrd : RdR w a l) (hn : l.length < 4611686018427387904) :
    Calls Tryz.prog 68 #[.slice a l.length cap] w fun e w' => e = .returned (.int .i64 (if Rs.right l then Rs.cnt l else 0)) ∧ ∃ n, w' = w.drewN n := by
  cases hp : Rs.right l
  · go_enter Tryz.func68, Tryz.ntmps68
    go_wp2_with fail
    refine (ref_right_calls _ _ _ _ hrd hn).mono ?_
    rintro e w1 ⟨rfl, n, rfl⟩
    rw [hp]
    clear hp
    go_wp2
    go_ret
    exact ⟨rfl, n, rfl⟩
  · go_enter Tryz.func68, Tryz.ntmps68
    go_wp2_with fail
    refine (ref_right_calls _ _ _ _ hrd hn).mono ?_
    rintro e w1 ⟨rfl, n, rfl⟩
    rw [hp]
    have HP := Lib.hid hp
    clear hp
    go_wp2
    go_loopw [3, 4] (fun v i wr => ∃ k : Nat, k ≤ l.length ∧ i = .int .i64 k ∧ v = .int .i64 (Rs.cnt (l.take k)) ∧ ∃ n, wr = w.drewN n) (fun _ i _ => l.length - (intOf i).toNat)
    case atStart => exact ⟨0, Nat.zero_le _, rfl, rfl, n, rfl⟩
    case round =>
      obtain ⟨k, hk, rfl, rfl, n1, hw⟩ := hrel
      have hbd := Rs.cnt_le (Rs.right_take HP.out k)
      by_cases hlt : k < l.length
      · obtain ⟨b, off, rfl, hbs, hc⟩ := hrd (by intro e; subst e; simp at hlt)
        obtain ⟨r, hr⟩ : ∃ r, l[k]? = some r := ⟨_, List.getElem?_eq_getElem hlt⟩
        obtain ⟨lo, hi⟩ := r
        obtain ⟨c0, c1⟩ := hc k _ hr
        replace c0 : wr.cell? ⟨b, off + k * 2, none⟩ = some (.int .i64 lo) := by rw [hw]; exact c0
        replace c1 : wr.cell? ⟨b, off + k * 2 + 1, none⟩ = some (.int .i64 hi) := by rw [hw]; exact c1
        have ho := (Rs.okR_iff _).1 (((Rs.right_iff l).1 HP.out).1 k _ hr)
        have hst := Lib.hid (Rs.cnt_step hr)
        dsimp only at ho
        have o1 : lo ≤ hi := ho.1
        have o2 : 0 ≤ lo := by omega
        have o3 : hi ≤ 1114111 := by omega
        have fin : ∀ m, ∃ n', wr.drewN m = w.drewN n' := fun m => ⟨_, by rw [hw]; exact World.drewN_drewN _ _ _⟩
        have FIN := Lib.hid fin
        clear fin hw ho hr hc hrd
        generalize hT : Rs.cnt (l.take k) = T at *
        have HT := Lib.hid hT
        clear hT
        have e1 : IntKind.i64.wrap (T + hi) = T + hi := IntWalk.i64_in _ (by omega)
        have e2 : IntKind.i64.wrap (T + hi + 1) = T + hi + 1 := IntWalk.i64_in _ (by omega)
        have e3 : IntKind.i64.wrap (T + hi + 1 - lo) = T + hi + 1 - lo := IntWalk.i64_in _ (by omega)
        go_wp2_with fail
        go_big_quiet (fail)
        clear e1 e2 e3
        go_wp2
        go_roundw
        case rel => exact ⟨k + 1, by omega, by go_num, by (have h := hst.out; (try dsimp only at h); exact int_eq (by omega)), FIN.out _⟩
        case measure => simp [intOf]; omega
      · have YES : Hid (Rs.cnt (l.take k) = Rs.cnt l) := Lib.hid (by rw [List.take_of_length_le (by omega)])
        have HW := Lib.hid hw
        clear hw
        go_wp2
        go_ret
        exact ⟨by rw [← YES.out]; rfl, n1, HW.out⟩

set_option maxRecDepth 100000 in
set_option maxHeartbeats 1000000 in
theorem ref_next_calls (a : Option Addr) (cap : Nat) (l : Rs.S) (c : Int) (w : World) (hrd : RdR w a l) (hn : l.length < 4611686018427387904) :
    Calls Tryz.prog 65 #[.slice a l.length cap, .int .i64 c] w fun e w' => e = .returned (.tuple #[.int .i64 (Rs.nextN l c), .bool (Rs.nextB l c)]) ∧ ∃ n, w' = w.drewN n := by
  cases hp : Rs.right l
  · have h1 : Rs.nextN l c = 0 := by simp [Rs.nextN, hp]
    have h2 : Rs.nextB l c = false := by simp [Rs.nextB, hp]
    rw [h1, h2]
    clear h1 h2
    go_enter Tryz.func65, Tryz.ntmps65
    go_wp2_with fail
    refine (ref_right_calls _ _ _ _ hrd hn).mono ?_
    rintro e w1 ⟨rfl, n, rfl⟩
    rw [hp]
    clear hp
    go_wp2
    go_ret2
    exact ⟨rfl, n, rfl⟩
  · go_enter Tryz.func65, Tryz.ntmps65
    go_wp2_with fail
    refine (ref_right_calls _ _ _ _ hrd hn).mono ?_
    rintro e w1 ⟨rfl, n, rfl⟩
    rw [hp]
    have HP := Lib.hid hp
    clear hp
    go_wp2
    go_loop [6] (fun i => ∃ k : Nat, k ≤ l.length ∧ i = .int .i64 k ∧ ∀ (i : Nat) (r : Rs.R), i < k → l[i]? = some r → r.2 < c) (fun i => l.length - (intOf i).toNat)
    case atStart => exact ⟨0, Nat.zero_le _, rfl, fun i r hi => by omega⟩
    case round =>
      obtain ⟨k, hk, rfl, hs⟩ := hrel
      have HS := Lib.hid hs
      clear hs
      by_cases hlt : k < l.length
      · obtain ⟨b, off, rfl, hbs, hc⟩ := hrd (by intro e; subst e; simp at hlt)
        obtain ⟨r, hr⟩ : ∃ r, l[k]? = some r := ⟨_, List.getElem?_eq_getElem hlt⟩
        obtain ⟨lo, hi⟩ := r
        obtain ⟨c0, c1⟩ := hc k _ hr
        have ho := (Rs.okR_iff _).1 (((Rs.right_iff l).1 HP.out).1 k _ hr)
        have HR := Lib.hid hr
        dsimp only at c0 c1 ho
        have o1 : lo ≤ hi := ho.1
        clear ho hr hc hrd
        by_cases h1 : c ≤ hi
        · have A1 : Hid (Rs.nextS l c = some (max lo c)) := Lib.hid (Rs.nextS_at HS.out HR.out h1)
          by_cases h2 : c ≤ lo
          all_goals
            go_wp2
            go_ret2
            refine ⟨?_, n, rfl⟩
            simp only [Rs.nextN, Rs.nextB, HP.out, A1.out, if_true, Option.getD_some, Option.isSome_some]
            have : max lo c = lo ∨ max lo c = c := by omega
            first | (rw [show max lo c = lo from by omega]; rfl) | (rw [show max lo c = c from by omega]; rfl)
        · have ST : Hid (∀ (i : Nat) (r : Rs.R), i < k + 1 → l[i]? = some r → r.2 < c) := Lib.hid (Rs.skip_step HS.out HR.out (by simp only; omega))
          have h2 : lo < c := by omega
          go_wp2
          go_round
          case rel => exact ⟨k + 1, by omega, by go_num, ST.out⟩
          case measure => simp [intOf]; omega
      · have A1 : Hid (Rs.nextS l c = none) := Lib.hid (Rs.nextS_none fun i r hi hr => HS.out i r (by omega) hr)
        go_wp2
        go_ret2
        refine ⟨?_, n, rfl⟩
        simp only [Rs.nextN, Rs.nextB, HP.out, A1.out, if_true, Option.getD_none, Option.isSome_none]
        rfl

theorem ref_has_calls (a : Option Addr) (cap : Nat) (l : Rs.S) (c : Int) (w : World) (hrd : RdR w a l) (hn : l.length < 4611686018427387904) :
    Calls Tryz.prog 67 #[.slice a l.length cap, .int .i64 c] w fun e w' => e = .returned (.bool (Rs.right l && (Rs.pt c && Rs.mem c l))) ∧ ∃ n, w' = w.drewN n := by
  cases hp : Rs.right l
  · go_enter Tryz.func67, Tryz.ntmps67
    go_wp2_with fail
    refine (ref_right_calls _ _ _ _ hrd hn).mono ?_
    rintro e w1 ⟨rfl, n, rfl⟩
    rw [hp]
    clear hp
    go_wp2
    go_ret
    exact ⟨rfl, n, rfl⟩
  · go_enter Tryz.func67, Tryz.ntmps67
    go_wp2_with fail
    refine (ref_right_calls _ _ _ _ hrd hn).mono ?_
    rintro e w1 ⟨rfl, n, rfl⟩
    rw [hp]
    clear hp
    go_wp2_with fail
    refine (ref_in_calls _ _ _ _ _ ?_ hn).mono ?_
    · intro hl
      obtain ⟨b, off, h1, h2, h3⟩ := hrd hl
      exact ⟨b, off, h1, h2, h3⟩
    rintro e w1 ⟨rfl, rfl⟩
    go_wp2
    go_ret
    exact ⟨rfl, n, rfl⟩
end Go.Proofs.YtkjilodmmcefbaaGreatDoor
