/- Several parts in one text: ItS, ItT, ItU. -/
import Derived.Test.YtkjilodmmcefbaaGreatDoorItR
import Derived.Test.YtkjilodmmcefbaaGreatDoorBkP
/- The reference's item behind a stroke that is no name. -/
namespace Go.Proofs.YtkjilodmmcefbaaGreatDoor
open Go.RowKit Go.Shelf
set_option maxRecDepth 100000 in
set_option maxHeartbeats 1000000 in
theorem riB0 (s : ByteArray) (w : World) (first : Bool) (g1 : 1 < s.size) (hmx : s.size ≤ 1000000000000) (h92 : (((s[0]'(Nat.lt_trans (by decide) g1)).toNat : Int) == 92) = true) (h45 : (((s[0]'(Nat.lt_trans (by decide) g1)).toNat : Int) == 45) = false) (hnam : ∀ W, Calls Tryz.prog 43 #[.int .u8 ((s[1]'g1).toNat : Int)] W fun e w' => ∃ v, e = .returned (.tuple #[v, .bool false]) ∧ Below W.heap.size W w') (hp : ∀ W, Calls Tryz.prog 97 #[.string s] W fun e w' => e = .returned (.tuple #[.int .i64 0, .int .i64 0]) ∧ Below W.heap.size W w') (h : Rs.itemL s.data.toList first = [] ∧ Rs.itemN s.data.toList first = 0) :
    Calls Tryz.prog 76 #[.string s, .bool first] w (ItmR w s.data.toList first) := by
  have HE := Lib.hid h
  clear h
  go_enter Tryz.func76, Tryz.ntmps76
  go_wp2_with (first | (go_at_call 43; refine (hnam _).mono ?_; rintro e w1 ⟨v, rfl, hb1⟩) | (go_at_call 97; refine (hp _).mono ?_; clear hp; rintro e w2 ⟨rfl, hb2⟩) | (go_at_call 97; refine (hp2 _).mono ?_; clear hp2; rintro e w3 ⟨rfl, hb3⟩))
  all_goals
    go_ret2
    exact ItmR.no HE.out (Bthen hb1 hb2)
set_option maxRecDepth 100000 in
set_option maxHeartbeats 1000000 in
theorem riB1 (s : ByteArray) (w : World) (first : Bool) (g1 : 1 < s.size) (hmx : s.size ≤ 1000000000000) (h92 : (((s[0]'(Nat.lt_trans (by decide) g1)).toNat : Int) == 92) = true) (h45 : (((s[0]'(Nat.lt_trans (by decide) g1)).toNat : Int) == 45) = false) (hnam : ∀ W, Calls Tryz.prog 43 #[.int .u8 ((s[1]'g1).toNat : Int)] W fun e w' => ∃ v, e = .returned (.tuple #[v, .bool false]) ∧ Below W.heap.size W w') (a : Int) (n : Nat) (hns : n < 1000000000001) (hn0 : 0 < n) (hn : n = s.size) (hp : ∀ W, Calls Tryz.prog 97 #[.string s] W fun e w' => e = .returned (.tuple #[.int .i64 a, .int .i64 (n : Int)]) ∧ Below W.heap.size W w') (h : Rs.itemL s.data.toList first = [(a, a)] ∧ Rs.itemN s.data.toList first = n) :
    Calls Tryz.prog 76 #[.string s, .bool first] w (ItmR w s.data.toList first) := by
  have HE := Lib.hid h
  clear h
  have hnz : ((n : Int) == 0) = false := beq_eq_false_iff_ne.2 (by omega)
  have hw1 : IntKind.i64.wrap ((n : Int) + 1) = (n : Int) + 1 := by rw [IntKind.wrap_i64]; omega
  have hw2 : 0 ≤ (n : Int) + 1 := by omega
  have hw3 : ((n : Int) + 1).toNat = n + 1 := by omega
  subst hn
  go_enter Tryz.func76, Tryz.ntmps76
  go_wp2_with (first | (go_at_call 43; refine (hnam _).mono ?_; rintro e w1 ⟨v, rfl, hb1⟩) | (go_at_call 97; refine (hp _).mono ?_; clear hp; rintro e w2 ⟨rfl, hb2⟩) | (go_at_call 97; refine (hp2 _).mono ?_; clear hp2; rintro e w3 ⟨rfl, hb3⟩))
  all_goals
    go_ret2
    exact ItmR.one HE.out (Bthen hb1 hb2)
set_option maxRecDepth 100000 in
set_option maxHeartbeats 1000000 in
theorem riB2 (s : ByteArray) (w : World) (first : Bool) (g1 : 1 < s.size) (hmx : s.size ≤ 1000000000000) (h92 : (((s[0]'(Nat.lt_trans (by decide) g1)).toNat : Int) == 92) = true) (h45 : (((s[0]'(Nat.lt_trans (by decide) g1)).toNat : Int) == 45) = false) (hnam : ∀ W, Calls Tryz.prog 43 #[.int .u8 ((s[1]'g1).toNat : Int)] W fun e w' => ∃ v, e = .returned (.tuple #[v, .bool false]) ∧ Below W.heap.size W w') (a : Int) (n : Nat) (hns : n < 1000000000001) (hn0 : 0 < n) (hn : n < s.size) (hq : ((((s[n]'hn).toNat : Int)) == 45) = false) (hq' : ((((s[n]'hn).toNat : Int)) != 45) = true) (hp : ∀ W, Calls Tryz.prog 97 #[.string s] W fun e w' => e = .returned (.tuple #[.int .i64 a, .int .i64 (n : Int)]) ∧ Below W.heap.size W w') (h : Rs.itemL s.data.toList first = [(a, a)] ∧ Rs.itemN s.data.toList first = n) :
    Calls Tryz.prog 76 #[.string s, .bool first] w (ItmR w s.data.toList first) := by
  have HE := Lib.hid h
  clear h
  have hnz : ((n : Int) == 0) = false := beq_eq_false_iff_ne.2 (by omega)
  have hw1 : IntKind.i64.wrap ((n : Int) + 1) = (n : Int) + 1 := by rw [IntKind.wrap_i64]; omega
  have hw2 : 0 ≤ (n : Int) + 1 := by omega
  have hw3 : ((n : Int) + 1).toNat = n + 1 := by omega
  go_enter Tryz.func76, Tryz.ntmps76
  go_wp2_with (first | (go_at_call 43; refine (hnam _).mono ?_; rintro e w1 ⟨v, rfl, hb1⟩) | (go_at_call 97; refine (hp _).mono ?_; clear hp; rintro e w2 ⟨rfl, hb2⟩) | (go_at_call 97; refine (hp2 _).mono ?_; clear hp2; rintro e w3 ⟨rfl, hb3⟩))
  all_goals
    go_ret2
    exact ItmR.one HE.out (Bthen hb1 hb2)
set_option maxRecDepth 100000 in
set_option maxHeartbeats 1000000 in
theorem riB3 (s : ByteArray) (w : World) (first : Bool) (g1 : 1 < s.size) (hmx : s.size ≤ 1000000000000) (h92 : (((s[0]'(Nat.lt_trans (by decide) g1)).toNat : Int) == 92) = true) (h45 : (((s[0]'(Nat.lt_trans (by decide) g1)).toNat : Int) == 45) = false) (hnam : ∀ W, Calls Tryz.prog 43 #[.int .u8 ((s[1]'g1).toNat : Int)] W fun e w' => ∃ v, e = .returned (.tuple #[v, .bool false]) ∧ Below W.heap.size W w') (a : Int) (n : Nat) (hns : n < 1000000000001) (hn0 : 0 < n) (hn : n + 1 < s.size) (hq : ((((s[n]'(Nat.lt_of_succ_lt hn)).toNat : Int)) == 45) = true) (hr : ((((s[n + 1]'hn).toNat : Int)) == 93) = true) (hp : ∀ W, Calls Tryz.prog 97 #[.string s] W fun e w' => e = .returned (.tuple #[.int .i64 a, .int .i64 (n : Int)]) ∧ Below W.heap.size W w') (h : Rs.itemL s.data.toList first = [(a, a)] ∧ Rs.itemN s.data.toList first = n) :
    Calls Tryz.prog 76 #[.string s, .bool first] w (ItmR w s.data.toList first) := by
  have HE := Lib.hid h
  clear h
  have hnz : ((n : Int) == 0) = false := beq_eq_false_iff_ne.2 (by omega)
  have hw1 : IntKind.i64.wrap ((n : Int) + 1) = (n : Int) + 1 := by rw [IntKind.wrap_i64]; omega
  have hw2 : 0 ≤ (n : Int) + 1 := by omega
  have hw3 : ((n : Int) + 1).toNat = n + 1 := by omega
  go_enter Tryz.func76, Tryz.ntmps76
  go_wp2_with (first | (go_at_call 43; refine (hnam _).mono ?_; rintro e w1 ⟨v, rfl, hb1⟩) | (go_at_call 97; refine (hp _).mono ?_; clear hp; rintro e w2 ⟨rfl, hb2⟩) | (go_at_call 97; refine (hp2 _).mono ?_; clear hp2; rintro e w3 ⟨rfl, hb3⟩))
  all_goals
    go_ret2
    exact ItmR.one HE.out (Bthen hb1 hb2)
set_option maxRecDepth 100000 in
set_option maxHeartbeats 1000000 in
theorem riB4 (s : ByteArray) (w : World) (first : Bool) (g1 : 1 < s.size) (hmx : s.size ≤ 1000000000000) (h92 : (((s[0]'(Nat.lt_trans (by decide) g1)).toNat : Int) == 92) = true) (h45 : (((s[0]'(Nat.lt_trans (by decide) g1)).toNat : Int) == 45) = false) (hnam : ∀ W, Calls Tryz.prog 43 #[.int .u8 ((s[1]'g1).toNat : Int)] W fun e w' => ∃ v, e = .returned (.tuple #[v, .bool false]) ∧ Below W.heap.size W w') (a : Int) (n : Nat) (_hns : n < 1000000000001) (_hn0 : 0 < n) (hn : n < s.size) (_hq : ((((s[n]'hn).toNat : Int)) == 45) = true) (hq' : ((((s[n]'hn).toNat : Int)) != 45) = false) (hr : n + 1 = s.size) (hp : ∀ W, Calls Tryz.prog 97 #[.string s] W fun e w' => e = .returned (.tuple #[.int .i64 a, .int .i64 (n : Int)]) ∧ Below W.heap.size W w') (hp2 : ∀ W, Calls Tryz.prog 97 #[.string (s.extract (n + 1) s.size)] W fun e w' => e = .returned (.tuple #[.int .i64 0, .int .i64 0]) ∧ Below W.heap.size W w') (h : Rs.itemL s.data.toList first = [] ∧ Rs.itemN s.data.toList first = 0) :
    Calls Tryz.prog 76 #[.string s, .bool first] w (ItmR w s.data.toList first) := by
  have HE := Lib.hid h
  clear h
  have hnz : ((n : Int) == 0) = false := beq_eq_false_iff_ne.2 (by omega)
  have hw1 : IntKind.i64.wrap ((n : Int) + 1) = (n : Int) + 1 := by rw [IntKind.wrap_i64]; omega
  have hw2 : 0 ≤ (n : Int) + 1 := by omega
  have hw3 : ((n : Int) + 1).toNat = n + 1 := by omega
  have hr0 : (s.size : Int) ≤ (n : Int) + 1 := by omega
  have hr1 : decide ((n : Int) + 1 < (s.size : Int)) = false := decide_eq_false (by omega)
  clear hr
  generalize hX : s.extract (n + 1) s.size = X at *
  go_enter Tryz.func76, Tryz.ntmps76
  go_wp2_with (first | (go_at_call 43; refine (hnam _).mono ?_; rintro e w1 ⟨v, rfl, hb1⟩) | (go_at_call 97; refine (hp _).mono ?_; clear hp; rintro e w2 ⟨rfl, hb2⟩) | (go_at_call 97; refine (hp2 _).mono ?_; clear hp2; rintro e w3 ⟨rfl, hb3⟩))
  all_goals
    go_ret2
    exact ItmR.no HE.out (Bthen (Bthen hb1 hb2) hb3)
set_option maxRecDepth 100000 in
set_option maxHeartbeats 1000000 in
theorem riB5 (s : ByteArray) (w : World) (first : Bool) (g1 : 1 < s.size) (hmx : s.size ≤ 1000000000000) (h92 : (((s[0]'(Nat.lt_trans (by decide) g1)).toNat : Int) == 92) = true) (h45 : (((s[0]'(Nat.lt_trans (by decide) g1)).toNat : Int) == 45) = false) (hnam : ∀ W, Calls Tryz.prog 43 #[.int .u8 ((s[1]'g1).toNat : Int)] W fun e w' => ∃ v, e = .returned (.tuple #[v, .bool false]) ∧ Below W.heap.size W w') (a : Int) (n : Nat) (hns : n < 1000000000001) (hn0 : 0 < n) (hn : n < s.size) (hq : ((((s[n]'hn).toNat : Int)) == 45) = true) (hq' : ((((s[n]'hn).toNat : Int)) != 45) = false) (hr : n + 1 < s.size) (hr' : ((((s[n + 1]'hr).toNat : Int)) == 93) = false) (hp : ∀ W, Calls Tryz.prog 97 #[.string s] W fun e w' => e = .returned (.tuple #[.int .i64 a, .int .i64 (n : Int)]) ∧ Below W.heap.size W w') (hp2 : ∀ W, Calls Tryz.prog 97 #[.string (s.extract (n + 1) s.size)] W fun e w' => e = .returned (.tuple #[.int .i64 0, .int .i64 0]) ∧ Below W.heap.size W w') (h : Rs.itemL s.data.toList first = [] ∧ Rs.itemN s.data.toList first = 0) :
    Calls Tryz.prog 76 #[.string s, .bool first] w (ItmR w s.data.toList first) := by
  have HE := Lib.hid h
  clear h
  have hnz : ((n : Int) == 0) = false := beq_eq_false_iff_ne.2 (by omega)
  have hw1 : IntKind.i64.wrap ((n : Int) + 1) = (n : Int) + 1 := by rw [IntKind.wrap_i64]; omega
  have hw2 : 0 ≤ (n : Int) + 1 := by omega
  have hw3 : ((n : Int) + 1).toNat = n + 1 := by omega
  generalize hX : s.extract (n + 1) s.size = X at *
  go_enter Tryz.func76, Tryz.ntmps76
  go_wp2_with (first | (go_at_call 43; refine (hnam _).mono ?_; rintro e w1 ⟨v, rfl, hb1⟩) | (go_at_call 97; refine (hp _).mono ?_; clear hp; rintro e w2 ⟨rfl, hb2⟩) | (go_at_call 97; refine (hp2 _).mono ?_; clear hp2; rintro e w3 ⟨rfl, hb3⟩))
  all_goals
    go_ret2
    exact ItmR.no HE.out (Bthen (Bthen hb1 hb2) hb3)
set_option maxRecDepth 100000 in
set_option maxHeartbeats 1000000 in
theorem riB6 (s : ByteArray) (w : World) (first : Bool) (g1 : 1 < s.size) (hmx : s.size ≤ 1000000000000) (h92 : (((s[0]'(Nat.lt_trans (by decide) g1)).toNat : Int) == 92) = true) (h45 : (((s[0]'(Nat.lt_trans (by decide) g1)).toNat : Int) == 45) = false) (hnam : ∀ W, Calls Tryz.prog 43 #[.int .u8 ((s[1]'g1).toNat : Int)] W fun e w' => ∃ v, e = .returned (.tuple #[v, .bool false]) ∧ Below W.heap.size W w') (a b : Int) (n m : Nat) (hns : n < 1000000000001) (hn0 : 0 < n) (hms : m < 1000000000001) (hm0 : 0 < m) (hba : b < a) (hn : n < s.size) (hq : ((((s[n]'hn).toNat : Int)) == 45) = true) (hq' : ((((s[n]'hn).toNat : Int)) != 45) = false) (hr : n + 1 < s.size) (hr' : ((((s[n + 1]'hr).toNat : Int)) == 93) = false) (hp : ∀ W, Calls Tryz.prog 97 #[.string s] W fun e w' => e = .returned (.tuple #[.int .i64 a, .int .i64 (n : Int)]) ∧ Below W.heap.size W w') (hp2 : ∀ W, Calls Tryz.prog 97 #[.string (s.extract (n + 1) s.size)] W fun e w' => e = .returned (.tuple #[.int .i64 b, .int .i64 (m : Int)]) ∧ Below W.heap.size W w') (h : Rs.itemL s.data.toList first = [] ∧ Rs.itemN s.data.toList first = 0) :
    Calls Tryz.prog 76 #[.string s, .bool first] w (ItmR w s.data.toList first) := by
  have HE := Lib.hid h
  clear h
  have hnz : ((n : Int) == 0) = false := beq_eq_false_iff_ne.2 (by omega)
  have hw1 : IntKind.i64.wrap ((n : Int) + 1) = (n : Int) + 1 := by rw [IntKind.wrap_i64]; omega
  have hw2 : 0 ≤ (n : Int) + 1 := by omega
  have hw3 : ((n : Int) + 1).toNat = n + 1 := by omega
  generalize hX : s.extract (n + 1) s.size = X at *
  have hmz : ((m : Int) == 0) = false := beq_eq_false_iff_ne.2 (by omega)
  have hw4 : IntKind.i64.wrap ((n : Int) + 1 + m) = (n : Int) + 1 + m := by rw [IntKind.wrap_i64]; omega
  go_enter Tryz.func76, Tryz.ntmps76
  go_wp2_with (first | (go_at_call 43; refine (hnam _).mono ?_; rintro e w1 ⟨v, rfl, hb1⟩) | (go_at_call 97; refine (hp _).mono ?_; clear hp; rintro e w2 ⟨rfl, hb2⟩) | (go_at_call 97; refine (hp2 _).mono ?_; clear hp2; rintro e w3 ⟨rfl, hb3⟩))
  all_goals
    go_ret2
    exact ItmR.no HE.out (Bthen (Bthen hb1 hb2) hb3)
set_option maxRecDepth 100000 in
set_option maxHeartbeats 1000000 in
theorem riB7 (s : ByteArray) (w : World) (first : Bool) (g1 : 1 < s.size) (hmx : s.size ≤ 1000000000000) (h92 : (((s[0]'(Nat.lt_trans (by decide) g1)).toNat : Int) == 92) = true) (h45 : (((s[0]'(Nat.lt_trans (by decide) g1)).toNat : Int) == 45) = false) (hnam : ∀ W, Calls Tryz.prog 43 #[.int .u8 ((s[1]'g1).toNat : Int)] W fun e w' => ∃ v, e = .returned (.tuple #[v, .bool false]) ∧ Below W.heap.size W w') (a b : Int) (n m : Nat) (hns : n < 1000000000001) (hn0 : 0 < n) (hms : m < 1000000000001) (hm0 : 0 < m) (hba : ¬ b < a) (hn : n < s.size) (hq : ((((s[n]'hn).toNat : Int)) == 45) = true) (hq' : ((((s[n]'hn).toNat : Int)) != 45) = false) (hr : n + 1 < s.size) (hr' : ((((s[n + 1]'hr).toNat : Int)) == 93) = false) (hp : ∀ W, Calls Tryz.prog 97 #[.string s] W fun e w' => e = .returned (.tuple #[.int .i64 a, .int .i64 (n : Int)]) ∧ Below W.heap.size W w') (hp2 : ∀ W, Calls Tryz.prog 97 #[.string (s.extract (n + 1) s.size)] W fun e w' => e = .returned (.tuple #[.int .i64 b, .int .i64 (m : Int)]) ∧ Below W.heap.size W w') (h : Rs.itemL s.data.toList first = [(a, b)] ∧ Rs.itemN s.data.toList first = n + 1 + m) :
    Calls Tryz.prog 76 #[.string s, .bool first] w (ItmR w s.data.toList first) := by
  have HE := Lib.hid h
  clear h
  have hnz : ((n : Int) == 0) = false := beq_eq_false_iff_ne.2 (by omega)
  have hw1 : IntKind.i64.wrap ((n : Int) + 1) = (n : Int) + 1 := by rw [IntKind.wrap_i64]; omega
  have hw2 : 0 ≤ (n : Int) + 1 := by omega
  have hw3 : ((n : Int) + 1).toNat = n + 1 := by omega
  generalize hX : s.extract (n + 1) s.size = X at *
  have hmz : ((m : Int) == 0) = false := beq_eq_false_iff_ne.2 (by omega)
  have hw4 : IntKind.i64.wrap ((n : Int) + 1 + m) = (n : Int) + 1 + m := by rw [IntKind.wrap_i64]; omega
  have hle : a ≤ b := by omega
  have hlt : decide (b < a) = false := decide_eq_false hba
  go_enter Tryz.func76, Tryz.ntmps76
  go_wp2_with (first | (go_at_call 43; refine (hnam _).mono ?_; rintro e w1 ⟨v, rfl, hb1⟩) | (go_at_call 97; refine (hp _).mono ?_; clear hp; rintro e w2 ⟨rfl, hb2⟩) | (go_at_call 97; refine (hp2 _).mono ?_; clear hp2; rintro e w3 ⟨rfl, hb3⟩))
  all_goals
    go_ret2
    exact ItmR.two HE.out (Bthen (Bthen hb1 hb2) hb3)
end Go.Proofs.YtkjilodmmcefbaaGreatDoor
/- The reference's item behind any other byte. -/
namespace Go.Proofs.YtkjilodmmcefbaaGreatDoor
open Go.RowKit Go.Shelf
set_option maxRecDepth 100000 in
set_option maxHeartbeats 1000000 in
theorem riC0 (s : ByteArray) (w : World) (first : Bool) (g1 : 1 < s.size) (hmx : s.size ≤ 1000000000000) (h92 : (((s[0]'(Nat.lt_trans (by decide) g1)).toNat : Int) == 92) = false) (h45 : (((s[0]'(Nat.lt_trans (by decide) g1)).toNat : Int) == 45) = false) (hp : ∀ W, Calls Tryz.prog 97 #[.string s] W fun e w' => e = .returned (.tuple #[.int .i64 0, .int .i64 0]) ∧ Below W.heap.size W w') (h : Rs.itemL s.data.toList first = [] ∧ Rs.itemN s.data.toList first = 0) :
    Calls Tryz.prog 76 #[.string s, .bool first] w (ItmR w s.data.toList first) := by
  have HE := Lib.hid h
  clear h
  go_enter Tryz.func76, Tryz.ntmps76
  go_wp2_with (first | (go_at_call 97; refine (hp _).mono ?_; clear hp; rintro e w2 ⟨rfl, hb2⟩) | (go_at_call 97; refine (hp2 _).mono ?_; clear hp2; rintro e w3 ⟨rfl, hb3⟩))
  all_goals
    go_ret2
    exact ItmR.no HE.out hb2
set_option maxRecDepth 100000 in
set_option maxHeartbeats 1000000 in
theorem riC1 (s : ByteArray) (w : World) (first : Bool) (g1 : 1 < s.size) (hmx : s.size ≤ 1000000000000) (h92 : (((s[0]'(Nat.lt_trans (by decide) g1)).toNat : Int) == 92) = false) (h45 : (((s[0]'(Nat.lt_trans (by decide) g1)).toNat : Int) == 45) = false) (a : Int) (n : Nat) (hns : n < 1000000000001) (hn0 : 0 < n) (hn : n = s.size) (hp : ∀ W, Calls Tryz.prog 97 #[.string s] W fun e w' => e = .returned (.tuple #[.int .i64 a, .int .i64 (n : Int)]) ∧ Below W.heap.size W w') (h : Rs.itemL s.data.toList first = [(a, a)] ∧ Rs.itemN s.data.toList first = n) :
    Calls Tryz.prog 76 #[.string s, .bool first] w (ItmR w s.data.toList first) := by
  have HE := Lib.hid h
  clear h
  have hnz : ((n : Int) == 0) = false := beq_eq_false_iff_ne.2 (by omega)
  have hw1 : IntKind.i64.wrap ((n : Int) + 1) = (n : Int) + 1 := by rw [IntKind.wrap_i64]; omega
  have hw2 : 0 ≤ (n : Int) + 1 := by omega
  have hw3 : ((n : Int) + 1).toNat = n + 1 := by omega
  subst hn
  go_enter Tryz.func76, Tryz.ntmps76
  go_wp2_with (first | (go_at_call 97; refine (hp _).mono ?_; clear hp; rintro e w2 ⟨rfl, hb2⟩) | (go_at_call 97; refine (hp2 _).mono ?_; clear hp2; rintro e w3 ⟨rfl, hb3⟩))
  all_goals
    go_ret2
    exact ItmR.one HE.out hb2
set_option maxRecDepth 100000 in
set_option maxHeartbeats 1000000 in
theorem riC2 (s : ByteArray) (w : World) (first : Bool) (g1 : 1 < s.size) (hmx : s.size ≤ 1000000000000) (h92 : (((s[0]'(Nat.lt_trans (by decide) g1)).toNat : Int) == 92) = false) (h45 : (((s[0]'(Nat.lt_trans (by decide) g1)).toNat : Int) == 45) = false) (a : Int) (n : Nat) (hns : n < 1000000000001) (hn0 : 0 < n) (hn : n < s.size) (hq : ((((s[n]'hn).toNat : Int)) == 45) = false) (hq' : ((((s[n]'hn).toNat : Int)) != 45) = true) (hp : ∀ W, Calls Tryz.prog 97 #[.string s] W fun e w' => e = .returned (.tuple #[.int .i64 a, .int .i64 (n : Int)]) ∧ Below W.heap.size W w') (h : Rs.itemL s.data.toList first = [(a, a)] ∧ Rs.itemN s.data.toList first = n) :
    Calls Tryz.prog 76 #[.string s, .bool first] w (ItmR w s.data.toList first) := by
  have HE := Lib.hid h
  clear h
  have hnz : ((n : Int) == 0) = false := beq_eq_false_iff_ne.2 (by omega)
  have hw1 : IntKind.i64.wrap ((n : Int) + 1) = (n : Int) + 1 := by rw [IntKind.wrap_i64]; omega
  have hw2 : 0 ≤ (n : Int) + 1 := by omega
  have hw3 : ((n : Int) + 1).toNat = n + 1 := by omega
  go_enter Tryz.func76, Tryz.ntmps76
  go_wp2_with (first | (go_at_call 97; refine (hp _).mono ?_; clear hp; rintro e w2 ⟨rfl, hb2⟩) | (go_at_call 97; refine (hp2 _).mono ?_; clear hp2; rintro e w3 ⟨rfl, hb3⟩))
  all_goals
    go_ret2
    exact ItmR.one HE.out hb2
set_option maxRecDepth 100000 in
set_option maxHeartbeats 1000000 in
theorem riC3 (s : ByteArray) (w : World) (first : Bool) (g1 : 1 < s.size) (hmx : s.size ≤ 1000000000000) (h92 : (((s[0]'(Nat.lt_trans (by decide) g1)).toNat : Int) == 92) = false) (h45 : (((s[0]'(Nat.lt_trans (by decide) g1)).toNat : Int) == 45) = false) (a : Int) (n : Nat) (hns : n < 1000000000001) (hn0 : 0 < n) (hn : n + 1 < s.size) (hq : ((((s[n]'(Nat.lt_of_succ_lt hn)).toNat : Int)) == 45) = true) (hr : ((((s[n + 1]'hn).toNat : Int)) == 93) = true) (hp : ∀ W, Calls Tryz.prog 97 #[.string s] W fun e w' => e = .returned (.tuple #[.int .i64 a, .int .i64 (n : Int)]) ∧ Below W.heap.size W w') (h : Rs.itemL s.data.toList first = [(a, a)] ∧ Rs.itemN s.data.toList first = n) :
    Calls Tryz.prog 76 #[.string s, .bool first] w (ItmR w s.data.toList first) := by
  have HE := Lib.hid h
  clear h
  have hnz : ((n : Int) == 0) = false := beq_eq_false_iff_ne.2 (by omega)
  have hw1 : IntKind.i64.wrap ((n : Int) + 1) = (n : Int) + 1 := by rw [IntKind.wrap_i64]; omega
  have hw2 : 0 ≤ (n : Int) + 1 := by omega
  have hw3 : ((n : Int) + 1).toNat = n + 1 := by omega
  go_enter Tryz.func76, Tryz.ntmps76
  go_wp2_with (first | (go_at_call 97; refine (hp _).mono ?_; clear hp; rintro e w2 ⟨rfl, hb2⟩) | (go_at_call 97; refine (hp2 _).mono ?_; clear hp2; rintro e w3 ⟨rfl, hb3⟩))
  all_goals
    go_ret2
    exact ItmR.one HE.out hb2
set_option maxRecDepth 100000 in
set_option maxHeartbeats 1000000 in
theorem riC4 (s : ByteArray) (w : World) (first : Bool) (g1 : 1 < s.size) (hmx : s.size ≤ 1000000000000) (h92 : (((s[0]'(Nat.lt_trans (by decide) g1)).toNat : Int) == 92) = false) (h45 : (((s[0]'(Nat.lt_trans (by decide) g1)).toNat : Int) == 45) = false) (a : Int) (n : Nat) (_hns : n < 1000000000001) (_hn0 : 0 < n) (hn : n < s.size) (_hq : ((((s[n]'hn).toNat : Int)) == 45) = true) (hq' : ((((s[n]'hn).toNat : Int)) != 45) = false) (hr : n + 1 = s.size) (hp : ∀ W, Calls Tryz.prog 97 #[.string s] W fun e w' => e = .returned (.tuple #[.int .i64 a, .int .i64 (n : Int)]) ∧ Below W.heap.size W w') (hp2 : ∀ W, Calls Tryz.prog 97 #[.string (s.extract (n + 1) s.size)] W fun e w' => e = .returned (.tuple #[.int .i64 0, .int .i64 0]) ∧ Below W.heap.size W w') (h : Rs.itemL s.data.toList first = [] ∧ Rs.itemN s.data.toList first = 0) :
    Calls Tryz.prog 76 #[.string s, .bool first] w (ItmR w s.data.toList first) := by
  have HE := Lib.hid h
  clear h
  have hnz : ((n : Int) == 0) = false := beq_eq_false_iff_ne.2 (by omega)
  have hw1 : IntKind.i64.wrap ((n : Int) + 1) = (n : Int) + 1 := by rw [IntKind.wrap_i64]; omega
  have hw2 : 0 ≤ (n : Int) + 1 := by omega
  have hw3 : ((n : Int) + 1).toNat = n + 1 := by omega
  have hr0 : (s.size : Int) ≤ (n : Int) + 1 := by omega
  have hr1 : decide ((n : Int) + 1 < (s.size : Int)) = false := decide_eq_false (by omega)
  clear hr
  generalize hX : s.extract (n + 1) s.size = X at *
  go_enter Tryz.func76, Tryz.ntmps76
  go_wp2_with (first | (go_at_call 97; refine (hp _).mono ?_; clear hp; rintro e w2 ⟨rfl, hb2⟩) | (go_at_call 97; refine (hp2 _).mono ?_; clear hp2; rintro e w3 ⟨rfl, hb3⟩))
  all_goals
    go_ret2
    exact ItmR.no HE.out (Bthen hb2 hb3)
set_option maxRecDepth 100000 in
set_option maxHeartbeats 1000000 in
theorem riC5 (s : ByteArray) (w : World) (first : Bool) (g1 : 1 < s.size) (hmx : s.size ≤ 1000000000000) (h92 : (((s[0]'(Nat.lt_trans (by decide) g1)).toNat : Int) == 92) = false) (h45 : (((s[0]'(Nat.lt_trans (by decide) g1)).toNat : Int) == 45) = false) (a : Int) (n : Nat) (hns : n < 1000000000001) (hn0 : 0 < n) (hn : n < s.size) (hq : ((((s[n]'hn).toNat : Int)) == 45) = true) (hq' : ((((s[n]'hn).toNat : Int)) != 45) = false) (hr : n + 1 < s.size) (hr' : ((((s[n + 1]'hr).toNat : Int)) == 93) = false) (hp : ∀ W, Calls Tryz.prog 97 #[.string s] W fun e w' => e = .returned (.tuple #[.int .i64 a, .int .i64 (n : Int)]) ∧ Below W.heap.size W w') (hp2 : ∀ W, Calls Tryz.prog 97 #[.string (s.extract (n + 1) s.size)] W fun e w' => e = .returned (.tuple #[.int .i64 0, .int .i64 0]) ∧ Below W.heap.size W w') (h : Rs.itemL s.data.toList first = [] ∧ Rs.itemN s.data.toList first = 0) :
    Calls Tryz.prog 76 #[.string s, .bool first] w (ItmR w s.data.toList first) := by
  have HE := Lib.hid h
  clear h
  have hnz : ((n : Int) == 0) = false := beq_eq_false_iff_ne.2 (by omega)
  have hw1 : IntKind.i64.wrap ((n : Int) + 1) = (n : Int) + 1 := by rw [IntKind.wrap_i64]; omega
  have hw2 : 0 ≤ (n : Int) + 1 := by omega
  have hw3 : ((n : Int) + 1).toNat = n + 1 := by omega
  generalize hX : s.extract (n + 1) s.size = X at *
  go_enter Tryz.func76, Tryz.ntmps76
  go_wp2_with (first | (go_at_call 97; refine (hp _).mono ?_; clear hp; rintro e w2 ⟨rfl, hb2⟩) | (go_at_call 97; refine (hp2 _).mono ?_; clear hp2; rintro e w3 ⟨rfl, hb3⟩))
  all_goals
    go_ret2
    exact ItmR.no HE.out (Bthen hb2 hb3)
set_option maxRecDepth 100000 in
set_option maxHeartbeats 1000000 in
theorem riC6 (s : ByteArray) (w : World) (first : Bool) (g1 : 1 < s.size) (hmx : s.size ≤ 1000000000000) (h92 : (((s[0]'(Nat.lt_trans (by decide) g1)).toNat : Int) == 92) = false) (h45 : (((s[0]'(Nat.lt_trans (by decide) g1)).toNat : Int) == 45) = false) (a b : Int) (n m : Nat) (hns : n < 1000000000001) (hn0 : 0 < n) (hms : m < 1000000000001) (hm0 : 0 < m) (hba : b < a) (hn : n < s.size) (hq : ((((s[n]'hn).toNat : Int)) == 45) = true) (hq' : ((((s[n]'hn).toNat : Int)) != 45) = false) (hr : n + 1 < s.size) (hr' : ((((s[n + 1]'hr).toNat : Int)) == 93) = false) (hp : ∀ W, Calls Tryz.prog 97 #[.string s] W fun e w' => e = .returned (.tuple #[.int .i64 a, .int .i64 (n : Int)]) ∧ Below W.heap.size W w') (hp2 : ∀ W, Calls Tryz.prog 97 #[.string (s.extract (n + 1) s.size)] W fun e w' => e = .returned (.tuple #[.int .i64 b, .int .i64 (m : Int)]) ∧ Below W.heap.size W w') (h : Rs.itemL s.data.toList first = [] ∧ Rs.itemN s.data.toList first = 0) :
    Calls Tryz.prog 76 #[.string s, .bool first] w (ItmR w s.data.toList first) := by
  have HE := Lib.hid h
  clear h
  have hnz : ((n : Int) == 0) = false := beq_eq_false_iff_ne.2 (by omega)
  have hw1 : IntKind.i64.wrap ((n : Int) + 1) = (n : Int) + 1 := by rw [IntKind.wrap_i64]; omega
  have hw2 : 0 ≤ (n : Int) + 1 := by omega
  have hw3 : ((n : Int) + 1).toNat = n + 1 := by omega
  generalize hX : s.extract (n + 1) s.size = X at *
  have hmz : ((m : Int) == 0) = false := beq_eq_false_iff_ne.2 (by omega)
  have hw4 : IntKind.i64.wrap ((n : Int) + 1 + m) = (n : Int) + 1 + m := by rw [IntKind.wrap_i64]; omega
  go_enter Tryz.func76, Tryz.ntmps76
  go_wp2_with (first | (go_at_call 97; refine (hp _).mono ?_; clear hp; rintro e w2 ⟨rfl, hb2⟩) | (go_at_call 97; refine (hp2 _).mono ?_; clear hp2; rintro e w3 ⟨rfl, hb3⟩))
  all_goals
    go_ret2
    exact ItmR.no HE.out (Bthen hb2 hb3)
set_option maxRecDepth 100000 in
set_option maxHeartbeats 1000000 in
theorem riC7 (s : ByteArray) (w : World) (first : Bool) (g1 : 1 < s.size) (hmx : s.size ≤ 1000000000000) (h92 : (((s[0]'(Nat.lt_trans (by decide) g1)).toNat : Int) == 92) = false) (h45 : (((s[0]'(Nat.lt_trans (by decide) g1)).toNat : Int) == 45) = false) (a b : Int) (n m : Nat) (hns : n < 1000000000001) (hn0 : 0 < n) (hms : m < 1000000000001) (hm0 : 0 < m) (hba : ¬ b < a) (hn : n < s.size) (hq : ((((s[n]'hn).toNat : Int)) == 45) = true) (hq' : ((((s[n]'hn).toNat : Int)) != 45) = false) (hr : n + 1 < s.size) (hr' : ((((s[n + 1]'hr).toNat : Int)) == 93) = false) (hp : ∀ W, Calls Tryz.prog 97 #[.string s] W fun e w' => e = .returned (.tuple #[.int .i64 a, .int .i64 (n : Int)]) ∧ Below W.heap.size W w') (hp2 : ∀ W, Calls Tryz.prog 97 #[.string (s.extract (n + 1) s.size)] W fun e w' => e = .returned (.tuple #[.int .i64 b, .int .i64 (m : Int)]) ∧ Below W.heap.size W w') (h : Rs.itemL s.data.toList first = [(a, b)] ∧ Rs.itemN s.data.toList first = n + 1 + m) :
    Calls Tryz.prog 76 #[.string s, .bool first] w (ItmR w s.data.toList first) := by
  have HE := Lib.hid h
  clear h
  have hnz : ((n : Int) == 0) = false := beq_eq_false_iff_ne.2 (by omega)
  have hw1 : IntKind.i64.wrap ((n : Int) + 1) = (n : Int) + 1 := by rw [IntKind.wrap_i64]; omega
  have hw2 : 0 ≤ (n : Int) + 1 := by omega
  have hw3 : ((n : Int) + 1).toNat = n + 1 := by omega
  generalize hX : s.extract (n + 1) s.size = X at *
  have hmz : ((m : Int) == 0) = false := beq_eq_false_iff_ne.2 (by omega)
  have hw4 : IntKind.i64.wrap ((n : Int) + 1 + m) = (n : Int) + 1 + m := by rw [IntKind.wrap_i64]; omega
  have hle : a ≤ b := by omega
  have hlt : decide (b < a) = false := decide_eq_false hba
  go_enter Tryz.func76, Tryz.ntmps76
  go_wp2_with (first | (go_at_call 97; refine (hp _).mono ?_; clear hp; rintro e w2 ⟨rfl, hb2⟩) | (go_at_call 97; refine (hp2 _).mono ?_; clear hp2; rintro e w3 ⟨rfl, hb3⟩))
  all_goals
    go_ret2
    exact ItmR.two HE.out (Bthen hb2 hb3)
end Go.Proofs.YtkjilodmmcefbaaGreatDoor
/- The reference's item, all its ways. -/
namespace Go.Proofs.YtkjilodmmcefbaaGreatDoor
open Go.RowKit Go.Shelf
theorem hp_no {s : ByteArray} (hmax : s.size ≤ 1000000000000) (h : Rs.partS s.data.toList = none) : ∀ W, Calls Tryz.prog 97 #[.string s] W fun e w' => e = .returned (.tuple #[.int .i64 0, .int .i64 0]) ∧ Below W.heap.size W w' := fun W => by
  have := rpart_calls s W hmax
  unfold PrtPost at this
  obtain ⟨e1, e2⟩ := Rs.part_none h
  rw [e1, e2] at this
  exact this
theorem hp_yes {s : ByteArray} (hmax : s.size ≤ 1000000000000) {a : Int} {n : Nat} (h : Rs.partS s.data.toList = some (a, n)) : ∀ W, Calls Tryz.prog 97 #[.string s] W fun e w' => e = .returned (.tuple #[.int .i64 a, .int .i64 (n : Int)]) ∧ Below W.heap.size W w' := fun W => by
  have := rpart_calls s W hmax
  unfold PrtPost at this
  obtain ⟨e1, e2⟩ := Rs.part_some h
  rw [e1, e2] at this
  exact this
theorem hn_no {c : Int} (h : Rs.namedB c = false) : ∀ W, Calls Tryz.prog 43 #[.int .u8 c] W fun e w' => ∃ v, e = .returned (.tuple #[v, .bool false]) ∧ Below W.heap.size W w' := fun W =>
  (refNamed_calls c W).mono fun e w' h' => by
    obtain ⟨v, h1, _, h3⟩ := h'
    rw [h] at h1
    exact ⟨v, h1, h3⟩
theorem hn_yes {c : Int} (h : Rs.namedB c = true) (W : World) : Calls Tryz.prog 43 #[.int .u8 c] W fun e w' => ∃ v, e = .returned (.tuple #[v, .bool true]) ∧ w'.ownsRow W.heap.size 59 2 v (Rs.namedS c).length (rFlat (Rs.namedS c)) ∧ Below W.heap.size W w' :=
  (refNamed_calls c W).mono fun e w' h' => by
    obtain ⟨v, h1, h2, h3⟩ := h'
    rw [h] at h1
    exact ⟨v, h1, h2, h3⟩
theorem beqT {a b : Int} (h : a = b) : (a == b) = true := by simpa using h
theorem beqF {a b : Int} (h : ¬ a = b) : (a == b) = false := by simpa using h
theorem bneT {a b : Int} (h : ¬ a = b) : (a != b) = true := by simpa using h
theorem bneF {a b : Int} (h : a = b) : (a != b) = false := by simpa using h
theorem ritem_B (s : ByteArray) (w : World) (first : Bool) (g1 : 1 < s.size) (hmax : s.size ≤ 1000000000000) (h92 : (((s[0]'(Nat.lt_trans (by decide) g1)).toNat : Int) == 92) = true) (h45 : (((s[0]'(Nat.lt_trans (by decide) g1)).toNat : Int) == 45) = false) (hnam : ∀ W, Calls Tryz.prog 43 #[.int .u8 ((s[1]'g1).toNat : Int)] W fun e w' => ∃ v, e = .returned (.tuple #[v, .bool false]) ∧ Below W.heap.size W w') (hpl : Rs.Plain s.data.toList first) :
    Calls Tryz.prog 76 #[.string s, .bool first] w (ItmR w s.data.toList first) := by
  have hlen : s.data.toList.length = s.size := by rw [Lib.size_eq]
  cases hp : Rs.partS s.data.toList with
  | none => exact riB0 s w first g1 hmax h92 h45 hnam (hp_no hmax hp) (Rs.item_p_none hpl hp)
  | some x =>
    obtain ⟨a, n⟩ := x
    obtain ⟨_, n1, n2⟩ := Rs.partS_ok hp
    have hpy := hp_yes hmax hp
    by_cases hn : n = s.size
    · exact riB1 s w first g1 hmax h92 h45 hnam a n (by omega) (by omega) hn hpy (Rs.item_p_one hpl hp (fun h => by have := h.1; rw [Rs.bt_ge (by omega)] at this; omega))
    · have hlt : n < s.size := by omega
      have bn := Rs.esc_get hlt
      by_cases hq : Rs.bt s.data.toList n = 45
      · have q1 := beqT (bn.symm.trans hq)
        have q2 := bneF (bn.symm.trans hq)
        have hex := ext_list s (n + 1)
        have hsz : (s.extract (n + 1) s.size).size ≤ 1000000000000 := by rw [ByteArray.size_extract]; omega
        by_cases hr : n + 1 = s.size
        · have hz : Rs.partS (s.data.toList.drop (n + 1)) = none := by rw [List.drop_of_length_le (by omega)]; rfl
          exact riB4 s w first g1 hmax h92 h45 hnam a n (by omega) (by omega) hlt q1 q2 hr hpy (hp_no hsz (by rw [hex]; exact hz)) (Rs.item_p_bad hpl hp ⟨hq, by rw [Rs.bt_ge (by omega)]; decide⟩ (.inl hz))
        · have hlt2 : n + 1 < s.size := by omega
          have bn2 := Rs.esc_get hlt2
          by_cases hm : Rs.bt s.data.toList (n + 1) = 93
          · exact riB3 s w first g1 hmax h92 h45 hnam a n (by omega) (by omega) hlt2 q1 (beqT (bn2.symm.trans hm)) hpy (Rs.item_p_one hpl hp (fun h => h.2 hm))
          · have m1 := beqF (fun e => hm (bn2.trans e))
            cases hp2 : Rs.partS (s.data.toList.drop (n + 1)) with
            | none => exact riB5 s w first g1 hmax h92 h45 hnam a n (by omega) (by omega) hlt q1 q2 hlt2 m1 hpy (hp_no hsz (by rw [hex]; exact hp2)) (Rs.item_p_bad hpl hp ⟨hq, hm⟩ (.inl hp2))
            | some y =>
              obtain ⟨b, m⟩ := y
              obtain ⟨_, k1, k2⟩ := Rs.partS_ok hp2
              rw [List.length_drop] at k2
              have hpy2 := hp_yes hsz (by rw [hex]; exact hp2)
              by_cases hba : b < a
              · exact riB6 s w first g1 hmax h92 h45 hnam a b n m (by omega) (by omega) (by omega) (by omega) hba hlt q1 q2 hlt2 m1 hpy hpy2 (Rs.item_p_bad hpl hp ⟨hq, hm⟩ (.inr ⟨b, m, hp2, hba⟩))
              · exact riB7 s w first g1 hmax h92 h45 hnam a b n m (by omega) (by omega) (by omega) (by omega) hba hlt q1 q2 hlt2 m1 hpy hpy2 (Rs.item_p_two hpl hp ⟨hq, hm⟩ hp2 hba)
      · exact riB2 s w first g1 hmax h92 h45 hnam a n (by omega) (by omega) hlt (beqF (fun e => hq (bn.trans e))) (bneT (fun e => hq (bn.trans e))) hpy (Rs.item_p_one hpl hp (fun h => hq h.1))
theorem ritem_C (s : ByteArray) (w : World) (first : Bool) (g1 : 1 < s.size) (hmax : s.size ≤ 1000000000000) (h92 : (((s[0]'(Nat.lt_trans (by decide) g1)).toNat : Int) == 92) = false) (h45 : (((s[0]'(Nat.lt_trans (by decide) g1)).toNat : Int) == 45) = false) (hpl : Rs.Plain s.data.toList first) :
    Calls Tryz.prog 76 #[.string s, .bool first] w (ItmR w s.data.toList first) := by
  have hlen : s.data.toList.length = s.size := by rw [Lib.size_eq]
  cases hp : Rs.partS s.data.toList with
  | none => exact riC0 s w first g1 hmax h92 h45 (hp_no hmax hp) (Rs.item_p_none hpl hp)
  | some x =>
    obtain ⟨a, n⟩ := x
    obtain ⟨_, n1, n2⟩ := Rs.partS_ok hp
    have hpy := hp_yes hmax hp
    by_cases hn : n = s.size
    · exact riC1 s w first g1 hmax h92 h45 a n (by omega) (by omega) hn hpy (Rs.item_p_one hpl hp (fun h => by have := h.1; rw [Rs.bt_ge (by omega)] at this; omega))
    · have hlt : n < s.size := by omega
      have bn := Rs.esc_get hlt
      by_cases hq : Rs.bt s.data.toList n = 45
      · have q1 := beqT (bn.symm.trans hq)
        have q2 := bneF (bn.symm.trans hq)
        have hex := ext_list s (n + 1)
        have hsz : (s.extract (n + 1) s.size).size ≤ 1000000000000 := by rw [ByteArray.size_extract]; omega
        by_cases hr : n + 1 = s.size
        · have hz : Rs.partS (s.data.toList.drop (n + 1)) = none := by rw [List.drop_of_length_le (by omega)]; rfl
          exact riC4 s w first g1 hmax h92 h45 a n (by omega) (by omega) hlt q1 q2 hr hpy (hp_no hsz (by rw [hex]; exact hz)) (Rs.item_p_bad hpl hp ⟨hq, by rw [Rs.bt_ge (by omega)]; decide⟩ (.inl hz))
        · have hlt2 : n + 1 < s.size := by omega
          have bn2 := Rs.esc_get hlt2
          by_cases hm : Rs.bt s.data.toList (n + 1) = 93
          · exact riC3 s w first g1 hmax h92 h45 a n (by omega) (by omega) hlt2 q1 (beqT (bn2.symm.trans hm)) hpy (Rs.item_p_one hpl hp (fun h => h.2 hm))
          · have m1 := beqF (fun e => hm (bn2.trans e))
            cases hp2 : Rs.partS (s.data.toList.drop (n + 1)) with
            | none => exact riC5 s w first g1 hmax h92 h45 a n (by omega) (by omega) hlt q1 q2 hlt2 m1 hpy (hp_no hsz (by rw [hex]; exact hp2)) (Rs.item_p_bad hpl hp ⟨hq, hm⟩ (.inl hp2))
            | some y =>
              obtain ⟨b, m⟩ := y
              obtain ⟨_, k1, k2⟩ := Rs.partS_ok hp2
              rw [List.length_drop] at k2
              have hpy2 := hp_yes hsz (by rw [hex]; exact hp2)
              by_cases hba : b < a
              · exact riC6 s w first g1 hmax h92 h45 a b n m (by omega) (by omega) (by omega) (by omega) hba hlt q1 q2 hlt2 m1 hpy hpy2 (Rs.item_p_bad hpl hp ⟨hq, hm⟩ (.inr ⟨b, m, hp2, hba⟩))
              · exact riC7 s w first g1 hmax h92 h45 a b n m (by omega) (by omega) (by omega) (by omega) hba hlt q1 q2 hlt2 m1 hpy hpy2 (Rs.item_p_two hpl hp ⟨hq, hm⟩ hp2 hba)
      · exact riC2 s w first g1 hmax h92 h45 a n (by omega) (by omega) hlt (beqF (fun e => hq (bn.trans e))) (bneT (fun e => hq (bn.trans e))) hpy (Rs.item_p_one hpl hp (fun h => hq h.1))
theorem ritem_calls (s : ByteArray) (first : Bool) (w : World) (hmax : s.size ≤ 1000000000000) :
    Calls Tryz.prog 76 #[.string s, .bool first] w (ItmR w s.data.toList first) := by
  have hlen : s.data.toList.length = s.size := by rw [Lib.size_eq]
  by_cases hs0 : s.size = 0
  · have hl : s.data.toList = [] := List.length_eq_zero_iff.1 (by omega)
    exact ri_n0 s w first hs0 (hp_no hmax (by rw [hl]; rfl)) (by rw [hl]; exact Rs.item_no (Rs.itemS_nil first))
  · have g0 : 0 < s.size := by omega
    have b0 := Rs.esc_get g0
    by_cases hs1 : s.size = 1
    · have z1 : Rs.bt s.data.toList 1 = 0 := Rs.bt_ge (by omega)
      have nn : ¬ (Rs.bt s.data.toList 0 = 92 ∧ 1 < s.data.toList.length ∧ Rs.namedB (Rs.bt s.data.toList 1) = true) := fun h => by have := h.2.1; omega
      by_cases h45 : Rs.bt s.data.toList 0 = 45
      · cases first with
        | true => exact ri_d1 s w true g0 hs1 (beqT (b0.symm.trans h45)) rfl (Rs.item_yes (Rs.item_dash h45 (.inl rfl)))
        | false =>
          have hpl : Rs.Plain s.data.toList false := ⟨nn, fun h => by rcases h.2 with h | h; exact Bool.noConfusion h; omega⟩
          exact ri_n2 s w false g0 hs1 (beqT (b0.symm.trans h45)) rfl (hp_no hmax (Rs.part_dash h45)) (Rs.item_p_none hpl (Rs.part_dash h45))
      · have hpl : Rs.Plain s.data.toList first := ⟨nn, fun h => h45 h.1⟩
        have e45 := beqF (fun e => h45 (b0.trans e))
        cases hp : Rs.partS s.data.toList with
        | none => exact ri_n1 s w first g0 hs1 e45 (hp_no hmax hp) (Rs.item_p_none hpl hp)
        | some x =>
          obtain ⟨a, n⟩ := x
          obtain ⟨_, n1, n2⟩ := Rs.partS_ok hp
          exact ri_o1 s w first g0 hs1 e45 a n (by omega) (by omega) (by omega) (hp_yes hmax hp) (Rs.item_p_one hpl hp (fun h => by have := h.1; rw [Rs.bt_ge (by omega)] at this; omega))
    · have g1 : 1 < s.size := by omega
      have b1 := Rs.esc_get g1
      by_cases h92 : Rs.bt s.data.toList 0 = 92
      · have e92 := beqT (b0.symm.trans h92)
        have e45 := beqF (fun e => by have := b0.trans e; omega : ¬ ((s[0]'g0).toNat : Int) = 45)
        cases hN : Rs.namedB (Rs.bt s.data.toList 1) with
        | true =>
          have hy := hn_yes hN w
          rw [b1] at hy
          exact ri_named s w first g1 e92 _ hy (by rw [← b1]; exact Rs.item_yes (Rs.item_named h92 (by omega) hN))
        | false =>
          have hy := hn_no hN
          rw [b1] at hy
          exact ritem_B s w first g1 hmax e92 e45 hy ⟨fun h => by rw [hN] at h; exact Bool.noConfusion h.2.2, fun h => by have := h.1; omega⟩
      · have e92 := beqF (fun e => h92 (b0.trans e))
        have nn : ¬ (Rs.bt s.data.toList 0 = 92 ∧ 1 < s.data.toList.length ∧ Rs.namedB (Rs.bt s.data.toList 1) = true) := fun h => h92 h.1
        by_cases h45 : Rs.bt s.data.toList 0 = 45
        · have e45 := beqT (b0.symm.trans h45)
          cases first with
          | true => exact ri_d2 s w true g1 e92 e45 rfl (Rs.item_yes (Rs.item_dash h45 (.inl rfl)))
          | false =>
            by_cases h93 : Rs.bt s.data.toList 1 = 93
            · exact ri_d3 s w false g1 e92 e45 (beqT (b1.symm.trans h93)) rfl (Rs.item_yes (Rs.item_dash h45 (.inr h93)))
            · have hpl : Rs.Plain s.data.toList false := ⟨nn, fun h => by rcases h.2 with h | h; exact Bool.noConfusion h; exact h93 h⟩
              exact ri_n3 s w false g1 e92 e45 (beqF (fun e => h93 (b1.trans e))) rfl (hp_no hmax (Rs.part_dash h45)) (Rs.item_p_none hpl (Rs.part_dash h45))
        · exact ritem_C s w first g1 hmax e92 (beqF (fun e => h45 (b0.trans e))) ⟨nn, fun h => h45 h.1⟩
end Go.Proofs.YtkjilodmmcefbaaGreatDoor
