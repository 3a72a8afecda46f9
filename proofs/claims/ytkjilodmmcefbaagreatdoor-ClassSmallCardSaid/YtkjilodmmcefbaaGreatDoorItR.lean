/- The reference's item: named sets, dashes, no part. -/
import Derived.Test.YtkjilodmmcefbaaGreatDoorIpR
import Derived.Test.YtkjilodmmcefbaaGreatDoorNmR
import Derived.Test.YtkjilodmmcefbaaGreatDoorPtP
namespace Go.Proofs.YtkjilodmmcefbaaGreatDoor
open Go.RowKit Go.Shelf
def ItmR (w : World) (L : List UInt8) (first : Bool) (e : Ending) (w' : World) : Prop :=
  ∃ v, e = .returned (.tuple #[v, .int .i64 (Rs.itemN L first)]) ∧ w'.ownsRow w.heap.size 59 2 v (Rs.itemL L first).length (rFlat (Rs.itemL L first)) ∧ Below w.heap.size w w'
theorem ItmR.no {w w1 : World} {L : List UInt8} {f : Bool} (h : Rs.itemL L f = [] ∧ Rs.itemN L f = 0) (hb : Below w.heap.size w w1) : ItmR w L f (.returned (.tuple #[.slice none 0 0, .int .i64 0])) w1 := by
  unfold ItmR
  rw [h.1, h.2]
  exact ⟨_, rfl, World.ownsRow_nil _ _ _ _, hb⟩
theorem ItmR.one {w w1 : World} {L : List UInt8} {f : Bool} {a b : Int} {n : Nat} (h : Rs.itemL L f = [(a, b)] ∧ Rs.itemN L f = n) (hb : Below w.heap.size w w1) : ItmR w L f (.returned (.tuple #[.slice (some ⟨w1.heap.size, 0, none⟩) 1 1, .int .i64 (n : Int)])) (w1.alloc (.cells #[.int .i64 a, .int .i64 b] 59)) := by
  unfold ItmR
  rw [h.1, h.2]
  exact ⟨_, rfl, ownsRow_base (owns_new w1 [(a, b)] _ (by simp)) hb.size, Bnew hb _⟩
theorem ItmR.two {w w1 : World} {L : List UInt8} {f : Bool} {a b : Int} {n m : Nat} (h : Rs.itemL L f = [(a, b)] ∧ Rs.itemN L f = n + 1 + m) (hb : Below w.heap.size w w1) : ItmR w L f (.returned (.tuple #[.slice (some ⟨w1.heap.size, 0, none⟩) 1 1, .int .i64 ((n : Int) + 1 + m)])) (w1.alloc (.cells #[.int .i64 a, .int .i64 b] 59)) := by
  have := ItmR.one h hb
  rwa [show ((n + 1 + m : Nat) : Int) = (n : Int) + 1 + m by omega] at this
set_option maxRecDepth 100000 in
set_option maxHeartbeats 1000000 in
theorem ri_named (s : ByteArray) (w : World) (first : Bool) (g1 : 1 < s.size) (h92 : (((s[0]'(Nat.lt_trans (by decide) g1)).toNat : Int) == 92) = true) (l : Rs.S) (hnam : Calls Tryz.prog 43 #[.int .u8 ((s[1]'g1).toNat : Int)] w fun e w' => ∃ v, e = .returned (.tuple #[v, .bool true]) ∧ w'.ownsRow w.heap.size 59 2 v l.length (rFlat l) ∧ Below w.heap.size w w') (h : Rs.itemL s.data.toList first = l ∧ Rs.itemN s.data.toList first = 2) :
    Calls Tryz.prog 76 #[.string s, .bool first] w (ItmR w s.data.toList first) := by
  have HE := Lib.hid h
  clear h
  go_enter Tryz.func76, Tryz.ntmps76
  go_wp2_with (go_at_call 43; refine hnam.mono ?_; clear hnam; rintro e w1 ⟨v, rfl, hown, hb1⟩)
  go_ret2
  exact ⟨_, by rw [HE.out.2]; rfl, by rw [HE.out.1]; exact hown, hb1⟩
set_option maxRecDepth 100000 in
set_option maxHeartbeats 1000000 in
theorem ri_d1 (s : ByteArray) (w : World) (first : Bool) (g0 : 0 < s.size) (g1 : s.size = 1) (h45 : (((s[0]'g0).toNat : Int) == 45) = true) (hf : first = true) (h : Rs.itemL s.data.toList first = [(45, 45)] ∧ Rs.itemN s.data.toList first = 1) :
    Calls Tryz.prog 76 #[.string s, .bool first] w (ItmR w s.data.toList first) := by
  have HE := Lib.hid h
  clear h
  subst hf
  go_enter Tryz.func76, Tryz.ntmps76
  go_wp2
  go_ret2
  exact ItmR.one HE.out (Below.refl _ _)
set_option maxRecDepth 100000 in
set_option maxHeartbeats 1000000 in
theorem ri_d2 (s : ByteArray) (w : World) (first : Bool) (g1 : 1 < s.size) (h92 : (((s[0]'(Nat.lt_trans (by decide) g1)).toNat : Int) == 92) = false) (h45 : (((s[0]'(Nat.lt_trans (by decide) g1)).toNat : Int) == 45) = true) (hf : first = true) (h : Rs.itemL s.data.toList first = [(45, 45)] ∧ Rs.itemN s.data.toList first = 1) :
    Calls Tryz.prog 76 #[.string s, .bool first] w (ItmR w s.data.toList first) := by
  have HE := Lib.hid h
  clear h
  subst hf
  go_enter Tryz.func76, Tryz.ntmps76
  go_wp2
  go_ret2
  exact ItmR.one HE.out (Below.refl _ _)
set_option maxRecDepth 100000 in
set_option maxHeartbeats 1000000 in
theorem ri_d3 (s : ByteArray) (w : World) (first : Bool) (g1 : 1 < s.size) (h92 : (((s[0]'(Nat.lt_trans (by decide) g1)).toNat : Int) == 92) = false) (h45 : (((s[0]'(Nat.lt_trans (by decide) g1)).toNat : Int) == 45) = true) (h93 : (((s[1]'g1).toNat : Int) == 93) = true) (hf : first = false) (h : Rs.itemL s.data.toList first = [(45, 45)] ∧ Rs.itemN s.data.toList first = 1) :
    Calls Tryz.prog 76 #[.string s, .bool first] w (ItmR w s.data.toList first) := by
  have HE := Lib.hid h
  clear h
  subst hf
  go_enter Tryz.func76, Tryz.ntmps76
  go_wp2
  go_ret2
  exact ItmR.one HE.out (Below.refl _ _)
set_option maxRecDepth 100000 in
set_option maxHeartbeats 1000000 in
theorem ri_n0 (s : ByteArray) (w : World) (first : Bool) (g0 : s.size = 0) (hp : ∀ W, Calls Tryz.prog 97 #[.string s] W fun e w' => e = .returned (.tuple #[.int .i64 0, .int .i64 0]) ∧ Below W.heap.size W w') (h : Rs.itemL s.data.toList first = [] ∧ Rs.itemN s.data.toList first = 0) :
    Calls Tryz.prog 76 #[.string s, .bool first] w (ItmR w s.data.toList first) := by
  have HE := Lib.hid h
  clear h
  go_enter Tryz.func76, Tryz.ntmps76
  go_wp2_with (first | (go_at_call 97; refine (hp _).mono ?_; clear hp; rintro e w2 ⟨rfl, hb2⟩) | (go_at_call 97; refine (hp2 _).mono ?_; clear hp2; rintro e w3 ⟨rfl, hb3⟩))
  go_ret2
  exact ItmR.no HE.out hb2
set_option maxRecDepth 100000 in
set_option maxHeartbeats 1000000 in
theorem ri_n1 (s : ByteArray) (w : World) (first : Bool) (g0 : 0 < s.size) (g1 : s.size = 1) (h45 : (((s[0]'g0).toNat : Int) == 45) = false) (hp : ∀ W, Calls Tryz.prog 97 #[.string s] W fun e w' => e = .returned (.tuple #[.int .i64 0, .int .i64 0]) ∧ Below W.heap.size W w') (h : Rs.itemL s.data.toList first = [] ∧ Rs.itemN s.data.toList first = 0) :
    Calls Tryz.prog 76 #[.string s, .bool first] w (ItmR w s.data.toList first) := by
  have HE := Lib.hid h
  clear h
  go_enter Tryz.func76, Tryz.ntmps76
  go_wp2_with (first | (go_at_call 97; refine (hp _).mono ?_; clear hp; rintro e w2 ⟨rfl, hb2⟩) | (go_at_call 97; refine (hp2 _).mono ?_; clear hp2; rintro e w3 ⟨rfl, hb3⟩))
  go_ret2
  exact ItmR.no HE.out hb2
set_option maxRecDepth 100000 in
set_option maxHeartbeats 1000000 in
theorem ri_n2 (s : ByteArray) (w : World) (first : Bool) (g0 : 0 < s.size) (g1 : s.size = 1) (h45 : (((s[0]'g0).toNat : Int) == 45) = true) (hf : first = false) (hp : ∀ W, Calls Tryz.prog 97 #[.string s] W fun e w' => e = .returned (.tuple #[.int .i64 0, .int .i64 0]) ∧ Below W.heap.size W w') (h : Rs.itemL s.data.toList first = [] ∧ Rs.itemN s.data.toList first = 0) :
    Calls Tryz.prog 76 #[.string s, .bool first] w (ItmR w s.data.toList first) := by
  have HE := Lib.hid h
  clear h
  subst hf
  go_enter Tryz.func76, Tryz.ntmps76
  go_wp2_with (first | (go_at_call 97; refine (hp _).mono ?_; clear hp; rintro e w2 ⟨rfl, hb2⟩) | (go_at_call 97; refine (hp2 _).mono ?_; clear hp2; rintro e w3 ⟨rfl, hb3⟩))
  go_ret2
  exact ItmR.no HE.out hb2
set_option maxRecDepth 100000 in
set_option maxHeartbeats 1000000 in
theorem ri_n3 (s : ByteArray) (w : World) (first : Bool) (g1 : 1 < s.size) (h92 : (((s[0]'(Nat.lt_trans (by decide) g1)).toNat : Int) == 92) = false) (h45 : (((s[0]'(Nat.lt_trans (by decide) g1)).toNat : Int) == 45) = true) (h93 : (((s[1]'g1).toNat : Int) == 93) = false) (hf : first = false) (hp : ∀ W, Calls Tryz.prog 97 #[.string s] W fun e w' => e = .returned (.tuple #[.int .i64 0, .int .i64 0]) ∧ Below W.heap.size W w') (h : Rs.itemL s.data.toList first = [] ∧ Rs.itemN s.data.toList first = 0) :
    Calls Tryz.prog 76 #[.string s, .bool first] w (ItmR w s.data.toList first) := by
  have HE := Lib.hid h
  clear h
  subst hf
  go_enter Tryz.func76, Tryz.ntmps76
  go_wp2_with (first | (go_at_call 97; refine (hp _).mono ?_; clear hp; rintro e w2 ⟨rfl, hb2⟩) | (go_at_call 97; refine (hp2 _).mono ?_; clear hp2; rintro e w3 ⟨rfl, hb3⟩))
  go_ret2
  exact ItmR.no HE.out hb2
set_option maxRecDepth 100000 in
set_option maxHeartbeats 1000000 in
theorem ri_o1 (s : ByteArray) (w : World) (first : Bool) (g0 : 0 < s.size) (g1 : s.size = 1) (h45 : (((s[0]'g0).toNat : Int) == 45) = false) (a : Int) (n : Nat) (_hns : n < 1000000000001) (_hn0 : 0 < n) (hn : n = s.size) (hp : ∀ W, Calls Tryz.prog 97 #[.string s] W fun e w' => e = .returned (.tuple #[.int .i64 a, .int .i64 (n : Int)]) ∧ Below W.heap.size W w') (h : Rs.itemL s.data.toList first = [(a, a)] ∧ Rs.itemN s.data.toList first = n) :
    Calls Tryz.prog 76 #[.string s, .bool first] w (ItmR w s.data.toList first) := by
  have HE := Lib.hid h
  clear h
  have hnz : ((n : Int) == 0) = false := beq_eq_false_iff_ne.2 (by omega)
  have hw1 : IntKind.i64.wrap ((n : Int) + 1) = (n : Int) + 1 := by rw [IntKind.wrap_i64]; omega
  have hw2 : 0 ≤ (n : Int) + 1 := by omega
  have hw3 : ((n : Int) + 1).toNat = n + 1 := by omega
  have hn1 : n = 1 := by omega
  go_enter Tryz.func76, Tryz.ntmps76
  go_wp2_with (first | (go_at_call 97; refine (hp _).mono ?_; clear hp; rintro e w2 ⟨rfl, hb2⟩) | (go_at_call 97; refine (hp2 _).mono ?_; clear hp2; rintro e w3 ⟨rfl, hb3⟩))
  go_ret2
  exact ItmR.one ⟨HE.out.1, HE.out.2.trans hn1⟩ hb2
end Go.Proofs.YtkjilodmmcefbaaGreatDoor
