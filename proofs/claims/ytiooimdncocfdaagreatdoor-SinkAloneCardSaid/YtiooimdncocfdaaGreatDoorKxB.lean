/- Chapter 38: the references of layers 4 and 5 at one label. -/
import Derived.Test.YtiooimdncocfdaaGreatDoorKxA
import Derived.Deep.QuietTactic
import Derived.BigQuiet
namespace Go.Proofs.YtiooimdncocfdaaGreatDoor.Sk
open Go Go.RowKit
set_option maxRecDepth 100000 in
set_option maxHeartbeats 2000000 in
theorem rname_calls (s : ByteArray) (h1 : (s.size : Int) = 1) (hp : 0 < s.size) (h0 : s[0] = 97) (w : World) : Calls Tryz.prog 283 #[.string s, .bool false] w fun e w' => e = .returned (.bool true) ∧ Below w.heap.size w w' := by
  have h97 : s[0].toNat = 97 := by rw [h0]; rfl
  clear h0
  go_enter Tryz.func283, Tryz.ntmps283
  go_wp2_with fail
  go_loopw [5] (fun i wr => (i = .int .i64 0 ∧ wr = w) ∨ (i = .int .i64 1 ∧ Below w.heap.size w wr)) (fun i _ => 1 - (intOf i).toNat)
  case atStart => exact .inl ⟨rfl, rfl⟩
  case round =>
    rcases hrel with ⟨rfl, rfl⟩ | ⟨rfl, hb⟩
    · go_wp2_with fail
      go_quiet (fail)
      go_wp2_with fail
      go_roundw
      case rel => exact .inr ⟨by go_num, below_drewN (Below.refl _ _) _⟩
      case measure => simp [intOf]
    · go_wp2_with fail
      go_ret
      exact ⟨rfl, hb⟩
/-- a string of one small byte -/
structure Sb (s : ByteArray) (c : UInt8) : Prop where
  sz : (s.size : Int) = 1
  ps : 0 < s.size
  at0 : s[0] = c
  lt : c.toNat < 128
  eq : s = ⟨#[c]⟩
theorem Sb.of (c : UInt8) (h : c.toNat < 128) : Sb ⟨#[c]⟩ c := ⟨rfl, Nat.one_pos, rfl, h, rfl⟩
set_option maxRecDepth 100000 in
theorem wrong_calls (nm vl : ByteArray) (c : UInt8) (hn : Sb nm 97) (hv : Sb vl c) (w : World) : Calls Tryz.prog 256 #[.agg #[.string nm, .string vl]] w fun e w' => e = .returned (.int .i64 0) ∧ Below w.heap.size w w' := by
  have HN := Lib.hid (fun w => rname_calls nm hn.sz hn.ps hn.at0 w)
  have HV := Lib.hid (fun w => rvalue_calls vl hv.sz hv.ps c hv.at0 hv.lt hv.eq w)
  clear hn hv
  go_enter Tryz.func256, Tryz.ntmps256
  go_wp2_with fail
  go_at_call 283
  refine (HN.out _).mono ?_
  rintro e w1 ⟨rfl, hb⟩
  have c1 : w1.cell? ⟨w.heap.size, 1, none⟩ = some (.string vl) := by
    rw [hb.cell (p := ⟨w.heap.size, 1, none⟩) (by simp)]
    exact new_cell _ _ _ 1 _ rfl
  have l1 : w.heap.size < w1.heap.size := by have := hb.size; simp at this; omega
  have HB : Hid (Below w.heap.size w w1) := Lib.hid (((Below.refl _ _).alloc (Nat.le_refl _) _).trans (hb.mono (by simp)))
  clear hb
  go_wp2_with fail
  go_at_call 284
  refine (HV.out _).mono ?_
  rintro e w2 ⟨rfl, hb2⟩
  have HB2 := Lib.hid (Bthen HB.out hb2)
  clear hb2
  go_wp2
  go_ret
  exact ⟨rfl, HB2.out⟩
set_option maxRecDepth 100000 in
set_option maxHeartbeats 2000000 in
theorem rcheck_calls (nm vl : ByteArray) (c : UInt8) (hn : Sb nm 97) (hv : Sb vl c) (b off cap : Nat) (w : World) (c0 : w.cell? ⟨b, off, none⟩ = some (.string nm)) (c1 : w.cell? ⟨b, off + 1, none⟩ = some (.string vl)) (hb : b < w.heap.size) :
    Calls Tryz.prog 200 #[.slice (some ⟨b, off, none⟩) 1 cap] w fun e w' => e = .returned (.tuple #[.int .i64 (-1), .int .i64 0]) ∧ Below w.heap.size w w' := by
  have HW := Lib.hid (fun w => wrong_calls nm vl c hn hv w)
  have he : vl.toList.isEmpty = false := by rw [hv.eq, ByteArray.toList_eq]; rfl
  clear hn hv
  go_enter Tryz.func200, Tryz.ntmps200
  go_wp2_with fail
  go_loopw [4] (fun i wr => (i = .int .i64 0 ∧ wr = w) ∨ (i = .int .i64 1 ∧ Below w.heap.size w wr)) (fun i _ => 1 - (intOf i).toNat)
  case atStart => exact .inl ⟨rfl, rfl⟩
  case round =>
    rcases hrel with ⟨rfl, rfl⟩ | ⟨rfl, hb⟩
    · go_wp2_with fail
      go_at_call 256
      refine (HW.out _).mono ?_
      rintro e w1 ⟨rfl, hb1⟩
      have d1 : w1.cell? ⟨b, off + 1, none⟩ = some (.string vl) := (hb1.cell (p := ⟨b, off + 1, none⟩) hb).trans c1
      have l1 : b < w1.heap.size := Nat.lt_of_lt_of_le hb hb1.size
      have HB1 := Lib.hid hb1
      clear hb1
      go_wp2_with fail
      go_quiet (fail)
      go_wp2_with fail
      go_roundw
      case rel => exact .inr ⟨by go_num, below_drewN HB1.out _⟩
      case measure => simp [intOf]
    · go_wp2_with fail
      go_ret2
      exact ⟨rfl, hb⟩
end Go.Proofs.YtiooimdncocfdaaGreatDoor.Sk
