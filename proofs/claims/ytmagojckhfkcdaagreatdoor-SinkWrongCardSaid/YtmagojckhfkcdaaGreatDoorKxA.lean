/- Chapter 38: the reference of layer 1 at strings of one small byte. -/
import Derived.Test.YtmagojckhfkcdaaGreatDoorKmA
import Derived.Test.YtmagojckhfkcdaaGreatDoorKtA
import Derived.Laws.IdiomStrings
namespace Go.Proofs.YtmagojckhfkcdaaGreatDoor.Sk
open Go Go.RowKit
set_option maxRecDepth 100000 in
theorem point_calls (x : Nat) (hx : x < 128) (w : World) : Calls Tryz.prog 144 #[.int .i64 x] w fun e w' => e = .returned (.bool true) ∧ w = w' := by
  have h1 : (0 : Int) ≤ (x : Int) := by omega
  have h2 : (x : Int) < 55296 := by omega
  go_enter Tryz.func144, Tryz.ntmps144
  go_wp2
  go_ret
  exact ⟨rfl, rfl⟩
set_option maxRecDepth 100000 in
theorem form1_calls (c : UInt8) (hc : c.toNat < 128) (w : World) : Calls Tryz.prog 145 #[.int .i64 c.toNat] w fun e w' => e = .returned (.slice (some ⟨w.heap.size, 0, none⟩) 1 1) ∧ w'.cell? ⟨w.heap.size, 0, none⟩ = some (.int .u8 c.toNat) ∧ w.heap.size < w'.heap.size ∧ Below w.heap.size w w' := by
  have h1 : (c.toNat : Int) < 128 := by omega
  have h2 : IntKind.u8.wrap (c.toNat : Int) = (c.toNat : Int) := by rw [IntKind.wrap_u8]; omega
  go_enter Tryz.func145, Tryz.ntmps145
  go_wp2
  go_ret
  exact ⟨rfl, by first | exact new_cell _ _ _ 0 _ rfl | simp, by simp, (Below.refl _ _).alloc (Nat.le_refl _) _⟩
set_option maxRecDepth 100000 in
set_option maxHeartbeats 1000000 in
theorem value1_calls (s : ByteArray) (h1 : (s.size : Int) = 1) (hp : 0 < s.size) (c : UInt8) (h0 : s[0] = c) (hc : c.toNat < 128) (hs : s = ⟨#[c]⟩) (w : World) : Calls Tryz.prog 135 #[.string s] w fun e w' => e = .returned (.int .i64 c.toNat) ∧ Below w.heap.size w w' := by
  have HS := Lib.hid hs
  have hw : IntKind.i64.wrap (c.toNat : Int) = (c.toNat : Int) := by rw [IntKind.wrap_i64]; omega
  clear hs
  go_enter Tryz.func135, Tryz.ntmps135
  go_wp2_with fail
  go_at_call 144
  refine (point_calls c.toNat hc _).mono ?_
  rintro e w1 ⟨rfl, rfl⟩
  go_wp2_with fail
  go_at_call 145
  refine (form1_calls c hc _).mono ?_
  rintro e w1 ⟨rfl, hcell, hlt, hb⟩
  have hcv : (convert 102 9 (.slice (some ⟨w.heap.size, 0, none⟩) 1 1)).run Tryz.prog w1 = .ok (.string ⟨#[c]⟩) w1 :=
    run_convert_bytes_back (P := Tryz.prog) w1 102 9 5 ⟨w.heap.size, 0, none⟩ 1 [c] Tryz.underlying102 Tryz.underlying5 Tryz.underlying9 (fun j hj => by
      obtain rfl : j = 0 := by simpa using hj
      exact hcell)
  rw [← HS.out] at hcv
  have HB := Lib.hid hb
  clear hcell hb
  go_wp2
  go_ret
  exact ⟨rfl, HB.out⟩
set_option maxRecDepth 100000 in
set_option maxHeartbeats 1000000 in
theorem read1_calls (s : ByteArray) (h1 : (s.size : Int) = 1) (hp : 0 < s.size) (c : UInt8) (h0 : s[0] = c) (hc : c.toNat < 128) (hs : s = ⟨#[c]⟩) (w : World) : Calls Tryz.prog 124 #[.string s, .int .i64 0] w fun e w' => e = .returned (.tuple #[.int .i64 c.toNat, .int .i64 1, .int .i64 0]) ∧ Below w.heap.size w w' := by
  have hv := value1_calls s h1 hp c h0 hc hs w
  have hex : s.extract 0 1 = s := by subst hs; rfl
  have h3 : (0 : Int) ≤ (c.toNat : Int) := by omega
  clear hs h0
  go_enter Tryz.func124, Tryz.ntmps124
  go_wp2_with fail
  go_loopw [7] (fun i wr => i = .int .i64 1 ∧ wr = w) (fun _ _ => 0)
  case atStart => exact ⟨rfl, rfl⟩
  case round =>
    obtain ⟨rfl, rfl⟩ := hrel
    go_wp2_with (go_at_call 135; first | rw [hex] | skip; refine hv.mono ?_; rintro e w1 ⟨rfl, hb⟩)
    go_ret3
    exact ⟨rfl, hb⟩
set_option maxRecDepth 100000 in
set_option maxHeartbeats 1000000 in
theorem check1_calls (s : ByteArray) (h1 : (s.size : Int) = 1) (hp : 0 < s.size) (c : UInt8) (h0 : s[0] = c) (hc : c.toNat < 128) (hs : s = ⟨#[c]⟩) (w : World) : Calls Tryz.prog 107 #[.string s] w fun e w' => e = .returned (.tuple #[.int .i64 1, .int .i64 0]) ∧ Below w.heap.size w w' := by
  have hv := fun w : World => read1_calls s h1 hp c h0 hc hs w
  clear hs h0
  go_enter Tryz.func107, Tryz.ntmps107
  go_wp2_with fail
  go_loopw [4] (fun i wr => (i = .int .i64 0 ∧ wr = w) ∨ (i = .int .i64 1 ∧ Below w.heap.size w wr)) (fun i _ => 1 - (intOf i).toNat)
  case atStart => exact .inl ⟨rfl, rfl⟩
  case round =>
    rcases hrel with ⟨rfl, rfl⟩ | ⟨rfl, hb⟩
    · go_wp2_with (go_at_call 124; refine (hv _).mono ?_; rintro e w1 ⟨rfl, hb⟩)
      go_roundw
      case rel => exact .inr ⟨by go_num, hb⟩
      case measure => simp [intOf]
    · go_wp2_with fail
      go_ret2
      exact ⟨rfl, hb⟩
set_option maxRecDepth 100000 in
theorem rjob_calls (s : ByteArray) (h1 : (s.size : Int) = 1) (hp : 0 < s.size) (c : UInt8) (h0 : s[0] = c) (hc : c.toNat < 128) (hs : s = ⟨#[c]⟩) (w : World) : Calls Tryz.prog 78 #[.string s] w fun e w' => e = .returned (.bool true) ∧ Below w.heap.size w w' := by
  have hv := check1_calls s h1 hp c h0 hc hs w
  clear hs h0
  go_enter Tryz.func78, Tryz.ntmps78
  go_wp2_with (go_at_call 107; refine hv.mono ?_; rintro e w1 ⟨rfl, hb⟩)
  go_ret
  exact ⟨rfl, hb⟩
set_option maxRecDepth 100000 in
theorem rvalue_calls (s : ByteArray) (h1 : (s.size : Int) = 1) (hp : 0 < s.size) (c : UInt8) (h0 : s[0] = c) (hc : c.toNat < 128) (hs : s = ⟨#[c]⟩) (w : World) : Calls Tryz.prog 147 #[.string s] w fun e w' => e = .returned (.bool true) ∧ Below w.heap.size w w' := by
  have hv := check1_calls s h1 hp c h0 hc hs w
  clear hs h0
  go_enter Tryz.func147, Tryz.ntmps147
  go_wp2_with (go_at_call 107; refine hv.mono ?_; rintro e w1 ⟨rfl, hb⟩)
  go_ret
  exact ⟨rfl, hb⟩
end Go.Proofs.YtmagojckhfkcdaaGreatDoor.Sk
