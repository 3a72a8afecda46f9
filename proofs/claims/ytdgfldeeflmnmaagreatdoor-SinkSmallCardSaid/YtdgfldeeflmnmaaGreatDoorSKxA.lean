/- Texts of the claim, put together: KxA. -/
import Derived.Test.YtdgfldeeflmnmaaGreatDoorSKmA
import Derived.Test.YtdgfldeeflmnmaaGreatDoorSKtA
import Derived.Laws.IdiomStrings
namespace Go.Proofs.YtdgfldeeflmnmaaGreatDoor.Sk
open Go Go.RowKit
set_option maxRecDepth 100000 in
theorem point_calls (x : Nat) (hx : x < 128) (w : World) : Calls Tryz.prog 219 #[.int .i64 x] w fun e w' => e = .returned (.bool true) ∧ w = w' := by
  have h1 : (0 : Int) ≤ (x : Int) := by omega
  have h2 : (x : Int) < 55296 := by omega
  go_enter Tryz.func219, Tryz.ntmps219
  go_wp2
  go_ret
  exact ⟨rfl, rfl⟩
set_option maxRecDepth 100000 in
theorem form1_calls (c : UInt8) (hc : c.toNat < 128) (w : World) : Calls Tryz.prog 220 #[.int .i64 c.toNat] w fun e w' => e = .returned (.slice (some ⟨w.heap.size, 0, none⟩) 1 1) ∧ w'.cell? ⟨w.heap.size, 0, none⟩ = some (.int .u8 c.toNat) ∧ w.heap.size < w'.heap.size ∧ Below w.heap.size w w' := by
  have h1 : (c.toNat : Int) < 128 := by omega
  have h2 : IntKind.u8.wrap (c.toNat : Int) = (c.toNat : Int) := by rw [IntKind.wrap_u8]; omega
  go_enter Tryz.func220, Tryz.ntmps220
  go_wp2
  go_ret
  exact ⟨rfl, by first | exact new_cell _ _ _ 0 _ rfl | simp, by simp, (Below.refl _ _).alloc (Nat.le_refl _) _⟩
set_option maxRecDepth 100000 in
set_option maxHeartbeats 1000000 in
theorem value1_calls (s : ByteArray) (h1 : (s.size : Int) = 1) (hp : 0 < s.size) (c : UInt8) (h0 : s[0] = c) (hc : c.toNat < 128) (hs : s = ⟨#[c]⟩) (w : World) : Calls Tryz.prog 203 #[.string s] w fun e w' => e = .returned (.int .i64 c.toNat) ∧ Below w.heap.size w w' := by
  have HS := Lib.hid hs
  have hw : IntKind.i64.wrap (c.toNat : Int) = (c.toNat : Int) := by rw [IntKind.wrap_i64]; omega
  clear hs
  go_enter Tryz.func203, Tryz.ntmps203
  go_wp2_with fail
  go_at_call 219
  refine (point_calls c.toNat hc _).mono ?_
  rintro e w1 ⟨rfl, rfl⟩
  go_wp2_with fail
  go_at_call 220
  refine (form1_calls c hc _).mono ?_
  rintro e w1 ⟨rfl, hcell, hlt, hb⟩
  have hcv : (convert 115 9 (.slice (some ⟨w.heap.size, 0, none⟩) 1 1)).run Tryz.prog w1 = .ok (.string ⟨#[c]⟩) w1 :=
    run_convert_bytes_back (P := Tryz.prog) w1 115 9 5 ⟨w.heap.size, 0, none⟩ 1 [c] Tryz.underlying115 Tryz.underlying5 Tryz.underlying9 (fun j hj => by
      obtain rfl : j = 0 := by simpa using hj
      exact hcell)
  rw [← HS.out] at hcv
  have HB := Lib.hid hb
  clear hcell hb
  go_wp2
  go_ret
  exact ⟨rfl, HB.out⟩
set_option maxRecDepth 100000 in
set_option maxHeartbeats 1000000 in
theorem read1_calls (s : ByteArray) (h1 : (s.size : Int) = 1) (hp : 0 < s.size) (c : UInt8) (h0 : s[0] = c) (hc : c.toNat < 128) (hs : s = ⟨#[c]⟩) (w : World) : Calls Tryz.prog 180 #[.string s, .int .i64 0] w fun e w' => e = .returned (.tuple #[.int .i64 c.toNat, .int .i64 1, .int .i64 0]) ∧ Below w.heap.size w w' := by
  have hv := value1_calls s h1 hp c h0 hc hs w
  have hex : s.extract 0 1 = s := by subst hs; rfl
  have h3 : (0 : Int) ≤ (c.toNat : Int) := by omega
  clear hs h0
  go_enter Tryz.func180, Tryz.ntmps180
  go_wp2_with fail
  go_loopw [7] (fun i wr => i = .int .i64 1 ∧ wr = w) (fun _ _ => 0)
  case atStart => exact ⟨rfl, rfl⟩
  case round =>
    obtain ⟨rfl, rfl⟩ := hrel
    go_wp2_with (go_at_call 203; first | rw [hex] | skip; refine hv.mono ?_; rintro e w1 ⟨rfl, hb⟩)
    go_ret3
    exact ⟨rfl, hb⟩
set_option maxRecDepth 100000 in
set_option maxHeartbeats 1000000 in
theorem check1_calls (s : ByteArray) (h1 : (s.size : Int) = 1) (hp : 0 < s.size) (c : UInt8) (h0 : s[0] = c) (hc : c.toNat < 128) (hs : s = ⟨#[c]⟩) (w : World) : Calls Tryz.prog 156 #[.string s] w fun e w' => e = .returned (.tuple #[.int .i64 1, .int .i64 0]) ∧ Below w.heap.size w w' := by
  have hv := fun w : World => read1_calls s h1 hp c h0 hc hs w
  clear hs h0
  go_enter Tryz.func156, Tryz.ntmps156
  go_wp2_with fail
  go_loopw [4] (fun i wr => (i = .int .i64 0 ∧ wr = w) ∨ (i = .int .i64 1 ∧ Below w.heap.size w wr)) (fun i _ => 1 - (intOf i).toNat)
  case atStart => exact .inl ⟨rfl, rfl⟩
  case round =>
    rcases hrel with ⟨rfl, rfl⟩ | ⟨rfl, hb⟩
    · go_wp2_with (go_at_call 180; refine (hv _).mono ?_; rintro e w1 ⟨rfl, hb⟩)
      go_roundw
      case rel => exact .inr ⟨by go_num, hb⟩
      case measure => simp [intOf]
    · go_wp2_with fail
      go_ret2
      exact ⟨rfl, hb⟩
set_option maxRecDepth 100000 in
theorem rjob_calls (s : ByteArray) (h1 : (s.size : Int) = 1) (hp : 0 < s.size) (c : UInt8) (h0 : s[0] = c) (hc : c.toNat < 128) (hs : s = ⟨#[c]⟩) (w : World) : Calls Tryz.prog 105 #[.string s] w fun e w' => e = .returned (.bool true) ∧ Below w.heap.size w w' := by
  have hv := check1_calls s h1 hp c h0 hc hs w
  clear hs h0
  go_enter Tryz.func105, Tryz.ntmps105
  go_wp2_with (go_at_call 156; refine hv.mono ?_; rintro e w1 ⟨rfl, hb⟩)
  go_ret
  exact ⟨rfl, hb⟩
set_option maxRecDepth 100000 in
theorem rvalue_calls (s : ByteArray) (h1 : (s.size : Int) = 1) (hp : 0 < s.size) (c : UInt8) (h0 : s[0] = c) (hc : c.toNat < 128) (hs : s = ⟨#[c]⟩) (w : World) : Calls Tryz.prog 207 #[.string s] w fun e w' => e = .returned (.bool true) ∧ Below w.heap.size w w' := by
  have hv := check1_calls s h1 hp c h0 hc hs w
  clear hs h0
  go_enter Tryz.func207, Tryz.ntmps207
  go_wp2_with (go_at_call 156; refine hv.mono ?_; rintro e w1 ⟨rfl, hb⟩)
  go_ret
  exact ⟨rfl, hb⟩
end Go.Proofs.YtdgfldeeflmnmaaGreatDoor.Sk
