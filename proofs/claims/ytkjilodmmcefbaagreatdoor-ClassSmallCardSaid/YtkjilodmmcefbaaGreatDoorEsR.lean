/- The reference's digit and hex. -/
import Derived.Test.YtkjilodmmcefbaaGreatDoorRdA
namespace Go.Proofs.YtkjilodmmcefbaaGreatDoor
open Go.RowKit Go.Shelf
namespace Rs
def digV (b : Int) : Int := (hexD b).getD (-1)
theorem digV_no {b : Int} (h : hexD b = none) : digV b = -1 := by simp [digV, h]
theorem digV_some {b d : Int} (h : hexD b = some d) : digV b = d := by simp [digV, h]
theorem hexF_step {L : List UInt8} {k : Nat} {b : UInt8} (h : L[k]? = some b) (n : Int) : hexF (L.drop k) n = match hexD (b.toNat : Int) with | some d => hexF (L.drop (k + 1)) (16 * n + d) | none => none := by
  obtain ⟨hk, rfl⟩ := List.getElem?_eq_some_iff.1 h
  rw [List.drop_eq_getElem_cons hk]
  rfl
end Rs
theorem Rs.dig1 {b : Int} (h : 48 ≤ b ∧ b ≤ 57) : Rs.digV b = b - 48 := by unfold Rs.digV Rs.hexD; rw [if_pos h]; rfl
theorem Rs.dig2 {b : Int} (h : 97 ≤ b ∧ b ≤ 102) : Rs.digV b = b - 97 + 10 := by unfold Rs.digV Rs.hexD; rw [if_neg (by omega), if_pos h]; show b - 87 = _; omega
theorem Rs.dig3 {b : Int} (h : 65 ≤ b ∧ b ≤ 70) : Rs.digV b = b - 65 + 10 := by unfold Rs.digV Rs.hexD; rw [if_neg (by omega), if_neg (by omega), if_pos h]; show b - 55 = _; omega
theorem Rs.dig0 {b : Int} (h : ¬ (48 ≤ b ∧ b ≤ 57) ∧ ¬ (97 ≤ b ∧ b ≤ 102) ∧ ¬ (65 ≤ b ∧ b ≤ 70)) : Rs.digV b = -1 := by unfold Rs.digV Rs.hexD; rw [if_neg h.1, if_neg h.2.1, if_neg h.2.2]; rfl
theorem rdigit_calls (b : Int) (h0 : 0 ≤ b) (h1 : b ≤ 255) (w : World) :
    Calls Tryz.prog 98 #[.int .u8 b] w fun e w' => e = .returned (.int .i64 (Rs.digV b)) ∧ w' = w := by
  have hw : IntKind.i64.wrap b = b := by rw [IntKind.wrap_i64]; omega
  rcases (show (48 ≤ b ∧ b ≤ 57) ∨ (97 ≤ b ∧ b ≤ 102) ∨ (65 ≤ b ∧ b ≤ 70) ∨ (b < 48) ∨ (57 < b ∧ b < 65) ∨ (70 < b ∧ b < 97) ∨ 102 < b by omega) with h | h | h | h | h | h | h
  · rw [Rs.dig1 h]
    go_enter Tryz.func98, Tryz.ntmps98
    go_wp2
    go_ret
    exact ⟨rfl, rfl⟩
  · rw [Rs.dig2 h]
    go_enter Tryz.func98, Tryz.ntmps98
    go_wp2
    go_ret
    exact ⟨rfl, rfl⟩
  · rw [Rs.dig3 h]
    go_enter Tryz.func98, Tryz.ntmps98
    go_wp2
    go_ret
    exact ⟨rfl, rfl⟩
  · rw [Rs.dig0 ⟨by omega, by omega, by omega⟩]
    go_enter Tryz.func98, Tryz.ntmps98
    go_wp2
    go_ret
    exact ⟨rfl, rfl⟩
  · rw [Rs.dig0 ⟨by omega, by omega, by omega⟩]
    go_enter Tryz.func98, Tryz.ntmps98
    go_wp2
    go_ret
    exact ⟨rfl, rfl⟩
  · rw [Rs.dig0 ⟨by omega, by omega, by omega⟩]
    go_enter Tryz.func98, Tryz.ntmps98
    go_wp2
    go_ret
    exact ⟨rfl, rfl⟩
  · rw [Rs.dig0 ⟨by omega, by omega, by omega⟩]
    go_enter Tryz.func98, Tryz.ntmps98
    go_wp2
    go_ret
    exact ⟨rfl, rfl⟩
def HxI (s : ByteArray) (w : World) (v i : Value) (wr : World) : Prop := ∃ k n : Nat, k ≤ s.size ∧ i = .int .i64 k ∧ v = .int .i64 n ∧ n < 16 ^ k ∧ Rs.hexF s.data.toList 0 = Rs.hexF (s.data.toList.drop k) n ∧ wr = w
theorem byte_at {s : ByteArray} {k : Nat} (h : k < s.size) : s.data.toList[k]? = some (s[k]'h) := by
  rw [List.getElem?_eq_getElem (by simpa using h)]
  rfl
set_option maxRecDepth 100000 in
set_option maxHeartbeats 2000000 in
theorem rhex_calls (s : ByteArray) (hn : s.size < 4611686018427387904) (w : World) :
    Calls Tryz.prog 77 #[.string s, .int .i64 6] w fun e w' => e = .returned (.int .i64 ((Rs.hexS s.data.toList).getD (-1))) ∧ w' = w := by
  have hlen : s.data.toList.length = s.size := by simp
  by_cases hb : s.size < 1 ∨ 6 < s.size
  · have e : Rs.hexS s.data.toList = none := by unfold Rs.hexS; rw [if_pos (by omega)]
    rw [e]
    clear e hlen
    rcases hb with h | h
    all_goals
      go_enter Tryz.func77, Tryz.ntmps77
      go_wp2
      go_ret
      exact ⟨rfl, rfl⟩
  · have e : Rs.hexS s.data.toList = Rs.hexF s.data.toList 0 := by unfold Rs.hexS; rw [if_neg (by omega)]
    rw [e]
    have h1 : 1 ≤ s.size := by omega
    have h2 : s.size ≤ 6 := by omega
    clear e hlen hb hn
    go_enter Tryz.func77, Tryz.ntmps77
    go_wp2
    go_loopw [5, 6] (fun v i wr => HxI s w v i wr) (fun _ i _ => s.size - (intOf i).toNat)
    case atStart => exact ⟨0, 0, Nat.zero_le _, rfl, rfl, by decide, rfl, rfl⟩
    case round =>
      obtain ⟨k, n, hk, rfl, rfl, hnk, hf, rfl⟩ := hrel
      by_cases hlt : k < s.size
      · have hst := Rs.hexF_step (byte_at hlt) (n : Int)
        have hn5 : n < 1048576 := by
          have : 16 ^ k ≤ 16 ^ 5 := Nat.pow_le_pow_right (by decide) (by omega)
          omega
        have HK := Lib.hid (show _ ∧ _ from ⟨hnk, hf.trans hst⟩)
        clear hnk hf hst
        have hd := fun W => rdigit_calls ((s[k]'hlt).toNat : Int) (by omega) (by have := (s[k]'hlt).toNat_lt; omega) W
        cases hx : Rs.hexD ((s[k]'hlt).toNat : Int) with
        | none =>
          rw [Rs.digV_no hx] at hd
          have HE : Hid (Rs.hexF s.data.toList 0 = none) := Lib.hid (by rw [HK.out.2, hx])
          clear hx HK
          go_wp2_with (go_at_call 98; refine (hd _).mono ?_; rintro e w1 ⟨rfl, rfl⟩)
          go_ret
          exact ⟨by rw [HE.out]; rfl, rfl⟩
        | some d =>
          rw [Rs.digV_some hx] at hd
          obtain ⟨d0, d1⟩ := Rs.hexD_range hx
          obtain ⟨m, rfl⟩ : ∃ m : Nat, d = m := ⟨d.toNat, by omega⟩
          have HE : Hid (HxI s wr (.int .i64 ((16 * n + m : Nat) : Int)) (.int .i64 ((k : Int) + 1)) wr) := Lib.hid ⟨k + 1, 16 * n + m, hlt, by go_num, rfl, by have := HK.out.1; rw [Nat.pow_succ]; omega, by rw [HK.out.2, hx]; simp, rfl⟩
          have hw1 : IntKind.i64.wrap (16 * (n : Int)) = 16 * (n : Int) := by rw [IntKind.wrap_i64]; omega
          have hw2 : IntKind.i64.wrap (16 * (n : Int) + m) = 16 * (n : Int) + m := by rw [IntKind.wrap_i64]; omega
          clear hx HK
          go_wp2_with (go_at_call 98; refine (hd _).mono ?_; rintro e w1 ⟨rfl, rfl⟩)
          go_roundw
          case rel => exact HE.out
          case measure => simp [intOf]; omega
      · obtain rfl : k = s.size := by omega
        have HE : Hid (Rs.hexF s.data.toList 0 = some (n : Int)) := Lib.hid (by rw [hf, List.drop_of_length_le (by simp)]; rfl)
        clear hnk hf
        go_wp2
        go_ret
        exact ⟨by rw [HE.out]; rfl, rfl⟩
end Go.Proofs.YtkjilodmmcefbaaGreatDoor
