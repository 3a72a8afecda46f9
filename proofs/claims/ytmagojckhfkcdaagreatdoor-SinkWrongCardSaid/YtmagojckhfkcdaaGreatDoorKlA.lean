/- Chapter 38's labels: utf.Valid, and package label up to Right. -/
import Derived.Test.YtmagojckhfkcdaaGreatDoorKuA
import Derived.Sort.Walk0
import Derived.Outline
namespace Go.Proofs.YtmagojckhfkcdaaGreatDoor.Sk
open Go Go.RowKit
def CheckPost (s : ByteArray) (w : World) (e : Ending) (w' : World) : Prop :=
  (∃ (k er : Int), e = .returned (.tuple #[.int .i64 k, .int .i64 er]) ∧ ((er == 0) = valid (d s))) ∧ w = w'
set_option maxRecDepth 100000 in
set_option maxHeartbeats 2000000 in
theorem ucheck_calls (s : ByteArray) (w : World) (hs : s.size ≤ 4611686018427387904) : Calls Tryz.prog 116 #[.string s] w (CheckPost s w) := by
  go_enter Tryz.func116, Tryz.ntmps116
  go_wp2
  go_step3
  go_wp2
  go_step3
  go_wp2
  go_loop [4, 5] (fun t b => ∃ k : Nat, k ≤ s.size ∧ t = .int .i64 k ∧ b = .int .i64 0 ∧ valid (d s) = valid ((d s).drop k)) (fun t _ => s.size - (intOf t).toNat)
  case atStart => exact ⟨0, Nat.zero_le _, rfl, rfl, rfl⟩
  case round =>
    obtain ⟨k, hk, rfl, rfl, hv⟩ := hrel
    have HV := Lib.hid hv
    clear hv
    by_cases hlt : k < s.size
    · cases hr : rd ((d s).drop k) with
      | none =>
        have HR := Lib.hid hr
        have HF : Hid (valid (d s) = false) := Lib.hid (by
          rw [HV.out]
          refine valid_none (by rw [drop_data s k hlt]; simp) hr)
        clear hr
        go_wp2_with fail
        go_at_call 134
        refine (uread_calls s k _ hlt hs).mono ?_
        rintro e w' ⟨(⟨x, n, h1, rfl⟩ | ⟨er, h1, h2, h3, rfl⟩), rfl⟩
        · exact absurd (HR.out.symm.trans h1) (by simp)
        · have hne : (er == 0) = false := by simp; omega
          clear h3
          go_wp2
          go_ret2
          exact ⟨⟨_, _, rfl, by rw [HF.out]; exact hne⟩, rfl⟩
      | some n =>
        have HR := Lib.hid hr
        have hp := rd_pos hr
        have hp2 : k + n ≤ s.size := by have := hp.2.2; simp at this; omega
        have HF : Hid (valid (d s) = valid ((d s).drop (k + n))) := Lib.hid (by rw [HV.out, valid_some hr, List.drop_drop])
        obtain ⟨hp0, hp1, -⟩ := hp
        clear hr
        go_wp2_with fail
        go_at_call 134
        refine (uread_calls s k _ hlt hs).mono ?_
        rintro e w' ⟨(⟨x, n', h1, rfl⟩ | ⟨er, h1, h2, h3, rfl⟩), rfl⟩
        · obtain rfl : n = n' := Option.some.inj (HR.out.symm.trans h1)
          clear h1
          go_wp2
          go_round
          case rel => exact ⟨k + n, hp2, by go_num, rfl, HF.out⟩
          case measure => simp [intOf]; omega
        · exact absurd (HR.out.symm.trans h3) (by simp)
    · have HF : Hid (valid (d s) = true) := Lib.hid (by rw [HV.out, List.drop_eq_nil_of_le (by simpa using hlt)]; rfl)
      go_wp2
      go_ret2
      exact ⟨⟨_, _, rfl, by rw [HF.out]; rfl⟩, rfl⟩
set_option maxRecDepth 100000 in
theorem uvalid_calls (s : ByteArray) (w : World) (hs : s.size ≤ 4611686018427387904) : Calls Tryz.prog 90 #[.string s] w fun e w' => e = .returned (.bool (valid (d s))) ∧ w = w' := by
  go_enter Tryz.func90, Tryz.ntmps90
  go_wp2_with (go_at_call 116; refine (ucheck_calls s _ hs).mono ?_; rintro e w' ⟨⟨k, er, rfl, h⟩, rfl⟩)
  have H := Lib.hid h
  clear h
  go_wp2
  go_ret
  exact ⟨ret_bool (by rw [← H.out]), rfl⟩
/-! names -/
theorem name_step (s : ByteArray) {k : Nat} (h : k < s.size) : nameGo k ((d s).drop k) = ((let_ s[k].toNat || (decide (1 ≤ k) && dig s[k].toNat)) && nameGo (k + 1) ((d s).drop (k + 1))) := by
  rw [drop_data s k h, nameGo]
set_option maxRecDepth 100000 in
set_option maxHeartbeats 4000000 in
theorem named_calls (s : ByteArray) (w : World) : Calls Tryz.prog 139 #[.string s, .int .u8 95] w fun e w' => e = .returned (.bool (nameB (d s))) ∧ w = w' := by
  by_cases hl : 1 ≤ s.size ∧ s.size ≤ 128
  · obtain ⟨hl1, hl2⟩ := hl
    have HB : Hid (nameB (d s) = nameGo 0 (d s)) := Lib.hid (by unfold nameB; rw [decide_eq_true (by simpa using ⟨hl1, hl2⟩)]; rfl)
    go_enter Tryz.func139, Tryz.ntmps139
    go_wp2
    go_loop [18] (fun i => ∃ k : Nat, k ≤ s.size ∧ i = .int .i64 k ∧ nameGo 0 (d s) = nameGo k ((d s).drop k)) (fun i => s.size - (intOf i).toNat)
    case atStart => exact ⟨0, Nat.zero_le _, rfl, rfl⟩
    case round =>
      obtain ⟨k, hk, rfl, hv⟩ := hrel
      have HV := Lib.hid hv
      clear hv
      by_cases hlt : k < s.size
      · have HS := Lib.hid (name_step s hlt)
        have hc : s[k].toNat < 256 := s[k].toNat_lt
        have YES : Hid (let_ s[k].toNat = true ∨ (1 ≤ k ∧ dig s[k].toNat = true) → nameGo 0 (d s) = nameGo (k + 1) ((d s).drop (k + 1))) := Lib.hid (fun h => by
          rw [HV.out, HS.out]
          rcases h with h | ⟨h1, h2⟩
          · rw [h]; rfl
          · rw [decide_eq_true h1, h2]; simp)
        have NO : Hid (let_ s[k].toNat = false → (¬ 1 ≤ k ∨ dig s[k].toNat = false) → nameB (d s) = false) := Lib.hid (fun h h' => by
          rw [HB.out, HV.out, HS.out, h]
          rcases h' with h1 | h2
          · rw [decide_eq_false h1]; rfl
          · rw [h2]; simp)
        clear HS
        rcases (show (97 ≤ s[k].toNat ∧ s[k].toNat ≤ 122) ∨ (65 ≤ s[k].toNat ∧ s[k].toNat ≤ 90) ∨ (95 ≤ s[k].toNat ∧ s[k].toNat ≤ 95) ∨ (48 ≤ s[k].toNat ∧ s[k].toNat ≤ 57) ∨ (0 ≤ s[k].toNat ∧ s[k].toNat < 48) ∨ (58 ≤ s[k].toNat ∧ s[k].toNat ≤ 64) ∨ (91 ≤ s[k].toNat ∧ s[k].toNat ≤ 94) ∨ (96 ≤ s[k].toNat ∧ s[k].toNat ≤ 96) ∨ (123 ≤ s[k].toNat ∧ s[k].toNat < 256) by omega) with ⟨g1, g2⟩ | ⟨g1, g2⟩ | ⟨g1, g2⟩ | ⟨g1, g2⟩ | ⟨g1, g2⟩ | ⟨g1, g2⟩ | ⟨g1, g2⟩ | ⟨g1, g2⟩ | ⟨g1, g2⟩
        · have n95 : ((s[k].toNat : Int) == 95) = false := by simp; omega
          have b97 : decide (97 ≤ (s[k].toNat : Int)) = true := by simp; omega
          have b122 : decide ((s[k].toNat : Int) ≤ 122) = true := by simp; omega
          have b65 : decide (65 ≤ (s[k].toNat : Int)) = true := by simp; omega
          have b90 : decide ((s[k].toNat : Int) ≤ 90) = false := by simp; omega
          have b48 : decide ((s[k].toNat : Int) < 48) = false := by simp; omega
          have b57 : decide (57 < (s[k].toNat : Int)) = true := by simp; omega
          have HY := Lib.hid (YES.out (.inl (by unfold let_; simp; omega)))
          clear YES NO
          go_wp2
          go_round
          case rel => exact ⟨k + 1, by omega, by go_num, HY.out⟩
          case measure => simp [intOf]; omega
        · have n95 : ((s[k].toNat : Int) == 95) = false := by simp; omega
          have b97 : decide (97 ≤ (s[k].toNat : Int)) = false := by simp; omega
          have b122 : decide ((s[k].toNat : Int) ≤ 122) = true := by simp; omega
          have b65 : decide (65 ≤ (s[k].toNat : Int)) = true := by simp; omega
          have b90 : decide ((s[k].toNat : Int) ≤ 90) = true := by simp; omega
          have b48 : decide ((s[k].toNat : Int) < 48) = false := by simp; omega
          have b57 : decide (57 < (s[k].toNat : Int)) = true := by simp; omega
          have HY := Lib.hid (YES.out (.inl (by unfold let_; simp; omega)))
          clear YES NO
          go_wp2
          go_round
          case rel => exact ⟨k + 1, by omega, by go_num, HY.out⟩
          case measure => simp [intOf]; omega
        · have n95 : ((s[k].toNat : Int) == 95) = true := by simp; omega
          have b97 : decide (97 ≤ (s[k].toNat : Int)) = false := by simp; omega
          have b122 : decide ((s[k].toNat : Int) ≤ 122) = true := by simp; omega
          have b65 : decide (65 ≤ (s[k].toNat : Int)) = true := by simp; omega
          have b90 : decide ((s[k].toNat : Int) ≤ 90) = false := by simp; omega
          have b48 : decide ((s[k].toNat : Int) < 48) = false := by simp; omega
          have b57 : decide (57 < (s[k].toNat : Int)) = true := by simp; omega
          have HY := Lib.hid (YES.out (.inl (by unfold let_; simp; omega)))
          clear YES NO
          go_wp2
          go_round
          case rel => exact ⟨k + 1, by omega, by go_num, HY.out⟩
          case measure => simp [intOf]; omega
        · have n95 : ((s[k].toNat : Int) == 95) = false := by simp; omega
          have b97 : decide (97 ≤ (s[k].toNat : Int)) = false := by simp; omega
          have b122 : decide ((s[k].toNat : Int) ≤ 122) = true := by simp; omega
          have b65 : decide (65 ≤ (s[k].toNat : Int)) = false := by simp; omega
          have b90 : decide ((s[k].toNat : Int) ≤ 90) = true := by simp; omega
          have b48 : decide ((s[k].toNat : Int) < 48) = false := by simp; omega
          have b57 : decide (57 < (s[k].toNat : Int)) = false := by simp; omega
          by_cases hk0 : k = 0
          · have hkk : ((k : Int) == 0) = true := by simp; omega
            have HN := Lib.hid (NO.out (by unfold let_; simp; omega) (.inl (by omega)))
            clear hk0 YES NO
            go_wp2
            go_ret
            exact ⟨ret_bool HN.out.symm, rfl⟩
          · have hkk : ((k : Int) == 0) = false := by simp; omega
            have HY := Lib.hid (YES.out (.inr ⟨by omega, by unfold dig; simp; omega⟩))
            clear hk0 YES NO
            go_wp2
            go_round
            case rel => exact ⟨k + 1, by omega, by go_num, HY.out⟩
            case measure => simp [intOf]; omega
        · have n95 : ((s[k].toNat : Int) == 95) = false := by simp; omega
          have b97 : decide (97 ≤ (s[k].toNat : Int)) = false := by simp; omega
          have b122 : decide ((s[k].toNat : Int) ≤ 122) = true := by simp; omega
          have b65 : decide (65 ≤ (s[k].toNat : Int)) = false := by simp; omega
          have b90 : decide ((s[k].toNat : Int) ≤ 90) = true := by simp; omega
          have b48 : decide ((s[k].toNat : Int) < 48) = true := by simp; omega
          have b57 : decide (57 < (s[k].toNat : Int)) = false := by simp; omega
          have HN := Lib.hid (NO.out (by unfold let_; simp; omega) (.inr (by unfold dig; simp; omega)))
          clear YES NO
          by_cases hk0 : k = 0
          · have hkk : ((k : Int) == 0) = true := by simp; omega
            clear hk0
            go_wp2
            go_ret
            exact ⟨ret_bool HN.out.symm, rfl⟩
          · have hkk : ((k : Int) == 0) = false := by simp; omega
            clear hk0
            go_wp2
            go_ret
            exact ⟨ret_bool HN.out.symm, rfl⟩
        · have n95 : ((s[k].toNat : Int) == 95) = false := by simp; omega
          have b97 : decide (97 ≤ (s[k].toNat : Int)) = false := by simp; omega
          have b122 : decide ((s[k].toNat : Int) ≤ 122) = true := by simp; omega
          have b65 : decide (65 ≤ (s[k].toNat : Int)) = false := by simp; omega
          have b90 : decide ((s[k].toNat : Int) ≤ 90) = true := by simp; omega
          have b48 : decide ((s[k].toNat : Int) < 48) = false := by simp; omega
          have b57 : decide (57 < (s[k].toNat : Int)) = true := by simp; omega
          have HN := Lib.hid (NO.out (by unfold let_; simp; omega) (.inr (by unfold dig; simp; omega)))
          clear YES NO
          by_cases hk0 : k = 0
          · have hkk : ((k : Int) == 0) = true := by simp; omega
            clear hk0
            go_wp2
            go_ret
            exact ⟨ret_bool HN.out.symm, rfl⟩
          · have hkk : ((k : Int) == 0) = false := by simp; omega
            clear hk0
            go_wp2
            go_ret
            exact ⟨ret_bool HN.out.symm, rfl⟩
        · have n95 : ((s[k].toNat : Int) == 95) = false := by simp; omega
          have b97 : decide (97 ≤ (s[k].toNat : Int)) = false := by simp; omega
          have b122 : decide ((s[k].toNat : Int) ≤ 122) = true := by simp; omega
          have b65 : decide (65 ≤ (s[k].toNat : Int)) = true := by simp; omega
          have b90 : decide ((s[k].toNat : Int) ≤ 90) = false := by simp; omega
          have b48 : decide ((s[k].toNat : Int) < 48) = false := by simp; omega
          have b57 : decide (57 < (s[k].toNat : Int)) = true := by simp; omega
          have HN := Lib.hid (NO.out (by unfold let_; simp; omega) (.inr (by unfold dig; simp; omega)))
          clear YES NO
          by_cases hk0 : k = 0
          · have hkk : ((k : Int) == 0) = true := by simp; omega
            clear hk0
            go_wp2
            go_ret
            exact ⟨ret_bool HN.out.symm, rfl⟩
          · have hkk : ((k : Int) == 0) = false := by simp; omega
            clear hk0
            go_wp2
            go_ret
            exact ⟨ret_bool HN.out.symm, rfl⟩
        · have n95 : ((s[k].toNat : Int) == 95) = false := by simp; omega
          have b97 : decide (97 ≤ (s[k].toNat : Int)) = false := by simp; omega
          have b122 : decide ((s[k].toNat : Int) ≤ 122) = true := by simp; omega
          have b65 : decide (65 ≤ (s[k].toNat : Int)) = true := by simp; omega
          have b90 : decide ((s[k].toNat : Int) ≤ 90) = false := by simp; omega
          have b48 : decide ((s[k].toNat : Int) < 48) = false := by simp; omega
          have b57 : decide (57 < (s[k].toNat : Int)) = true := by simp; omega
          have HN := Lib.hid (NO.out (by unfold let_; simp; omega) (.inr (by unfold dig; simp; omega)))
          clear YES NO
          by_cases hk0 : k = 0
          · have hkk : ((k : Int) == 0) = true := by simp; omega
            clear hk0
            go_wp2
            go_ret
            exact ⟨ret_bool HN.out.symm, rfl⟩
          · have hkk : ((k : Int) == 0) = false := by simp; omega
            clear hk0
            go_wp2
            go_ret
            exact ⟨ret_bool HN.out.symm, rfl⟩
        · have n95 : ((s[k].toNat : Int) == 95) = false := by simp; omega
          have b97 : decide (97 ≤ (s[k].toNat : Int)) = true := by simp; omega
          have b122 : decide ((s[k].toNat : Int) ≤ 122) = false := by simp; omega
          have b65 : decide (65 ≤ (s[k].toNat : Int)) = true := by simp; omega
          have b90 : decide ((s[k].toNat : Int) ≤ 90) = false := by simp; omega
          have b48 : decide ((s[k].toNat : Int) < 48) = false := by simp; omega
          have b57 : decide (57 < (s[k].toNat : Int)) = true := by simp; omega
          have HN := Lib.hid (NO.out (by unfold let_; simp; omega) (.inr (by unfold dig; simp; omega)))
          clear YES NO
          by_cases hk0 : k = 0
          · have hkk : ((k : Int) == 0) = true := by simp; omega
            clear hk0
            go_wp2
            go_ret
            exact ⟨ret_bool HN.out.symm, rfl⟩
          · have hkk : ((k : Int) == 0) = false := by simp; omega
            clear hk0
            go_wp2
            go_ret
            exact ⟨ret_bool HN.out.symm, rfl⟩
      · have HF : Hid (nameB (d s) = true) := Lib.hid (by rw [HB.out, HV.out, List.drop_eq_nil_of_le (by simpa using hlt)]; rfl)
        go_wp2
        go_ret
        exact ⟨ret_bool HF.out.symm, rfl⟩
  · have HF : Hid (nameB (d s) = false) := Lib.hid (by unfold nameB; rw [decide_eq_false (by simpa using hl)]; rfl)
    rcases (show s.size < 1 ∨ (1 ≤ s.size ∧ 128 < s.size) by omega) with h | ⟨h, h'⟩
    · clear hl
      go_enter Tryz.func139, Tryz.ntmps139
      go_wp2
      go_ret
      exact ⟨ret_bool HF.out.symm, rfl⟩
    · clear hl
      go_enter Tryz.func139, Tryz.ntmps139
      go_wp2
      go_ret
      exact ⟨ret_bool HF.out.symm, rfl⟩
set_option maxRecDepth 100000 in
theorem lname_calls (s : ByteArray) (w : World) : Calls Tryz.prog 126 #[.string s] w fun e w' => e = .returned (.bool (nameB (d s))) ∧ w = w' := by
  go_enter Tryz.func126, Tryz.ntmps126
  go_wp2_with (go_at_call 139; refine (named_calls s _).mono ?_; rintro e w' ⟨rfl, rfl⟩)
  go_ret
  exact ⟨rfl, rfl⟩
set_option maxRecDepth 100000 in
theorem lvalue_calls (s : ByteArray) (w : World) (hs : s.size ≤ 4611686018427387904) : Calls Tryz.prog 127 #[.string s] w fun e w' => e = .returned (.bool (valueB (d s))) ∧ w = w' := by
  by_cases h : s.size ≤ 1024
  · have HF : Hid (valueB (d s) = valid (d s)) := Lib.hid (by unfold valueB; rw [decide_eq_true (by simpa using h)]; rfl)
    go_enter Tryz.func127, Tryz.ntmps127
    go_wp2_with (go_at_call 90; refine (uvalid_calls s _ hs).mono ?_; rintro e w' ⟨rfl, rfl⟩)
    go_ret
    exact ⟨ret_bool HF.out.symm, rfl⟩
  · have HF : Hid (valueB (d s) = false) := Lib.hid (by unfold valueB; rw [decide_eq_false (by simpa using h)]; rfl)
    go_enter Tryz.func127, Tryz.ntmps127
    go_wp2
    go_ret
    exact ⟨ret_bool HF.out.symm, rfl⟩
end Go.Proofs.YtmagojckhfkcdaaGreatDoor.Sk
