/- Texts of the claim, put together: KRd. -/
import Derived.Test.YtdgfldeeflmnmaaGreatDoorSKRc
import Derived.Test.YtdgfldeeflmnmaaGreatDoorSKlB
import Derived.Test.YtdgfldeeflmnmaaGreatDoorSKpA
import Derived.Deep.QuietTactic
import Derived.BigQuiet
import Derived.Deep.RegionLaw
namespace Go.Proofs.YtdgfldeeflmnmaaGreatDoor.Sk
open Go Go.RowKit
theorem nameB_at {s : ByteArray} (h1 : 1 ≤ s.size) (h2 : s.size ≤ 128) : nameB (d s) = nameGo 0 (d s) := by
  unfold nameB
  rw [decide_eq_true (by simpa using ⟨h1, h2⟩)]
  rfl
/-- what is told, and draws alone -/
def TdPost (v : Value) (w : World) (e : Ending) (w' : World) : Prop := e = .returned v ∧ Below w.heap.size w w'
set_option maxRecDepth 100000 in
set_option maxHeartbeats 4000000 in
theorem rnameG_calls (s : ByteArray) (w : World) : Calls Tryz.prog 206 #[.string s, .bool false] w (TdPost (.bool (nameB (d s))) w) := by
  by_cases hl0 : s.size = 0
  · have HF : Hid (nameB (d s) = false) := Lib.hid (by unfold nameB; rw [decide_eq_false (by simp; omega)]; rfl)
    have hz : (s.size : Int) = 0 := by omega
    clear hl0
    go_enter Tryz.func206, Tryz.ntmps206
    go_wp2
    go_ret
    exact ⟨ret_bool HF.out.symm, Below.refl _ _⟩
  have hz : ((s.size : Int) == 0) = false := beq_eq_false_iff_ne.2 (by omega)
  have hp0 : 0 < s.size := by omega
  by_cases hl1 : 128 < s.size
  · have HF : Hid (nameB (d s) = false) := Lib.hid (by unfold nameB; rw [decide_eq_false (by simp; omega)]; rfl)
    have hg : decide (128 < (s.size : Int)) = true := by simp; omega
    clear hl0
    go_enter Tryz.func206, Tryz.ntmps206
    go_wp2
    go_ret
    exact ⟨ret_bool HF.out.symm, Below.refl _ _⟩
  have hg : decide (128 < (s.size : Int)) = false := by simp; omega
  have HB : Hid (nameB (d s) = nameGo 0 (d s)) := Lib.hid (nameB_at (by omega) (by omega))
  have hc0 : s[0].toNat < 256 := s[0].toNat_lt
  by_cases hd0 : 48 ≤ s[0].toNat ∧ s[0].toNat ≤ 57
  · obtain ⟨g1, g2⟩ := hd0
    have HF : Hid (nameB (d s) = false) := Lib.hid (by
      have h := name_step s (k := 0) hp0
      rw [List.drop_zero] at h
      have h1 : let_ s[0].toNat = false := by unfold let_; simp; omega
      rw [HB.out, h, h1]
      rfl)
    have b1 : decide ((48 : Int) ≤ (s[0].toNat : Int)) = true := by simp; omega
    have b2 : decide ((s[0].toNat : Int) ≤ (57 : Int)) = true := by simp; omega
    clear hl0 hl1 g1 g2
    go_enter Tryz.func206, Tryz.ntmps206
    go_wp2
    go_ret
    exact ⟨ret_bool HF.out.symm, Below.refl _ _⟩
  have HD0 := Lib.hid hd0
  have ENT : Hid (s[0].toNat < 48 ∨ (48 ≤ s[0].toNat ∧ 57 < s[0].toNat)) := Lib.hid (by omega)
  have hs128 : s.size ≤ 128 := by omega
  clear hl0 hl1 hd0
  rcases ENT.out with e1 | ⟨e1, e2⟩
  · have c1 : decide ((48 : Int) ≤ (s[0].toNat : Int)) = false := by simp; omega
    have c2 : decide ((s[0].toNat : Int) ≤ (57 : Int)) = true := by simp; omega
    clear e1
    go_enter Tryz.func206, Tryz.ntmps206
    go_wp2
    go_loopw [5] (fun i wr => ∃ k : Nat, k ≤ s.size ∧ i = .int .i64 k ∧ nameGo 0 (d s) = nameGo k ((d s).drop k) ∧ Below w.heap.size w wr) (fun i _ => s.size - (intOf i).toNat)
    case atStart => exact ⟨0, Nat.zero_le _, rfl, rfl, Below.refl _ _⟩
    case round =>
      obtain ⟨k, hk, rfl, hv, hb⟩ := hrel
      have HV := Lib.hid (And.intro hv hb)
      clear hv hb c1 c2
      by_cases hlt : k < s.size
      · have HS := Lib.hid (name_step s hlt)
        have hc : s[k].toNat < 256 := s[k].toNat_lt
        have HD : Hid (dig s[k].toNat = true → 1 ≤ k) := Lib.hid (fun h => by
          rcases Nat.eq_zero_or_pos k with h0 | h0
          · subst h0
            unfold dig at h
            exact absurd (by simpa using h) HD0.out
          · exact h0)
        have YES : Hid (let_ s[k].toNat = true ∨ dig s[k].toNat = true → nameGo 0 (d s) = nameGo (k + 1) ((d s).drop (k + 1))) := Lib.hid (fun h => by
          rw [HV.out.1, HS.out]
          rcases h with h | h
          · rw [h]; rfl
          · rw [decide_eq_true (HD.out h), h]; simp)
        have NO : Hid (let_ s[k].toNat = false → dig s[k].toNat = false → nameB (d s) = false) := Lib.hid (fun h h' => by
          rw [HB.out, HV.out.1, HS.out, h, h']
          simp)
        clear HS HD
        rcases (show (97 ≤ s[k].toNat ∧ s[k].toNat ≤ 122) ∨ (65 ≤ s[k].toNat ∧ s[k].toNat ≤ 90) ∨ (48 ≤ s[k].toNat ∧ s[k].toNat ≤ 57) ∨ (95 ≤ s[k].toNat ∧ s[k].toNat ≤ 95) ∨ (0 ≤ s[k].toNat ∧ s[k].toNat < 48) ∨ (58 ≤ s[k].toNat ∧ s[k].toNat ≤ 58) ∨ (59 ≤ s[k].toNat ∧ s[k].toNat ≤ 64) ∨ (91 ≤ s[k].toNat ∧ s[k].toNat ≤ 94) ∨ (96 ≤ s[k].toNat ∧ s[k].toNat ≤ 96) ∨ (123 ≤ s[k].toNat ∧ s[k].toNat < 256) by omega) with ⟨g1, g2⟩ | ⟨g1, g2⟩ | ⟨g1, g2⟩ | ⟨g1, g2⟩ | ⟨g1, g2⟩ | ⟨g1, g2⟩ | ⟨g1, g2⟩ | ⟨g1, g2⟩ | ⟨g1, g2⟩ | ⟨g1, g2⟩
        · have b97 : decide (97 ≤ (s[k].toNat : Int)) = true := by simp; omega
          have b122 : decide ((s[k].toNat : Int) ≤ 122) = true := by simp; omega
          have b65 : decide (65 ≤ (s[k].toNat : Int)) = true := by simp; omega
          have b90 : decide ((s[k].toNat : Int) ≤ 90) = false := by simp; omega
          have b48 : decide (48 ≤ (s[k].toNat : Int)) = true := by simp; omega
          have b57 : decide ((s[k].toNat : Int) ≤ 57) = false := by simp; omega
          have n95 : ((s[k].toNat : Int) == 95) = false := by simp; omega
          have n58 : ((s[k].toNat : Int) == 58) = false := by simp; omega
          have m58 : ¬ ((s[k].toNat : Int) = 58) := by omega
          have m95 : ¬ ((s[k].toNat : Int) = 95) := by omega
          have HY := Lib.hid (YES.out (.inl (by unfold let_; simp; omega)))
          have HBW := Lib.hid HV.out.2
          clear YES NO HV g1 g2
          go_wp2_with fail
          go_quiet (fail)
          go_wp2
          go_roundw
          case rel => exact ⟨k + 1, by omega, by go_num, HY.out, below_drewN HBW.out _⟩
          case measure => simp [intOf]; omega
        · have b97 : decide (97 ≤ (s[k].toNat : Int)) = false := by simp; omega
          have b122 : decide ((s[k].toNat : Int) ≤ 122) = true := by simp; omega
          have b65 : decide (65 ≤ (s[k].toNat : Int)) = true := by simp; omega
          have b90 : decide ((s[k].toNat : Int) ≤ 90) = true := by simp; omega
          have b48 : decide (48 ≤ (s[k].toNat : Int)) = true := by simp; omega
          have b57 : decide ((s[k].toNat : Int) ≤ 57) = false := by simp; omega
          have n95 : ((s[k].toNat : Int) == 95) = false := by simp; omega
          have n58 : ((s[k].toNat : Int) == 58) = false := by simp; omega
          have m58 : ¬ ((s[k].toNat : Int) = 58) := by omega
          have m95 : ¬ ((s[k].toNat : Int) = 95) := by omega
          have HY := Lib.hid (YES.out (.inl (by unfold let_; simp; omega)))
          have HBW := Lib.hid HV.out.2
          clear YES NO HV g1 g2
          go_wp2_with fail
          go_quiet (fail)
          go_wp2
          go_roundw
          case rel => exact ⟨k + 1, by omega, by go_num, HY.out, below_drewN HBW.out _⟩
          case measure => simp [intOf]; omega
        · have b97 : decide (97 ≤ (s[k].toNat : Int)) = false := by simp; omega
          have b122 : decide ((s[k].toNat : Int) ≤ 122) = true := by simp; omega
          have b65 : decide (65 ≤ (s[k].toNat : Int)) = false := by simp; omega
          have b90 : decide ((s[k].toNat : Int) ≤ 90) = true := by simp; omega
          have b48 : decide (48 ≤ (s[k].toNat : Int)) = true := by simp; omega
          have b57 : decide ((s[k].toNat : Int) ≤ 57) = true := by simp; omega
          have n95 : ((s[k].toNat : Int) == 95) = false := by simp; omega
          have n58 : ((s[k].toNat : Int) == 58) = false := by simp; omega
          have m58 : ¬ ((s[k].toNat : Int) = 58) := by omega
          have m95 : ¬ ((s[k].toNat : Int) = 95) := by omega
          have HY := Lib.hid (YES.out (.inr (by unfold dig; simp; omega)))
          have HBW := Lib.hid HV.out.2
          clear YES NO HV g1 g2
          go_wp2_with fail
          go_quiet (fail)
          go_wp2
          go_roundw
          case rel => exact ⟨k + 1, by omega, by go_num, HY.out, below_drewN HBW.out _⟩
          case measure => simp [intOf]; omega
        · have b97 : decide (97 ≤ (s[k].toNat : Int)) = false := by simp; omega
          have b122 : decide ((s[k].toNat : Int) ≤ 122) = true := by simp; omega
          have b65 : decide (65 ≤ (s[k].toNat : Int)) = true := by simp; omega
          have b90 : decide ((s[k].toNat : Int) ≤ 90) = false := by simp; omega
          have b48 : decide (48 ≤ (s[k].toNat : Int)) = true := by simp; omega
          have b57 : decide ((s[k].toNat : Int) ≤ 57) = false := by simp; omega
          have n95 : ((s[k].toNat : Int) == 95) = true := by simp; omega
          have n58 : ((s[k].toNat : Int) == 58) = false := by simp; omega
          have hnum : s[k].toNat = 95 := by omega
          have HY := Lib.hid (YES.out (.inl (by unfold let_; simp; omega)))
          have HBW := Lib.hid HV.out.2
          clear YES NO HV g1 g2
          go_wp2_with fail
          go_quiet (fail)
          go_wp2
          go_roundw
          case rel => exact ⟨k + 1, by omega, by go_num, HY.out, below_drewN HBW.out _⟩
          case measure => simp [intOf]; omega
        · have b97 : decide (97 ≤ (s[k].toNat : Int)) = false := by simp; omega
          have b122 : decide ((s[k].toNat : Int) ≤ 122) = true := by simp; omega
          have b65 : decide (65 ≤ (s[k].toNat : Int)) = false := by simp; omega
          have b90 : decide ((s[k].toNat : Int) ≤ 90) = true := by simp; omega
          have b48 : decide (48 ≤ (s[k].toNat : Int)) = false := by simp; omega
          have b57 : decide ((s[k].toNat : Int) ≤ 57) = true := by simp; omega
          have n95 : ((s[k].toNat : Int) == 95) = false := by simp; omega
          have n58 : ((s[k].toNat : Int) == 58) = false := by simp; omega
          have m58 : ¬ ((s[k].toNat : Int) = 58) := by omega
          have m95 : ¬ ((s[k].toNat : Int) = 95) := by omega
          have HN := Lib.hid (NO.out (by unfold let_; simp; omega) (by unfold dig; simp; omega))
          have HBW := Lib.hid HV.out.2
          clear YES NO HV g1 g2
          go_wp2_with fail
          go_quiet (fail)
          go_wp2
          go_ret
          exact ⟨ret_bool HN.out.symm, below_drewN HBW.out _⟩
        · have b97 : decide (97 ≤ (s[k].toNat : Int)) = false := by simp; omega
          have b122 : decide ((s[k].toNat : Int) ≤ 122) = true := by simp; omega
          have b65 : decide (65 ≤ (s[k].toNat : Int)) = false := by simp; omega
          have b90 : decide ((s[k].toNat : Int) ≤ 90) = true := by simp; omega
          have b48 : decide (48 ≤ (s[k].toNat : Int)) = true := by simp; omega
          have b57 : decide ((s[k].toNat : Int) ≤ 57) = false := by simp; omega
          have n95 : ((s[k].toNat : Int) == 95) = false := by simp; omega
          have n58 : ((s[k].toNat : Int) == 58) = true := by simp; omega
          have hnum : s[k].toNat = 58 := by omega
          have HN := Lib.hid (NO.out (by unfold let_; simp; omega) (by unfold dig; simp; omega))
          have HBW := Lib.hid HV.out.2
          clear YES NO HV g1 g2
          go_wp2_with fail
          go_quiet (fail)
          go_wp2
          go_ret
          exact ⟨ret_bool HN.out.symm, below_drewN HBW.out _⟩
        · have b97 : decide (97 ≤ (s[k].toNat : Int)) = false := by simp; omega
          have b122 : decide ((s[k].toNat : Int) ≤ 122) = true := by simp; omega
          have b65 : decide (65 ≤ (s[k].toNat : Int)) = false := by simp; omega
          have b90 : decide ((s[k].toNat : Int) ≤ 90) = true := by simp; omega
          have b48 : decide (48 ≤ (s[k].toNat : Int)) = true := by simp; omega
          have b57 : decide ((s[k].toNat : Int) ≤ 57) = false := by simp; omega
          have n95 : ((s[k].toNat : Int) == 95) = false := by simp; omega
          have n58 : ((s[k].toNat : Int) == 58) = false := by simp; omega
          have m58 : ¬ ((s[k].toNat : Int) = 58) := by omega
          have m95 : ¬ ((s[k].toNat : Int) = 95) := by omega
          have HN := Lib.hid (NO.out (by unfold let_; simp; omega) (by unfold dig; simp; omega))
          have HBW := Lib.hid HV.out.2
          clear YES NO HV g1 g2
          go_wp2_with fail
          go_quiet (fail)
          go_wp2
          go_ret
          exact ⟨ret_bool HN.out.symm, below_drewN HBW.out _⟩
        · have b97 : decide (97 ≤ (s[k].toNat : Int)) = false := by simp; omega
          have b122 : decide ((s[k].toNat : Int) ≤ 122) = true := by simp; omega
          have b65 : decide (65 ≤ (s[k].toNat : Int)) = true := by simp; omega
          have b90 : decide ((s[k].toNat : Int) ≤ 90) = false := by simp; omega
          have b48 : decide (48 ≤ (s[k].toNat : Int)) = true := by simp; omega
          have b57 : decide ((s[k].toNat : Int) ≤ 57) = false := by simp; omega
          have n95 : ((s[k].toNat : Int) == 95) = false := by simp; omega
          have n58 : ((s[k].toNat : Int) == 58) = false := by simp; omega
          have m58 : ¬ ((s[k].toNat : Int) = 58) := by omega
          have m95 : ¬ ((s[k].toNat : Int) = 95) := by omega
          have HN := Lib.hid (NO.out (by unfold let_; simp; omega) (by unfold dig; simp; omega))
          have HBW := Lib.hid HV.out.2
          clear YES NO HV g1 g2
          go_wp2_with fail
          go_quiet (fail)
          go_wp2
          go_ret
          exact ⟨ret_bool HN.out.symm, below_drewN HBW.out _⟩
        · have b97 : decide (97 ≤ (s[k].toNat : Int)) = false := by simp; omega
          have b122 : decide ((s[k].toNat : Int) ≤ 122) = true := by simp; omega
          have b65 : decide (65 ≤ (s[k].toNat : Int)) = true := by simp; omega
          have b90 : decide ((s[k].toNat : Int) ≤ 90) = false := by simp; omega
          have b48 : decide (48 ≤ (s[k].toNat : Int)) = true := by simp; omega
          have b57 : decide ((s[k].toNat : Int) ≤ 57) = false := by simp; omega
          have n95 : ((s[k].toNat : Int) == 95) = false := by simp; omega
          have n58 : ((s[k].toNat : Int) == 58) = false := by simp; omega
          have hnum : s[k].toNat = 96 := by omega
          have HN := Lib.hid (NO.out (by unfold let_; simp; omega) (by unfold dig; simp; omega))
          have HBW := Lib.hid HV.out.2
          clear YES NO HV g1 g2
          go_wp2_with fail
          go_quiet (fail)
          go_wp2
          go_ret
          exact ⟨ret_bool HN.out.symm, below_drewN HBW.out _⟩
        · have b97 : decide (97 ≤ (s[k].toNat : Int)) = true := by simp; omega
          have b122 : decide ((s[k].toNat : Int) ≤ 122) = false := by simp; omega
          have b65 : decide (65 ≤ (s[k].toNat : Int)) = true := by simp; omega
          have b90 : decide ((s[k].toNat : Int) ≤ 90) = false := by simp; omega
          have b48 : decide (48 ≤ (s[k].toNat : Int)) = true := by simp; omega
          have b57 : decide ((s[k].toNat : Int) ≤ 57) = false := by simp; omega
          have n95 : ((s[k].toNat : Int) == 95) = false := by simp; omega
          have n58 : ((s[k].toNat : Int) == 58) = false := by simp; omega
          have m58 : ¬ ((s[k].toNat : Int) = 58) := by omega
          have m95 : ¬ ((s[k].toNat : Int) = 95) := by omega
          have HN := Lib.hid (NO.out (by unfold let_; simp; omega) (by unfold dig; simp; omega))
          have HBW := Lib.hid HV.out.2
          clear YES NO HV g1 g2
          go_wp2_with fail
          go_quiet (fail)
          go_wp2
          go_ret
          exact ⟨ret_bool HN.out.symm, below_drewN HBW.out _⟩
      · have HF : Hid (nameB (d s) = true) := Lib.hid (by rw [HB.out, HV.out.1, List.drop_eq_nil_of_le (by simpa using hlt)]; rfl)
        have HBW := Lib.hid HV.out.2
        clear HV
        go_wp2
        go_ret
        exact ⟨ret_bool HF.out.symm, HBW.out⟩
  · have c1 : decide ((48 : Int) ≤ (s[0].toNat : Int)) = true := by simp; omega
    have c2 : decide ((s[0].toNat : Int) ≤ (57 : Int)) = false := by simp; omega
    clear e1 e2
    go_enter Tryz.func206, Tryz.ntmps206
    go_wp2
    go_loopw [5] (fun i wr => ∃ k : Nat, k ≤ s.size ∧ i = .int .i64 k ∧ nameGo 0 (d s) = nameGo k ((d s).drop k) ∧ Below w.heap.size w wr) (fun i _ => s.size - (intOf i).toNat)
    case atStart => exact ⟨0, Nat.zero_le _, rfl, rfl, Below.refl _ _⟩
    case round =>
      obtain ⟨k, hk, rfl, hv, hb⟩ := hrel
      have HV := Lib.hid (And.intro hv hb)
      clear hv hb c1 c2
      by_cases hlt : k < s.size
      · have HS := Lib.hid (name_step s hlt)
        have hc : s[k].toNat < 256 := s[k].toNat_lt
        have HD : Hid (dig s[k].toNat = true → 1 ≤ k) := Lib.hid (fun h => by
          rcases Nat.eq_zero_or_pos k with h0 | h0
          · subst h0
            unfold dig at h
            exact absurd (by simpa using h) HD0.out
          · exact h0)
        have YES : Hid (let_ s[k].toNat = true ∨ dig s[k].toNat = true → nameGo 0 (d s) = nameGo (k + 1) ((d s).drop (k + 1))) := Lib.hid (fun h => by
          rw [HV.out.1, HS.out]
          rcases h with h | h
          · rw [h]; rfl
          · rw [decide_eq_true (HD.out h), h]; simp)
        have NO : Hid (let_ s[k].toNat = false → dig s[k].toNat = false → nameB (d s) = false) := Lib.hid (fun h h' => by
          rw [HB.out, HV.out.1, HS.out, h, h']
          simp)
        clear HS HD
        rcases (show (97 ≤ s[k].toNat ∧ s[k].toNat ≤ 122) ∨ (65 ≤ s[k].toNat ∧ s[k].toNat ≤ 90) ∨ (48 ≤ s[k].toNat ∧ s[k].toNat ≤ 57) ∨ (95 ≤ s[k].toNat ∧ s[k].toNat ≤ 95) ∨ (0 ≤ s[k].toNat ∧ s[k].toNat < 48) ∨ (58 ≤ s[k].toNat ∧ s[k].toNat ≤ 58) ∨ (59 ≤ s[k].toNat ∧ s[k].toNat ≤ 64) ∨ (91 ≤ s[k].toNat ∧ s[k].toNat ≤ 94) ∨ (96 ≤ s[k].toNat ∧ s[k].toNat ≤ 96) ∨ (123 ≤ s[k].toNat ∧ s[k].toNat < 256) by omega) with ⟨g1, g2⟩ | ⟨g1, g2⟩ | ⟨g1, g2⟩ | ⟨g1, g2⟩ | ⟨g1, g2⟩ | ⟨g1, g2⟩ | ⟨g1, g2⟩ | ⟨g1, g2⟩ | ⟨g1, g2⟩ | ⟨g1, g2⟩
        · have b97 : decide (97 ≤ (s[k].toNat : Int)) = true := by simp; omega
          have b122 : decide ((s[k].toNat : Int) ≤ 122) = true := by simp; omega
          have b65 : decide (65 ≤ (s[k].toNat : Int)) = true := by simp; omega
          have b90 : decide ((s[k].toNat : Int) ≤ 90) = false := by simp; omega
          have b48 : decide (48 ≤ (s[k].toNat : Int)) = true := by simp; omega
          have b57 : decide ((s[k].toNat : Int) ≤ 57) = false := by simp; omega
          have n95 : ((s[k].toNat : Int) == 95) = false := by simp; omega
          have n58 : ((s[k].toNat : Int) == 58) = false := by simp; omega
          have m58 : ¬ ((s[k].toNat : Int) = 58) := by omega
          have m95 : ¬ ((s[k].toNat : Int) = 95) := by omega
          have HY := Lib.hid (YES.out (.inl (by unfold let_; simp; omega)))
          have HBW := Lib.hid HV.out.2
          clear YES NO HV g1 g2
          go_wp2_with fail
          go_quiet (fail)
          go_wp2
          go_roundw
          case rel => exact ⟨k + 1, by omega, by go_num, HY.out, below_drewN HBW.out _⟩
          case measure => simp [intOf]; omega
        · have b97 : decide (97 ≤ (s[k].toNat : Int)) = false := by simp; omega
          have b122 : decide ((s[k].toNat : Int) ≤ 122) = true := by simp; omega
          have b65 : decide (65 ≤ (s[k].toNat : Int)) = true := by simp; omega
          have b90 : decide ((s[k].toNat : Int) ≤ 90) = true := by simp; omega
          have b48 : decide (48 ≤ (s[k].toNat : Int)) = true := by simp; omega
          have b57 : decide ((s[k].toNat : Int) ≤ 57) = false := by simp; omega
          have n95 : ((s[k].toNat : Int) == 95) = false := by simp; omega
          have n58 : ((s[k].toNat : Int) == 58) = false := by simp; omega
          have m58 : ¬ ((s[k].toNat : Int) = 58) := by omega
          have m95 : ¬ ((s[k].toNat : Int) = 95) := by omega
          have HY := Lib.hid (YES.out (.inl (by unfold let_; simp; omega)))
          have HBW := Lib.hid HV.out.2
          clear YES NO HV g1 g2
          go_wp2_with fail
          go_quiet (fail)
          go_wp2
          go_roundw
          case rel => exact ⟨k + 1, by omega, by go_num, HY.out, below_drewN HBW.out _⟩
          case measure => simp [intOf]; omega
        · have b97 : decide (97 ≤ (s[k].toNat : Int)) = false := by simp; omega
          have b122 : decide ((s[k].toNat : Int) ≤ 122) = true := by simp; omega
          have b65 : decide (65 ≤ (s[k].toNat : Int)) = false := by simp; omega
          have b90 : decide ((s[k].toNat : Int) ≤ 90) = true := by simp; omega
          have b48 : decide (48 ≤ (s[k].toNat : Int)) = true := by simp; omega
          have b57 : decide ((s[k].toNat : Int) ≤ 57) = true := by simp; omega
          have n95 : ((s[k].toNat : Int) == 95) = false := by simp; omega
          have n58 : ((s[k].toNat : Int) == 58) = false := by simp; omega
          have m58 : ¬ ((s[k].toNat : Int) = 58) := by omega
          have m95 : ¬ ((s[k].toNat : Int) = 95) := by omega
          have HY := Lib.hid (YES.out (.inr (by unfold dig; simp; omega)))
          have HBW := Lib.hid HV.out.2
          clear YES NO HV g1 g2
          go_wp2_with fail
          go_quiet (fail)
          go_wp2
          go_roundw
          case rel => exact ⟨k + 1, by omega, by go_num, HY.out, below_drewN HBW.out _⟩
          case measure => simp [intOf]; omega
        · have b97 : decide (97 ≤ (s[k].toNat : Int)) = false := by simp; omega
          have b122 : decide ((s[k].toNat : Int) ≤ 122) = true := by simp; omega
          have b65 : decide (65 ≤ (s[k].toNat : Int)) = true := by simp; omega
          have b90 : decide ((s[k].toNat : Int) ≤ 90) = false := by simp; omega
          have b48 : decide (48 ≤ (s[k].toNat : Int)) = true := by simp; omega
          have b57 : decide ((s[k].toNat : Int) ≤ 57) = false := by simp; omega
          have n95 : ((s[k].toNat : Int) == 95) = true := by simp; omega
          have n58 : ((s[k].toNat : Int) == 58) = false := by simp; omega
          have hnum : s[k].toNat = 95 := by omega
          have HY := Lib.hid (YES.out (.inl (by unfold let_; simp; omega)))
          have HBW := Lib.hid HV.out.2
          clear YES NO HV g1 g2
          go_wp2_with fail
          go_quiet (fail)
          go_wp2
          go_roundw
          case rel => exact ⟨k + 1, by omega, by go_num, HY.out, below_drewN HBW.out _⟩
          case measure => simp [intOf]; omega
        · have b97 : decide (97 ≤ (s[k].toNat : Int)) = false := by simp; omega
          have b122 : decide ((s[k].toNat : Int) ≤ 122) = true := by simp; omega
          have b65 : decide (65 ≤ (s[k].toNat : Int)) = false := by simp; omega
          have b90 : decide ((s[k].toNat : Int) ≤ 90) = true := by simp; omega
          have b48 : decide (48 ≤ (s[k].toNat : Int)) = false := by simp; omega
          have b57 : decide ((s[k].toNat : Int) ≤ 57) = true := by simp; omega
          have n95 : ((s[k].toNat : Int) == 95) = false := by simp; omega
          have n58 : ((s[k].toNat : Int) == 58) = false := by simp; omega
          have m58 : ¬ ((s[k].toNat : Int) = 58) := by omega
          have m95 : ¬ ((s[k].toNat : Int) = 95) := by omega
          have HN := Lib.hid (NO.out (by unfold let_; simp; omega) (by unfold dig; simp; omega))
          have HBW := Lib.hid HV.out.2
          clear YES NO HV g1 g2
          go_wp2_with fail
          go_quiet (fail)
          go_wp2
          go_ret
          exact ⟨ret_bool HN.out.symm, below_drewN HBW.out _⟩
        · have b97 : decide (97 ≤ (s[k].toNat : Int)) = false := by simp; omega
          have b122 : decide ((s[k].toNat : Int) ≤ 122) = true := by simp; omega
          have b65 : decide (65 ≤ (s[k].toNat : Int)) = false := by simp; omega
          have b90 : decide ((s[k].toNat : Int) ≤ 90) = true := by simp; omega
          have b48 : decide (48 ≤ (s[k].toNat : Int)) = true := by simp; omega
          have b57 : decide ((s[k].toNat : Int) ≤ 57) = false := by simp; omega
          have n95 : ((s[k].toNat : Int) == 95) = false := by simp; omega
          have n58 : ((s[k].toNat : Int) == 58) = true := by simp; omega
          have hnum : s[k].toNat = 58 := by omega
          have HN := Lib.hid (NO.out (by unfold let_; simp; omega) (by unfold dig; simp; omega))
          have HBW := Lib.hid HV.out.2
          clear YES NO HV g1 g2
          go_wp2_with fail
          go_quiet (fail)
          go_wp2
          go_ret
          exact ⟨ret_bool HN.out.symm, below_drewN HBW.out _⟩
        · have b97 : decide (97 ≤ (s[k].toNat : Int)) = false := by simp; omega
          have b122 : decide ((s[k].toNat : Int) ≤ 122) = true := by simp; omega
          have b65 : decide (65 ≤ (s[k].toNat : Int)) = false := by simp; omega
          have b90 : decide ((s[k].toNat : Int) ≤ 90) = true := by simp; omega
          have b48 : decide (48 ≤ (s[k].toNat : Int)) = true := by simp; omega
          have b57 : decide ((s[k].toNat : Int) ≤ 57) = false := by simp; omega
          have n95 : ((s[k].toNat : Int) == 95) = false := by simp; omega
          have n58 : ((s[k].toNat : Int) == 58) = false := by simp; omega
          have m58 : ¬ ((s[k].toNat : Int) = 58) := by omega
          have m95 : ¬ ((s[k].toNat : Int) = 95) := by omega
          have HN := Lib.hid (NO.out (by unfold let_; simp; omega) (by unfold dig; simp; omega))
          have HBW := Lib.hid HV.out.2
          clear YES NO HV g1 g2
          go_wp2_with fail
          go_quiet (fail)
          go_wp2
          go_ret
          exact ⟨ret_bool HN.out.symm, below_drewN HBW.out _⟩
        · have b97 : decide (97 ≤ (s[k].toNat : Int)) = false := by simp; omega
          have b122 : decide ((s[k].toNat : Int) ≤ 122) = true := by simp; omega
          have b65 : decide (65 ≤ (s[k].toNat : Int)) = true := by simp; omega
          have b90 : decide ((s[k].toNat : Int) ≤ 90) = false := by simp; omega
          have b48 : decide (48 ≤ (s[k].toNat : Int)) = true := by simp; omega
          have b57 : decide ((s[k].toNat : Int) ≤ 57) = false := by simp; omega
          have n95 : ((s[k].toNat : Int) == 95) = false := by simp; omega
          have n58 : ((s[k].toNat : Int) == 58) = false := by simp; omega
          have m58 : ¬ ((s[k].toNat : Int) = 58) := by omega
          have m95 : ¬ ((s[k].toNat : Int) = 95) := by omega
          have HN := Lib.hid (NO.out (by unfold let_; simp; omega) (by unfold dig; simp; omega))
          have HBW := Lib.hid HV.out.2
          clear YES NO HV g1 g2
          go_wp2_with fail
          go_quiet (fail)
          go_wp2
          go_ret
          exact ⟨ret_bool HN.out.symm, below_drewN HBW.out _⟩
        · have b97 : decide (97 ≤ (s[k].toNat : Int)) = false := by simp; omega
          have b122 : decide ((s[k].toNat : Int) ≤ 122) = true := by simp; omega
          have b65 : decide (65 ≤ (s[k].toNat : Int)) = true := by simp; omega
          have b90 : decide ((s[k].toNat : Int) ≤ 90) = false := by simp; omega
          have b48 : decide (48 ≤ (s[k].toNat : Int)) = true := by simp; omega
          have b57 : decide ((s[k].toNat : Int) ≤ 57) = false := by simp; omega
          have n95 : ((s[k].toNat : Int) == 95) = false := by simp; omega
          have n58 : ((s[k].toNat : Int) == 58) = false := by simp; omega
          have hnum : s[k].toNat = 96 := by omega
          have HN := Lib.hid (NO.out (by unfold let_; simp; omega) (by unfold dig; simp; omega))
          have HBW := Lib.hid HV.out.2
          clear YES NO HV g1 g2
          go_wp2_with fail
          go_quiet (fail)
          go_wp2
          go_ret
          exact ⟨ret_bool HN.out.symm, below_drewN HBW.out _⟩
        · have b97 : decide (97 ≤ (s[k].toNat : Int)) = true := by simp; omega
          have b122 : decide ((s[k].toNat : Int) ≤ 122) = false := by simp; omega
          have b65 : decide (65 ≤ (s[k].toNat : Int)) = true := by simp; omega
          have b90 : decide ((s[k].toNat : Int) ≤ 90) = false := by simp; omega
          have b48 : decide (48 ≤ (s[k].toNat : Int)) = true := by simp; omega
          have b57 : decide ((s[k].toNat : Int) ≤ 57) = false := by simp; omega
          have n95 : ((s[k].toNat : Int) == 95) = false := by simp; omega
          have n58 : ((s[k].toNat : Int) == 58) = false := by simp; omega
          have m58 : ¬ ((s[k].toNat : Int) = 58) := by omega
          have m95 : ¬ ((s[k].toNat : Int) = 95) := by omega
          have HN := Lib.hid (NO.out (by unfold let_; simp; omega) (by unfold dig; simp; omega))
          have HBW := Lib.hid HV.out.2
          clear YES NO HV g1 g2
          go_wp2_with fail
          go_quiet (fail)
          go_wp2
          go_ret
          exact ⟨ret_bool HN.out.symm, below_drewN HBW.out _⟩
      · have HF : Hid (nameB (d s) = true) := Lib.hid (by rw [HB.out, HV.out.1, List.drop_eq_nil_of_le (by simpa using hlt)]; rfl)
        have HBW := Lib.hid HV.out.2
        clear HV
        go_wp2
        go_ret
        exact ⟨ret_bool HF.out.symm, HBW.out⟩
end Go.Proofs.YtdgfldeeflmnmaaGreatDoor.Sk
namespace Go.Proofs.YtdgfldeeflmnmaaGreatDoor.Sk
open Go Go.RowKit
set_option maxRecDepth 100000 in
theorem rvalueG_calls (s : ByteArray) (w : World) (hs : s.size ≤ 4611686018427387904) : Calls Tryz.prog 207 #[.string s] w (TdPost (.bool (valueB (d s))) w) := by
  by_cases h : s.size ≤ 1024
  · have HF : Hid (valueB (d s) = valid (d s)) := Lib.hid (by unfold valueB; rw [decide_eq_true (by simpa using h)]; rfl)
    have hg : decide (1024 < (s.size : Int)) = false := by simp; omega
    go_enter Tryz.func207, Tryz.ntmps207
    go_wp2_with fail
    go_at_call 156
    refine (rcheckU_calls s _ hs).mono ?_
    rintro e w' ⟨⟨k, er, rfl, he⟩, hb⟩
    have HE := Lib.hid (And.intro he hb)
    clear he hb
    go_wp2
    go_ret
    exact ⟨ret_bool (by rw [HF.out, ← HE.out.1]), HE.out.2⟩
  · have HF : Hid (valueB (d s) = false) := Lib.hid (by unfold valueB; rw [decide_eq_false (by simpa using h)]; rfl)
    have hg : decide (1024 < (s.size : Int)) = true := by simp; omega
    clear h
    go_enter Tryz.func207, Tryz.ntmps207
    go_wp2
    go_ret
    exact ⟨ret_bool HF.out.symm, Below.refl _ _⟩
set_option maxRecDepth 100000 in
theorem rwrongG_calls (n v : ByteArray) (w : World) (hs : v.size ≤ 4611686018427387904) : Calls Tryz.prog 183 #[.agg #[.string n, .string v]] w fun e w' => (∃ er : Int, e = .returned (.int .i64 er) ∧ ((er == 0) = (nameB (d n) && valueB (d v)))) ∧ Below w.heap.size w w' := by
  go_enter Tryz.func183, Tryz.ntmps183
  go_wp2_with fail
  go_at_call 206
  refine (rnameG_calls n _).mono ?_
  rintro e w1 ⟨rfl, hb⟩
  have c1 : w1.cell? ⟨w.heap.size, 1, none⟩ = some (.string v) := by
    rw [hb.cell (p := ⟨w.heap.size, 1, none⟩) (by simp)]
    exact new_cell _ _ _ 1 _ rfl
  have l1 : w.heap.size < w1.heap.size := by have := hb.size; simp at this; omega
  have HB : Hid (Below w.heap.size w w1) := Lib.hid (((Below.refl _ _).alloc (Nat.le_refl _) _).trans (hb.mono (by simp)))
  clear hb
  cases hn : nameB (d n) with
  | false =>
    go_wp2
    go_ret
    exact ⟨⟨40, rfl, by rw [hn]; rfl⟩, HB.out⟩
  | true =>
    go_wp2_with fail
    go_at_call 207
    refine (rvalueG_calls v _ hs).mono ?_
    rintro e w2 ⟨rfl, hb2⟩
    have HB2 := Lib.hid (Bthen HB.out hb2)
    clear hb2
    cases hv : valueB (d v) with
    | false =>
      go_wp2
      go_ret
      exact ⟨⟨41, rfl, by rw [hn, hv]; rfl⟩, HB2.out⟩
    | true =>
      go_wp2
      go_ret
      exact ⟨⟨0, rfl, by rw [hn, hv]; rfl⟩, HB2.out⟩
/-- what draws alone -/
def DrPost (v : Value) (w : World) (e : Ending) (w' : World) : Prop := e = .returned v ∧ ∃ n, w' = w.drewN n
set_option maxRecDepth 100000 in
set_option maxHeartbeats 4000000 in
theorem rless_calls (a b : ByteArray) (w : World) (ha : a.size ≤ 4611686018427387904) (_hb : b.size ≤ 4611686018427387904) : Calls Tryz.prog 181 #[.string a, .string b] w (DrPost (.bool (decide (d a < d b))) w) := by
  go_enter Tryz.func181, Tryz.ntmps181
  go_wp2_with fail
  go_loopw [5] (fun i wr => ∃ k : Nat, k ≤ a.size ∧ k ≤ b.size ∧ i = .int .i64 k ∧ (d a).take k = (d b).take k ∧ ∃ n, wr = w.drewN n) (fun i _ => a.size - (intOf i).toNat)
  case atStart => exact ⟨0, Nat.zero_le _, Nat.zero_le _, rfl, rfl, 0, rfl⟩
  case round =>
    obtain ⟨k, hka, hkb, rfl, he, n, hw⟩ := hrel
    have HE := Lib.hid (And.intro he hw)
    obtain ⟨w1, hw1⟩ : ∃ q, q = wr := ⟨_, rfl⟩
    subst hw1
    clear he hw
    by_cases hin : k < a.size ∧ k < b.size
    · obtain ⟨h1, h2⟩ := hin
      have f1 : decide (k < a.size) = true := by simp; omega
      have f2 : decide (k < b.size) = true := by simp; omega
      by_cases hc : a[k] = b[k]
      · have hq : ((a[k].toNat : Int) == (b[k].toNat : Int)) = true := by rw [hc]; simp
        have HT : Hid ((d a).take (k + 1) = (d b).take (k + 1)) := Lib.hid (by
          rw [List.take_add_one, List.take_add_one, HE.out.1, data_at a k h1, data_at b k h2, hc])
        clear hc
        go_wp2_with fail
        go_quiet (fail)
        go_wp2
        go_roundw
        case rel => exact ⟨k + 1, h1, h2, by go_num, HT.out, _, by rw [HE.out.2]; exact World.drewN_drewN w _ _⟩
        case measure => simp [intOf]; omega
      · have hne : a[k].toNat ≠ b[k].toNat := fun e => hc (UInt8.toNat_inj.1 e)
        have hq : ((a[k].toNat : Int) == (b[k].toNat : Int)) = false := by simp; omega
        have HS : Hid (decide (d a < d b) = decide (a[k].toNat < b[k].toNat)) := Lib.hid (by rw [lt_step HE.out.1 (data_at a k h1) (data_at b k h2) hc, decide_eq_decide, UInt8.lt_iff_toNat_lt])
        clear hc hne
        go_wp2_with fail
        go_quiet (fail)
        go_wp2_with fail
        go_quiet (fail)
        go_wp2
        go_ret
        exact ⟨ret_bool (by rw [HS.out]), _, by rw [HE.out.2, World.drewN_drewN]; exact World.drewN_drewN w _ _⟩
    · have hend : Hid (decide (k < a.size) = false ∨ (decide (k < a.size) = true ∧ decide (k < b.size) = false)) := Lib.hid (by simp; omega)
      have HS : Hid (decide (d a < d b) = decide (a.size < b.size)) := Lib.hid (lt_end HE.out.1 (by simp; omega) (by simpa using hka) (by simpa using hkb) |>.trans (by simp))
      clear hin
      rcases hend.out with f1 | ⟨f1, f2⟩
      all_goals
        go_wp2
        go_ret
        exact ⟨ret_bool (by rw [HS.out]), n, HE.out.2⟩
def RcPost (l : List Lab) (w : World) (e : Ending) (w' : World) : Prop :=
  (∃ (i er : Int), e = .returned (.tuple #[.int .i64 i, .int .i64 er]) ∧ ((er == 0) = labRight l)) ∧ Below w.heap.size w w'
set_option maxRecDepth 100000 in
set_option maxHeartbeats 4000000 in
theorem rcheckG_calls (a : Option Addr) (cap : Nat) (l : List Lab) (w : World) (h : RdL w a l) (hn : l.length ≤ 1000000000) (hb : ∀ x ∈ l, x.1.size ≤ 4611686018427387904 ∧ x.2.size ≤ 4611686018427387904) :
    Calls Tryz.prog 159 #[.slice a l.length cap] w (RcPost l w) := by
  by_cases hl : l.length ≤ 64
  · have HB : Hid (labRight l = labGo none l) := Lib.hid (by unfold labRight; rw [decide_eq_true hl]; rfl)
    have HS := Lib.hid h
    have HZ := Lib.hid hb
    have hg : decide (64 < (l.length : Int)) = false := by simp; omega
    clear h hb
    go_enter Tryz.func159, Tryz.ntmps159
    go_wp2
    go_loopw [4] (fun i wr => ∃ k : Nat, k ≤ l.length ∧ i = .int .i64 k ∧ labGo none l = labGo (pv l k) (l.drop k) ∧ Below w.heap.size w wr) (fun i _ => l.length - (intOf i).toNat)
    case atStart => exact ⟨0, Nat.zero_le _, rfl, rfl, Below.refl _ _⟩
    case round =>
      obtain ⟨k, hk, rfl, hv, hb⟩ := hrel
      by_cases hlt : k < l.length
      · obtain ⟨b, off, rfl, ht, hc⟩ := HS.out (by intro e; subst e; simp at hlt)
        have hbl := ht
        obtain ⟨x, hx⟩ : ∃ x, l[k]? = some x := ⟨_, List.getElem?_eq_getElem hlt⟩
        obtain ⟨n, v⟩ := x
        have HV := Lib.hid (hv.trans (lab_step hx))
        have hvs := HZ.out _ (List.mem_of_getElem? hx)
        dsimp only at hvs
        obtain ⟨hns, hvs⟩ := hvs
        obtain ⟨c0, c1⟩ := hc k _ hx
        rw [← hb.cell (by exact hbl)] at c0 c1
        dsimp only at c0 c1
        have hbw : b < wr.heap.size := by have := hb.size; omega
        have HC := Lib.hid hc
        clear hv hc hx
        obtain ⟨w0, hw0⟩ : ∃ q, q = wr := ⟨_, rfl⟩
        subst hw0
        have HB0 := Lib.hid hb
        have hb0 := hb.size
        clear hb
        go_wp2_with fail
        go_at_call 183
        refine (rwrongG_calls n v _ hvs).mono ?_
        rintro e w1 ⟨⟨er, rfl, he⟩, hb1⟩
        have d0 : w1.cell? ⟨b, off + k * 2, none⟩ = some (.string n) := (hb1.cell (p := ⟨b, off + k * 2, none⟩) hbw).trans c0
        have d1 : w1.cell? ⟨b, off + k * 2 + 1, none⟩ = some (.string v) := (hb1.cell (p := ⟨b, off + k * 2 + 1, none⟩) hbw).trans c1
        have HBW : Hid (Below w.heap.size w w1) := Lib.hid (HB0.out.trans (hb1.mono hb0))
        have HPR : Hid (∀ j o, j < w.heap.size → w1.cell? ⟨j, o, none⟩ = w.cell? ⟨j, o, none⟩) := Lib.hid (fun j o hj => HBW.out.cell (p := ⟨j, o, none⟩) hj)
        clear hb1 c0 c1
        have FIN : Hid (∀ m, Below w.heap.size w (w1.drewN m)) := Lib.hid (fun m => below_drewN HBW.out m)
        have HE := Lib.hid he
        clear he
        cases hok : nameB (d n) && valueB (d v) with
        | false =>
          have her : (er == 0) = false := HE.out.trans hok
          have HN : Hid (labRight l = false) := Lib.hid (by rw [HB.out, HV.out]; unfold labOk; rw [hok]; rfl)
          have HER := Lib.hid her
          have her2 : (er != 0) = true := by simpa using her
          clear hok
          go_wp2
          go_ret2
          exact ⟨⟨_, _, rfl, by rw [HN.out]; exact HER.out⟩, HBW.out⟩
        | true =>
          obtain rfl : er = 0 := by simpa using HE.out.trans hok
          have HOK := Lib.hid hok
          clear HE hok
          by_cases hv0 : d v = []
          · have HN : Hid (labRight l = false) := Lib.hid (by rw [HB.out, HV.out]; unfold labOk; rw [HOK.out, decide_eq_false (by simpa using hv0)]; rfl)
            have hv1 : v.toList = [] := by rw [ByteArray.toList_eq]; exact hv0
            have hv2 : v.toList.isEmpty = true := by rw [hv1]; rfl
            clear hv0
            go_wp2_with fail
            go_quiet (fail)
            go_wp2
            go_ret2
            exact ⟨⟨_, _, rfl, by rw [HN.out]; rfl⟩, FIN.out _⟩
          · have hv1 : v.toList.isEmpty = false := by
              rw [ByteArray.toList_eq]
              cases hh : v.data.toList with
              | nil => exact absurd hh hv0
              | cons _ _ => rfl
            have HOK2 : Hid (∀ q, labOk q (n, v) = match q with | none => true | some p => decide (d p < d n)) := Lib.hid (fun q => by unfold labOk; rw [HOK.out, decide_eq_true (by simpa using hv0)]; rfl)
            clear hv0
            by_cases hk0 : k = 0
            · have hkd : decide (0 < k) = false := by simp; omega
              have HY : Hid (labGo none l = labGo (pv l (k + 1)) (l.drop (k + 1))) := Lib.hid (by rw [HV.out, HOK2.out]; unfold pv; rw [if_pos hk0]; rfl)
              clear hk0
              go_wp2_with fail
              go_quiet (fail)
              go_wp2
              go_roundw
              case rel => exact ⟨k + 1, by omega, by go_num, HY.out, FIN.out _⟩
              case measure => simp [intOf]; omega
            · have hk1 : 1 ≤ k := by omega
              have hkd : decide (0 < k) = true := by simp; omega
              obtain ⟨y, hy⟩ : ∃ y, l[k - 1]? = some y := ⟨_, List.getElem?_eq_getElem (by omega)⟩
              obtain ⟨pn, pq⟩ := y
              have HPV : Hid (pv l k = some pn) := Lib.hid (by unfold pv; rw [if_neg hk0, hy]; rfl)
              have hps := (HZ.out _ (List.mem_of_getElem? hy)).1
              dsimp only at hps
              have e0 := (HC.out (k - 1) _ hy).1
              rw [← HPR.out _ _ hbl] at e0
              dsimp only at e0
              clear hy hk0
              by_cases hord : d pn < d n
              · have HY : Hid (labGo none l = labGo (pv l (k + 1)) (l.drop (k + 1))) := Lib.hid (by rw [HV.out, HOK2.out, HPV.out]; simp only; rw [decide_eq_true hord]; rfl)
                have HLS : Hid (∀ wx, Calls Tryz.prog 181 #[.string pn, .string n] wx (DrPost (.bool (decide (d pn < d n))) wx)) := Lib.hid (fun wx => rless_calls pn n wx hps hns)
                rw [decide_eq_true hord] at HLS
                clear hord
                go_wp2_with fail
                go_quiet ((go_at_call 181; exact Calls.quiet_of (HLS.out _)))
                go_wp2
                go_roundw
                case rel => exact ⟨k + 1, by omega, by go_num, HY.out, FIN.out _⟩
                case measure => simp [intOf]; omega
              · have HN : Hid (labRight l = false) := Lib.hid (by rw [HB.out, HV.out, HOK2.out, HPV.out]; simp only; rw [decide_eq_false hord]; rfl)
                have HLS : Hid (∀ wx, Calls Tryz.prog 181 #[.string pn, .string n] wx (DrPost (.bool (decide (d pn < d n))) wx)) := Lib.hid (fun wx => rless_calls pn n wx hps hns)
                rw [decide_eq_false hord] at HLS
                clear hord
                go_wp2_with fail
                go_quiet ((go_at_call 181; exact Calls.quiet_of (HLS.out _)))
                go_wp2
                go_ret2
                exact ⟨⟨_, _, rfl, by rw [HN.out]; rfl⟩, FIN.out _⟩
      · have HY : Hid (labRight l = true) := Lib.hid (by rw [HB.out, hv, List.drop_eq_nil_of_le (by omega)]; rfl)
        clear hv
        have HBb := Lib.hid hb
        clear hb
        go_wp2
        go_ret2
        exact ⟨⟨_, _, rfl, by rw [HY.out]; rfl⟩, HBb.out⟩
  · have HN : Hid (labRight l = false) := Lib.hid (by unfold labRight; rw [decide_eq_false hl]; rfl)
    have hg : decide (64 < (l.length : Int)) = true := by simp; omega
    clear h
    go_enter Tryz.func159, Tryz.ntmps159
    go_wp2
    go_ret2
    exact ⟨⟨_, _, rfl, by rw [HN.out]; rfl⟩, Below.refl _ _⟩
set_option maxRecDepth 100000 in
theorem rrightG_calls (a : Option Addr) (cap : Nat) (l : List Lab) (w : World) (h : RdL w a l) (hn : l.length ≤ 1000000000) (hb : ∀ x ∈ l, x.1.size ≤ 4611686018427387904 ∧ x.2.size ≤ 4611686018427387904) :
    Calls Tryz.prog 117 #[.slice a l.length cap] w (TdPost (.bool (labRight l)) w) := by
  go_enter Tryz.func117, Tryz.ntmps117
  go_wp2_with fail
  go_at_call 159
  refine (rcheckG_calls a cap l _ h hn hb).mono ?_
  rintro e w1 ⟨⟨i, er, rfl, he⟩, hb⟩
  have HE := Lib.hid he
  have HB := Lib.hid hb
  clear he hb
  go_wp2
  go_ret
  exact ⟨ret_bool (by rw [← HE.out]), HB.out⟩
end Go.Proofs.YtdgfldeeflmnmaaGreatDoor.Sk
