/- Texts of the claim, put together: KRj. -/
import Derived.Test.YtdgfldeeflmnmaaGreatDoorSKbQ
import Derived.Test.YtdgfldeeflmnmaaGreatDoorSKRg
namespace Go.Proofs.YtdgfldeeflmnmaaGreatDoor.Sk
open Go Go.RowKit
theorem ba_cons (c : UInt8) (u : ByteArray) : d ((⟨#[c]⟩ : ByteArray) ++ u) = c :: d u := by
  show ((⟨#[c]⟩ : ByteArray) ++ u).data.toList = _
  simp
theorem ba_of {u : ByteArray} {l : B} (h : d u = l) : u = ⟨l.toArray⟩ := by
  subst h
  simp
theorem ba_size {u : ByteArray} {l : B} (h : d u = l) : u.size = l.length := by
  rw [← h]; simp
/-- behind some of the digits: the number that is left, and the digits so far -/
def DgTo (n m : Nat) (u : ByteArray) : Prop := ((u.size = 0 ∨ 0 < m) ∧ Lib.decDigits n = Lib.decDigits m ++ d u) ∨ (1 ≤ u.size ∧ m = 0 ∧ Lib.decDigits n = d u)
theorem DgTo.step {n m : Nat} {u : ByteArray} (h : Lib.decDigits n = Lib.decDigits m ++ d u) : DgTo n (m / 10) ((⟨#[Rs.ldig (m % 10)]⟩ : ByteArray) ++ u) := by
  have hz : ((⟨#[Rs.ldig (m % 10)]⟩ : ByteArray) ++ u).size = u.size + 1 := by rw [ByteArray.size_append]; show 1 + u.size = _; omega
  by_cases hm : m < 10
  · refine .inr ⟨by omega, by omega, ?_⟩
    rw [h, dec_one hm, ba_cons, show m % 10 = m by omega, ldig_dec hm]
    rfl
  · refine .inl ⟨.inr (by omega), ?_⟩
    rw [h, dec_step (by omega), ba_cons, ldig_dec (by omega)]
    simp
theorem DgTo.small {n m : Nat} {u : ByteArray} (hn : n < 18446744073709551616) (h : Lib.decDigits n = Lib.decDigits m ++ d u ∨ Lib.decDigits n = d u) : u.size ≤ 20 := by
  have h1 := dec_len 19 n (by omega)
  rcases h with h | h <;> rw [h] at h1 <;> simp at h1 <;> omega
def outL : Value → Nat
  | .string u => u.size
  | _ => 0
set_option maxRecDepth 100000 in
set_option maxHeartbeats 4000000 in
theorem rdigits10_calls (n : Nat) (hn : n < 18446744073709551616) (w : World) : Calls Tryz.prog 74 #[.int .u64 n, .int .u64 10, .int .i64 1] w
    (fun e w' => e = .returned (.string ⟨(Lib.decDigits n).toArray⟩) ∧ w = w') := by
  go_enter Tryz.func74, Tryz.ntmps74
  go_wp2_with fail
  go_loopw [0, 7, 8] (fun v out _ wr => ∃ (m : Nat) (u : ByteArray), v = .int .u64 m ∧ out = .string u ∧ m ≤ n ∧ DgTo n m u ∧ wr = w) (fun v out _ _ => 2 * (intOf v).toNat + (1 - outL out))
  case atStart => exact ⟨n, _, rfl, rfl, Nat.le_refl _, .inl ⟨.inl rfl, by simp⟩, rfl⟩
  case round =>
    obtain ⟨m, u, rfl, rfl, hmn, hd, rfl⟩ := hrel
    rcases hd with ⟨hc, he⟩ | ⟨hu, rfl, he⟩
    · have hus := DgTo.small hn (.inl he)
      have HS := Lib.hid (DgTo.step he)
      obtain ⟨x, hx⟩ : ∃ x : Nat, x = m % 10 := ⟨_, rfl⟩
      obtain ⟨y, hy⟩ : ∃ y : Nat, y = m / 10 := ⟨_, rfl⟩
      rw [← hx, ← hy] at HS
      have hx10 : x < 10 := by omega
      have e1 : (m : Int) % 10 = (x : Int) := by omega
      have e2 : (m : Int) / 10 = (y : Int) := by omega
      have e3 : IntKind.u64.wrap ((x : Int) + 1) = (x : Int) + 1 := by rw [IntKind.wrap_u64]; omega
      have e4 : ((x : Int) + 1).toNat = x + 1 := by omega
      obtain ⟨c, hcx⟩ : ∃ c, c = Rs.ldig x := ⟨_, rfl⟩
      have e5 : (⟨#[48, 49, 50, 51, 52, 53, 54, 55, 56, 57, 97, 98, 99, 100, 101, 102]⟩ : ByteArray).extract x (x + 1) = ⟨#[c]⟩ := by rw [hcx]; exact ldig_at x (by omega)
      rw [← hcx] at HS
      have hyn : y ≤ n := by omega
      have HM : Hid (u.size = 0 ∨ 0 < m → 2 * y + 1 ≤ 2 * m + (1 - u.size)) := Lib.hid (by omega)
      have hq1 : (⟨#[c]⟩ : ByteArray).size = 1 := rfl
      have hb1 : (0 : Int) ≤ (x : Int) + 1 := by omega
      have hb2 : (x : Int) + 1 ≤ 16 := by omega
      have hb3 : (x : Int) ≤ (x : Int) + 1 := by omega
      clear hx hy hcx he
      have HU := Lib.hid (HM.out hc)
      have hz : ((⟨#[c]⟩ : ByteArray) ++ u).size = u.size + 1 := by rw [ByteArray.size_append]; omega
      have HZ := Lib.hid hz
      rcases (show u.size = 0 ∨ (1 ≤ u.size ∧ 0 < m) by omega) with h0 | ⟨h0, h1⟩
      · have f1 : decide ((u.size : Int) < 1) = true := by simp; omega
        clear h0 hc hz HM
        go_wp2
        go_roundw
        case rel => exact ⟨y, _, rfl, rfl, hyn, HS.out, by trivial⟩
        case measure => have h2 := HU.out; have h3 := HZ.out; simp only [intOf, outL]; simp; omega
      · have f1 : decide ((u.size : Int) < 1) = false := by simp; omega
        have f2 : decide (0 < m) = true := by simp; omega
        clear h0 h1 hc hz HM
        go_wp2
        go_roundw
        case rel => exact ⟨y, _, rfl, rfl, hyn, HS.out, by trivial⟩
        case measure => have h2 := HU.out; have h3 := HZ.out; simp only [intOf, outL]; simp; omega
    · have HO : Hid (u = ⟨(Lib.decDigits n).toArray⟩) := Lib.hid (ba_of he.symm)
      have f1 : decide ((u.size : Int) < 1) = false := by simp; omega
      clear he hu
      go_wp2
      go_ret
      exact ⟨by rw [← HO.out]; rfl, rfl⟩
set_option maxRecDepth 100000 in
set_option maxHeartbeats 4000000 in
theorem rdigits16_calls (n : Nat) (hn : n < 18446744073709551616) (w : World) : Calls Tryz.prog 74 #[.int .u64 n, .int .u64 16, .int .i64 16] w
    (fun e w' => e = .returned (.string ⟨(hexP 16 n).toArray⟩) ∧ w = w') := by
  go_enter Tryz.func74, Tryz.ntmps74
  go_wp2_with fail
  go_loopw [0, 7, 8] (fun v out _ wr => ∃ (m k : Nat) (u : ByteArray), v = .int .u64 m ∧ out = .string u ∧ k ≤ 16 ∧ u.size = k ∧ d u = hexP k n ∧ m = n / 16 ^ k ∧ wr = w) (fun _ out _ _ => 16 - outL out)
  case atStart => exact ⟨n, 0, _, rfl, rfl, by omega, rfl, rfl, by simp, rfl⟩
  case round =>
    obtain ⟨m, k, u, rfl, rfl, hk, hus, hdu, hm, rfl⟩ := hrel
    by_cases hk16 : k < 16
    · have hmn : m ≤ n := by rw [hm]; exact Nat.div_le_self _ _
      obtain ⟨x, hx⟩ : ∃ x : Nat, x = m % 16 := ⟨_, rfl⟩
      obtain ⟨y, hy⟩ : ∃ y : Nat, y = m / 16 := ⟨_, rfl⟩
      have hx16 : x < 16 := by omega
      have e1 : (m : Int) % 16 = (x : Int) := by omega
      have e2 : (m : Int) / 16 = (y : Int) := by omega
      have e3 : IntKind.u64.wrap ((x : Int) + 1) = (x : Int) + 1 := by rw [IntKind.wrap_u64]; omega
      have e4 : ((x : Int) + 1).toNat = x + 1 := by omega
      obtain ⟨c, hcx⟩ : ∃ c, c = Rs.ldig x := ⟨_, rfl⟩
      have e5 : (⟨#[48, 49, 50, 51, 52, 53, 54, 55, 56, 57, 97, 98, 99, 100, 101, 102]⟩ : ByteArray).extract x (x + 1) = ⟨#[c]⟩ := by rw [hcx]; exact ldig_at x (by omega)
      have HS : Hid (d ((⟨#[c]⟩ : ByteArray) ++ u) = hexP (k + 1) n ∧ y = n / 16 ^ (k + 1)) := Lib.hid ⟨by rw [ba_cons, hdu, hexP_cons, hcx, hx, hm], by rw [hy, hm, Nat.div_div_eq_div_mul, Nat.pow_succ]⟩
      have hq1 : (⟨#[c]⟩ : ByteArray).size = 1 := rfl
      have hb1 : (0 : Int) ≤ (x : Int) + 1 := by omega
      have hb2 : (x : Int) + 1 ≤ 16 := by omega
      have hb3 : (x : Int) ≤ (x : Int) + 1 := by omega
      have hz : ((⟨#[c]⟩ : ByteArray) ++ u).size = u.size + 1 := by rw [ByteArray.size_append]; omega
      have HZ := Lib.hid (And.intro hz hus)
      have f1 : decide ((u.size : Int) < 16) = true := by simp; omega
      clear hx hy hcx hdu hm hz
      go_wp2
      go_roundw
      case rel => exact ⟨y, k + 1, _, rfl, rfl, by omega, by rw [HZ.out.1, HZ.out.2], HS.out.1, HS.out.2, by trivial⟩
      case measure => have h2 := HZ.out; simp only [outL]; simp; omega
    · obtain rfl : k = 16 := by omega
      have hm0 : m = 0 := by rw [hm]; exact Nat.div_eq_of_lt (by omega)
      subst hm0
      have HO : Hid (u = ⟨(hexP 16 n).toArray⟩) := Lib.hid (ba_of hdu)
      have f1 : decide ((u.size : Int) < 16) = false := by simp; omega
      clear hdu hm
      go_wp2
      go_ret
      exact ⟨by rw [← HO.out]; rfl, rfl⟩
set_option maxRecDepth 100000 in
theorem rinteger_calls (n : Int) (h0 : -9223372036854775808 ≤ n) (h1 : n ≤ 9223372036854775807) (w : World) : Calls Tryz.prog 73 #[.int .i64 n] w
    (fun e w' => e = .returned (.string ⟨(Lib.itoa n).toArray⟩) ∧ w = w') := by
  by_cases h : n < 0
  · obtain ⟨m, hm⟩ : ∃ m : Nat, m = n.natAbs := ⟨_, rfl⟩
    have hc := rdigits10_calls m (by omega) w
    have e1 : IntKind.u64.wrap (-IntKind.u64.wrap n) = (m : Int) := by rw [IntKind.wrap_u64, IntKind.wrap_u64]; omega
    have e2 : IntKind.u64.wrap n = n + 18446744073709551616 := by rw [IntKind.wrap_u64]; omega
    have e3 : IntKind.u64.wrap (-(n + 18446744073709551616)) = (m : Int) := by rw [IntKind.wrap_u64]; omega
    have HI : Hid (Lib.itoa n = 45 :: Lib.decDigits m) := Lib.hid (by rw [itoa_neg h, hm])
    obtain ⟨u, hu⟩ : ∃ u : ByteArray, u = ⟨(Lib.decDigits m).toArray⟩ := ⟨_, rfl⟩
    have hus : u.size ≤ 20 := by
      have := dec_len 19 m (by omega)
      rw [hu]
      show (Lib.decDigits m).toArray.size ≤ 20
      simpa using this
    rw [← hu] at hc
    have HC := Lib.hid hc
    have HU := Lib.hid hu
    have f1 : decide (n < 0) = true := decide_eq_true h
    have hq : (⟨#[45]⟩ : ByteArray).size = 1 := rfl
    clear hc hm hu
    go_enter Tryz.func73, Tryz.ntmps73
    go_wp2_with fail
    go_at_call 74
    refine HC.out.mono ?_
    rintro e w1 ⟨rfl, rfl⟩
    go_wp2
    go_ret
    exact ⟨by rw [HI.out]; exact congrArg (fun q => Ending.returned (.string q)) (by rw [HU.out]; exact ba_of (by rw [ba_cons])), rfl⟩
  · obtain ⟨m, hm⟩ : ∃ m : Nat, m = n.toNat := ⟨_, rfl⟩
    have hc := rdigits10_calls m (by omega) w
    have e1 : IntKind.u64.wrap n = (m : Int) := by rw [IntKind.wrap_u64]; omega
    have HI : Hid (Lib.itoa n = Lib.decDigits m) := Lib.hid (by rw [itoa_pos h, hm])
    have HC := Lib.hid hc
    have f1 : decide (n < 0) = false := decide_eq_false h
    clear hc hm
    go_enter Tryz.func73, Tryz.ntmps73
    go_wp2_with fail
    go_at_call 74
    refine HC.out.mono ?_
    rintro e w1 ⟨rfl, rfl⟩
    go_wp2
    go_ret
    exact ⟨by rw [HI.out]; rfl, rfl⟩
end Go.Proofs.YtdgfldeeflmnmaaGreatDoor.Sk
namespace Go.Proofs.YtdgfldeeflmnmaaGreatDoor.Sk
open Go Go.RowKit
theorem ba_snoc {u t : ByteArray} {l m : B} (h : d u = l) (k : d t = m) : d (u ++ t) = l ++ m := by
  subst h; subst k
  simp
theorem ext_one (s : ByteArray) {k : Nat} (h : k < s.size) : d (s.extract k (k + 1)) = [s[k]] := by
  rw [d_extract s (by omega) (by omega), show k + 1 - k = 1 by omega, drop_data s k h]
  rfl
set_option maxRecDepth 100000 in
set_option maxHeartbeats 4000000 in
theorem rword_calls (s : ByteArray) (hs : s.size ≤ 1100000) (w : World) : Calls Tryz.prog 76 #[.string s] w
    (fun e w' => e = .returned (.string ⟨(wordS (d s)).toArray⟩) ∧ ∃ m, w' = w.drewN m) := by
  by_cases h0 : d s = []
  · have HW : Hid (wordS (d s) = [45]) := Lib.hid (by unfold wordS; rw [if_pos h0])
    have hq : s.toList.isEmpty = true := by rw [ByteArray.toList_eq]; show (d s).isEmpty = true; rw [h0]; rfl
    have hq2 : s.toList = [] := by rw [ByteArray.toList_eq]; exact h0
    clear h0
    go_enter Tryz.func76, Tryz.ntmps76
    go_wp2
    go_ret
    exact ⟨by rw [HW.out]; rfl, 0, rfl⟩
  have hq : s.toList.isEmpty = false := by
    rw [ByteArray.toList_eq]
    cases hh : s.data.toList with
    | nil => exact absurd hh h0
    | cons _ _ => rfl
  by_cases h1 : d s = [45]
  · have HW : Hid (wordS (d s) = [37, 50, 68]) := Lib.hid (by unfold wordS; rw [if_neg h0, if_pos h1])
    have hq3 : (s.toList == [45]) = true := by rw [ByteArray.toList_eq]; simpa using h1
    clear h0 h1
    go_enter Tryz.func76, Tryz.ntmps76
    go_wp2
    go_ret
    exact ⟨by rw [HW.out]; rfl, 0, rfl⟩
  have hq3 : (s.toList == [45]) = false := by rw [ByteArray.toList_eq, beq_eq_false_iff_ne]; exact h1
  have HW : Hid (wordS (d s) = (d s).flatMap wordC) := Lib.hid (by unfold wordS; rw [if_neg h0, if_neg h1])
  clear h0 h1
  go_enter Tryz.func76, Tryz.ntmps76
  go_wp2_with fail
  go_loopw [4, 5, 6] (fun out i _ wr => ∃ (k : Nat) (u : ByteArray), k ≤ s.size ∧ i = .int .i64 k ∧ out = .string u ∧ d u = ((d s).take k).flatMap wordC ∧ ∃ m, wr = w.drewN m) (fun _ i _ _ => s.size - (intOf i).toNat)
  case atStart => exact ⟨0, _, Nat.zero_le _, rfl, rfl, by simp, 0, rfl⟩
  case round =>
    obtain ⟨k, u, hk, rfl, rfl, hu, m, hw⟩ := hrel
    obtain ⟨w1, hw1⟩ : ∃ q, q = wr := ⟨_, rfl⟩
    subst hw1
    have hus : u.size ≤ 3300000 := by
      have h1 := ba_size hu
      have h2 := wordF_len ((d s).take k)
      rw [List.length_take] at h2
      have h3 : (d s).length = s.size := by simp
      omega
    have HU := Lib.hid (And.intro hu hw)
    clear hu hw
    by_cases hlt : k < s.size
    · have hlt' : decide (k < s.size) = true := decide_eq_true hlt
      have hc := s[k].toNat_lt
      have HST := Lib.hid (wordF_step (data_at s k hlt))
      by_cases hcc : 33 ≤ s[k].toNat ∧ s[k].toNat < 127 ∧ s[k].toNat ≠ 37
      · obtain ⟨g1, g2, g3⟩ := hcc
        have HC := Lib.hid (wordC_no g3 g1 (by omega))
        have f1 : decide ((32 : Int) < (s[k].toNat : Int)) = true := by simp; omega
        have f2 : decide ((s[k].toNat : Int) < 127) = true := by simp; omega
        have f3 : ((s[k].toNat : Int) == 37) = false := by simp; omega
        have f4 : ¬ (s[k].toNat : Int) = 37 := by omega
        have hk1 : ((k : Int) + 1).toNat = k + 1 := by omega
        have HE := Lib.hid (ext_one s hlt)
        have hez : (s.extract k (k + 1)).size = 1 := by rw [ByteArray.size_extract]; omega
        clear g1 g2 g3
        go_wp2
        go_roundw
        case rel => exact ⟨k + 1, _, hlt, by go_num, rfl, by rw [HST.out, HC.out]; exact ba_snoc HU.out.1 HE.out, m, HU.out.2⟩
        case measure => simp [intOf]; omega
      · have HC := Lib.hid (wordC_yes (c := s[k]) (by omega))
        obtain ⟨c, hcn⟩ : ∃ c : Nat, c = s[k].toNat := ⟨_, rfl⟩
        rw [← hcn] at hcc hc HC
        obtain ⟨x, hx⟩ : ∃ x : Nat, x = c / 16 := ⟨_, rfl⟩
        obtain ⟨y, hy⟩ : ∃ y : Nat, y = c % 16 := ⟨_, rfl⟩
        have hx16 : x < 16 := by omega
        have hy16 : y < 16 := by omega
        have hcs : (s[k].toNat : Int) = (c : Int) := by omega
        have e1 : (c : Int).tdiv 16 = (x : Int) := by rw [Int.tdiv_eq_ediv_of_nonneg (by omega)]; omega
        have e2 : (c : Int).tmod 16 = (y : Int) := by rw [Int.tmod_eq_emod_of_nonneg (by omega)]; omega
        have e3 : IntKind.i64.wrap ((x : Int) + 1) = (x : Int) + 1 := by rw [IntKind.wrap_i64]; omega
        have e4 : IntKind.i64.wrap ((y : Int) + 1) = (y : Int) + 1 := by rw [IntKind.wrap_i64]; omega
        have e5 : IntKind.i64.wrap (x : Int) = (x : Int) := by rw [IntKind.wrap_i64]; omega
        have e6 : IntKind.i64.wrap (y : Int) = (y : Int) := by rw [IntKind.wrap_i64]; omega
        have t3 : ((x : Int) + 1).toNat = x + 1 := by omega
        have t4 : ((y : Int) + 1).toNat = y + 1 := by omega
        have b1 : (0 : Int) ≤ (x : Int) + 1 := by omega
        have b2 : (x : Int) + 1 ≤ 16 := by omega
        have b3 : (x : Int) ≤ (x : Int) + 1 := by omega
        have b4 : (0 : Int) ≤ (y : Int) + 1 := by omega
        have b5 : (y : Int) + 1 ≤ 16 := by omega
        have b6 : (y : Int) ≤ (y : Int) + 1 := by omega
        obtain ⟨p, hp⟩ : ∃ p : ByteArray, p = ⟨#[hexU x]⟩ := ⟨_, rfl⟩
        obtain ⟨q, hqq⟩ : ∃ q : ByteArray, q = ⟨#[hexU y]⟩ := ⟨_, rfl⟩
        have x1 : (⟨#[48, 49, 50, 51, 52, 53, 54, 55, 56, 57, 65, 66, 67, 68, 69, 70]⟩ : ByteArray).extract x (x + 1) = p := by rw [hp]; exact hex_at _ hx16
        have x2 : (⟨#[48, 49, 50, 51, 52, 53, 54, 55, 56, 57, 65, 66, 67, 68, 69, 70]⟩ : ByteArray).extract y (y + 1) = q := by rw [hqq]; exact hex_at _ hy16
        have hps : p.size = 1 := by rw [hp]; rfl
        have hqs : q.size = 1 := by rw [hqq]; rfl
        have h37 : (⟨#[37]⟩ : ByteArray).size = 1 := rfl
        have HPQ : Hid (d (u ++ ⟨#[37]⟩ ++ p ++ q) = ((d s).take (k + 1)).flatMap wordC) := Lib.hid (by
          rw [HST.out, HC.out, ← hx, ← hy, ba_snoc (ba_snoc (ba_snoc HU.out.1 (show d (⟨#[37]⟩ : ByteArray) = [37] from rfl)) (show d p = [hexU x] by rw [hp])) (show d q = [hexU y] by rw [hqq])]
          simp)
        have a1 : (u ++ ⟨#[37]⟩).size = u.size + 1 := by rw [ByteArray.size_append, h37]
        have a2 : (u ++ ⟨#[37]⟩ ++ p).size = u.size + 2 := by rw [ByteArray.size_append, a1, hps]
        have HXY := Lib.hid (And.intro hx hy)
        clear hx hy hp hqq hcn
        rcases (show c < 33 ∨ (33 ≤ c ∧ 127 ≤ c) ∨ (33 ≤ c ∧ c < 127 ∧ c = 37) by omega) with g | ⟨g, g'⟩ | ⟨g, g', rfl⟩
        · have f1 : decide ((32 : Int) < (c : Int)) = false := by simp; omega
          clear hcc g
          go_wp2_with fail
          go_quiet (fail)
          go_wp2
          go_roundw
          case rel => exact ⟨k + 1, _, hlt, by go_num, rfl, HPQ.out, _, by rw [HU.out.2]; exact World.drewN_drewN _ _ _⟩
          case measure => simp [intOf]; omega
        · have f1 : decide ((32 : Int) < (c : Int)) = true := by simp; omega
          have f2 : decide ((c : Int) < 127) = false := by simp; omega
          clear hcc g g'
          go_wp2_with fail
          go_quiet (fail)
          go_wp2
          go_roundw
          case rel => exact ⟨k + 1, _, hlt, by go_num, rfl, HPQ.out, _, by rw [HU.out.2]; exact World.drewN_drewN _ _ _⟩
          case measure => simp [intOf]; omega
        · clear hcc g g'
          go_wp2_with fail
          go_quiet (fail)
          go_wp2
          go_roundw
          case rel => exact ⟨k + 1, _, hlt, by go_num, rfl, (by
            have h1 : x = 2 := by have := HXY.out.1; omega
            have h2 : y = 5 := by have := HXY.out.2; omega
            have h := HPQ.out
            rw [← x1, ← x2, h1, h2] at h
            exact h), _, by rw [HU.out.2]; exact World.drewN_drewN _ _ _⟩
          case measure => simp [intOf]; omega
    · have hlt' : decide (k < s.size) = false := decide_eq_false hlt
      have HO : Hid (u = ⟨(wordS (d s)).toArray⟩) := Lib.hid (by
        refine ba_of ?_
        rw [HU.out.1, HW.out, List.take_of_length_le (by simp; omega)])
      go_wp2
      go_ret
      exact ⟨by rw [← HO.out]; rfl, m, HU.out.2⟩
end Go.Proofs.YtdgfldeeflmnmaaGreatDoor.Sk
namespace Go.Proofs.YtdgfldeeflmnmaaGreatDoor.Sk
open Go Go.RowKit
theorem hexT_at : ∀ (k : Nat) (h : k < 16), ((⟨#[48, 49, 50, 51, 52, 53, 54, 55, 56, 57, 65, 66, 67, 68, 69, 70]⟩ : ByteArray)[k]'h) = hexU k
  | 0, _ => rfl
  | 1, _ => rfl
  | 2, _ => rfl
  | 3, _ => rfl
  | 4, _ => rfl
  | 5, _ => rfl
  | 6, _ => rfl
  | 7, _ => rfl
  | 8, _ => rfl
  | 9, _ => rfl
  | 10, _ => rfl
  | 11, _ => rfl
  | 12, _ => rfl
  | 13, _ => rfl
  | 14, _ => rfl
  | 15, _ => rfl
  | n + 16, h => by omega
set_option maxRecDepth 100000 in
set_option maxHeartbeats 2000000 in
theorem rval_calls (c : UInt8) (w : World) : Calls Tryz.prog 160 #[.int .u8 c.toNat] w fun e w' => e = .returned (.int .i64 (valH c.toNat)) ∧ w' = w := by
  have hc := c.toNat_lt
  go_enter Tryz.func160, Tryz.ntmps160
  go_wp2_with fail
  go_loopw [4] (fun i wr => ∃ k : Nat, k ≤ 16 ∧ i = .int .i64 k ∧ (∀ j, j < k → valH c.toNat ≠ j) ∧ wr = w) (fun i _ => 16 - (intOf i).toNat)
  case atStart => exact ⟨0, by omega, rfl, fun j h => by omega, rfl⟩
  case round =>
    obtain ⟨k, hk, rfl, hno, rfl⟩ := hrel
    have HNO := Lib.hid hno
    clear hno
    by_cases hlt : k < 16
    · have hlt' : decide ((k : Int) < 16) = true := by simp; omega
      have hx := hexT_at k hlt
      obtain ⟨x, hxx⟩ : ∃ x : UInt8, x = hexU k := ⟨_, rfl⟩
      rw [← hxx] at hx
      have HX := Lib.hid hxx
      clear hxx
      by_cases he : x = c
      · have HV : Hid (valH c.toNat = k) := Lib.hid (by rw [← he, HX.out]; exact valH_hexU k hlt)
        have hq : ((x.toNat : Int) == (c.toNat : Int)) = true := by rw [he]; simp
        clear he
        go_wp2
        go_ret
        exact ⟨by rw [HV.out]; rfl, rfl⟩
      · have hne : x.toNat ≠ c.toNat := fun e => he (UInt8.toNat_inj.1 e)
        have hq : ((x.toNat : Int) == (c.toNat : Int)) = false := by simp; omega
        have HN : Hid (∀ j, j < k + 1 → valH c.toNat ≠ j) := Lib.hid (fun j hj e => by
          by_cases h : j = k
          · subst h
            have := hexU_valH (c := c) (by omega)
            rw [e, ← HX.out] at this
            exact he this
          · exact HNO.out j (by omega) e)
        clear he hne
        go_wp2
        go_roundw
        case rel => exact ⟨k + 1, hlt, by go_num, HN.out, by trivial⟩
        case measure => simp [intOf]; omega
    · have hlt' : decide ((k : Int) < 16) = false := by simp; omega
      have HV : Hid (valH c.toNat = 16) := Lib.hid (by
        have h1 : valH c.toNat ≤ 16 := by unfold valH; split <;> (try split) <;> omega
        rcases Nat.lt_or_ge (valH c.toNat) 16 with h | h
        · exact absurd rfl (HNO.out _ (by omega))
        · omega)
      go_wp2
      go_ret
      exact ⟨by rw [HV.out]; rfl, rfl⟩
theorem numW_step {s : ByteArray} {k : Nat} (h : k < s.size) : numW 0 ((d s).take (k + 1)) = (if 48 ≤ s[k].toNat ∧ s[k].toNat ≤ 57 then (10 * numW 0 ((d s).take k) + s[k].toNat - 48) % 18446744073709551616 else numW 0 ((d s).take k)) := by
  rw [List.take_add_one, data_at s k h]
  simp only [Option.toList_some]
  rw [numW_app]
  rfl
theorem bitW_step {s : ByteArray} {k : Nat} (h : k < s.size) : bitW 0 ((d s).take (k + 1)) = bitS (bitW 0 ((d s).take k)) s[k] := by
  rw [List.take_add_one, data_at s k h]
  simp only [Option.toList_some]
  rw [bitW_snoc]
set_option maxRecDepth 100000 in
set_option maxHeartbeats 2000000 in
theorem rnumber_calls (s : ByteArray) (hs : s.size ≤ 1100000) (w : World) : Calls Tryz.prog 123 #[.string s] w fun e w' => e = .returned (.int .i64 (numI (d s))) ∧ w' = w := by
  go_enter Tryz.func123, Tryz.ntmps123
  go_wp2_with fail
  go_loopw [3, 4] (fun n i wr => ∃ k m : Nat, k ≤ s.size ∧ i = .int .i64 k ∧ n = .int .u64 m ∧ m < 18446744073709551616 ∧ m = numW 0 ((d s).take k) ∧ wr = w) (fun _ i _ => s.size - (intOf i).toNat)
  case atStart => exact ⟨0, 0, Nat.zero_le _, rfl, rfl, by omega, by simp [numW], rfl⟩
  case round =>
    obtain ⟨k, m, hk, rfl, rfl, hm, hmw, rfl⟩ := hrel
    have HM := Lib.hid hmw
    clear hmw
    by_cases hlt : k < s.size
    · have hlt' : decide (k < s.size) = true := decide_eq_true hlt
      have hc := s[k].toNat_lt
      have HST := Lib.hid (numW_step hlt)
      rcases (show s[k].toNat < 48 ∨ (48 ≤ s[k].toNat ∧ s[k].toNat ≤ 57) ∨ (48 ≤ s[k].toNat ∧ 57 < s[k].toNat) by omega) with g | ⟨g1, g2⟩ | ⟨g1, g2⟩
      · have f1 : decide (48 ≤ (s[k].toNat : Int)) = false := by simp; omega
        have HN : Hid (m = numW 0 ((d s).take (k + 1))) := Lib.hid (by rw [HST.out, if_neg (by omega)]; exact HM.out)
        clear g
        go_wp2
        go_roundw
        case rel => exact ⟨k + 1, m, hlt, by go_num, rfl, hm, HN.out, by trivial⟩
        case measure => simp [intOf]; omega
      · have f1 : decide (48 ≤ (s[k].toNat : Int)) = true := by simp; omega
        have f2 : decide ((s[k].toNat : Int) ≤ 57) = true := by simp; omega
        obtain ⟨q, hq⟩ : ∃ q : Nat, q = (10 * m + s[k].toNat - 48) % 18446744073709551616 := ⟨_, rfl⟩
        have e1 : IntKind.u64.wrap (IntKind.u64.wrap (IntKind.u64.wrap (10 * (m : Int)) + (s[k].toNat : Int)) - 48) = (q : Int) := by rw [IntKind.wrap_u64, IntKind.wrap_u64, IntKind.wrap_u64]; omega
        obtain ⟨z1, hz1⟩ : ∃ z : Int, IntKind.u64.wrap (10 * (m : Int)) = z := ⟨_, rfl⟩
        rw [hz1] at e1
        obtain ⟨z2, hz2⟩ : ∃ z : Int, IntKind.u64.wrap (z1 + (s[k].toNat : Int)) = z := ⟨_, rfl⟩
        rw [hz2] at e1
        have e0 : IntKind.u64.wrap (s[k].toNat : Int) = (s[k].toNat : Int) := by rw [IntKind.wrap_u64]; omega
        have hq64 : q < 18446744073709551616 := by omega
        have HN : Hid (q = numW 0 ((d s).take (k + 1))) := Lib.hid (by rw [HST.out, if_pos ⟨g1, g2⟩, ← HM.out]; exact hq)
        clear g1 g2 hq
        go_wp2
        go_roundw
        case rel => exact ⟨k + 1, q, hlt, by go_num, rfl, hq64, HN.out, by trivial⟩
        case measure => simp [intOf]; omega
      · have f1 : decide (48 ≤ (s[k].toNat : Int)) = true := by simp; omega
        have f2 : decide ((s[k].toNat : Int) ≤ 57) = false := by simp; omega
        have HN : Hid (m = numW 0 ((d s).take (k + 1))) := Lib.hid (by rw [HST.out, if_neg (by omega)]; exact HM.out)
        clear g1 g2
        go_wp2
        go_roundw
        case rel => exact ⟨k + 1, m, hlt, by go_num, rfl, hm, HN.out, by trivial⟩
        case measure => simp [intOf]; omega
    · obtain rfl : k = s.size := by omega
      have hlt' : decide (s.size < s.size) = false := by simp
      have hm2 : m = numW 0 (d s) := by have := HM.out; rw [List.take_of_length_le (by simp)] at this; exact this
      have HM2 := Lib.hid hm2
      clear hm2 HM
      by_cases h0 : s.size = 0
      · have HV : Hid (numI (d s) = wrap64 (m : Int)) := Lib.hid (by
          have hd0 : d s = [] := List.eq_nil_of_length_eq_zero (by simpa using h0)
          unfold numI
          rw [HM2.out, hd0, if_neg (by simp)])
        have hz : decide (0 < s.size) = false := decide_eq_false (by omega)
        clear h0
        go_wp2
        go_ret
        exact ⟨by rw [HV.out]; rfl, rfl⟩
      · have hz : decide (0 < s.size) = true := decide_eq_true (by omega)
        have hp : 0 < s.size := by omega
        have hd0 := drop_data s 0 hp
        rw [List.drop_zero] at hd0
        by_cases h45 : s[0] = 45
        · have hq : ((s[0].toNat : Int) == 45) = true := by rw [h45]; rfl
          have HV : Hid (numI (d s) = wrap64 (IntKind.u64.wrap (-(m : Int)))) := Lib.hid (by
            unfold numI
            rw [if_pos (by rw [hd0, h45]; rfl), ← HM2.out])
          clear h0 h45 hd0
          go_wp2
          go_ret
          exact ⟨by rw [HV.out]; rfl, rfl⟩
        · have hne : s[0].toNat ≠ 45 := fun e => h45 (UInt8.toNat_inj.1 e)
          have hq : ((s[0].toNat : Int) == 45) = false := beq_eq_false_iff_ne.2 (by omega)
          have HV : Hid (numI (d s) = wrap64 (m : Int)) := Lib.hid (by
            unfold numI
            rw [if_neg (by rw [hd0]; intro e; exact h45 (Option.some.inj e)), ← HM2.out])
          clear h0 h45 hd0 hne
          go_wp2
          go_ret
          exact ⟨by rw [HV.out]; rfl, rfl⟩
set_option maxRecDepth 100000 in
set_option maxHeartbeats 2000000 in
theorem rbits_calls (s : ByteArray) (hs : s.size ≤ 1100000) (w : World) : Calls Tryz.prog 124 #[.string s] w fun e w' => e = .returned (.int .u64 (bitW 0 (d s))) ∧ w' = w := by
  go_enter Tryz.func124, Tryz.ntmps124
  go_wp2_with fail
  go_loopw [3, 4, 5] (fun n i _ wr => ∃ k m : Nat, k ≤ s.size ∧ i = .int .i64 k ∧ n = .int .u64 m ∧ m < 18446744073709551616 ∧ m = bitW 0 ((d s).take k) ∧ wr = w) (fun _ i _ _ => s.size - (intOf i).toNat)
  case atStart => exact ⟨0, 0, Nat.zero_le _, rfl, rfl, by omega, by rw [List.take_zero, bitW_nil], rfl⟩
  case round =>
    obtain ⟨k, m, hk, rfl, rfl, hm, hmw, rfl⟩ := hrel
    have HM := Lib.hid hmw
    clear hmw
    by_cases hlt : k < s.size
    · have hlt' : decide (k < s.size) = true := decide_eq_true hlt
      have hc := s[k].toNat_lt
      have HST := Lib.hid (bitW_step hlt)
      obtain ⟨q, hq⟩ : ∃ q : Nat, q = bitS m s[k] := bitS_is m s[k]
      have hq64 : q < 18446744073709551616 := hq ▸ bitS_lt m s[k]
      have HN : Hid (q = bitW 0 ((d s).take (k + 1))) := Lib.hid (by rw [HST.out, ← HM.out]; exact hq)
      unfold bitS at hq
      obtain ⟨x, hx⟩ : ∃ x : Nat, x = hexC s[k].toNat := ⟨_, rfl⟩
      rw [← hx] at hq
      have e1 : IntKind.u64.wrap (IntKind.u64.wrap (IntKind.u64.wrap (16 * (m : Int)) + (x : Int)) - 48) = (q : Int) := by rw [IntKind.wrap_u64, IntKind.wrap_u64, IntKind.wrap_u64]; omega
      obtain ⟨z1, hz1⟩ : ∃ z : Int, IntKind.u64.wrap (16 * (m : Int)) = z := ⟨_, rfl⟩
      rw [hz1] at e1
      obtain ⟨z2, hz2⟩ : ∃ z : Int, IntKind.u64.wrap (z1 + (x : Int)) = z := ⟨_, rfl⟩
      rw [hz2] at e1
      by_cases g : 97 ≤ s[k].toNat
      · have f1 : decide (97 ≤ (s[k].toNat : Int)) = true := by simp; omega
        have hxx : x = s[k].toNat - 39 := by rw [hx]; unfold hexC; rw [if_pos g]
        have e2 : IntKind.u8.wrap ((s[k].toNat : Int) - 97) = (s[k].toNat : Int) - 97 := by rw [IntKind.wrap_u8]; omega
        have e3 : IntKind.u8.wrap ((s[k].toNat : Int) - 97 + 48) = (s[k].toNat : Int) - 97 + 48 := by rw [IntKind.wrap_u8]; omega
        have e4 : IntKind.u8.wrap ((s[k].toNat : Int) - 97 + 48 + 10) = (x : Int) := by rw [IntKind.wrap_u8]; omega
        have e0 : IntKind.u64.wrap (x : Int) = (x : Int) := by rw [IntKind.wrap_u64]; omega
        clear g hxx hx hq
        go_wp2
        go_roundw
        case rel => exact ⟨k + 1, q, hlt, by go_num, rfl, hq64, HN.out, by trivial⟩
        case measure => simp [intOf]; omega
      · have f1 : decide (97 ≤ (s[k].toNat : Int)) = false := by simp; omega
        have hxx : x = s[k].toNat := by rw [hx]; unfold hexC; rw [if_neg g]
        subst hxx
        have e0 : IntKind.u64.wrap (s[k].toNat : Int) = (s[k].toNat : Int) := by rw [IntKind.wrap_u64]; omega
        clear g hx hq
        go_wp2
        go_roundw
        case rel => exact ⟨k + 1, q, hlt, by go_num, rfl, hq64, HN.out, by trivial⟩
        case measure => simp [intOf]; omega
    · obtain rfl : k = s.size := by omega
      have hlt' : decide (s.size < s.size) = false := by simp
      have hm2 : m = bitW 0 (d s) := by have := HM.out; rw [List.take_of_length_le (by simp)] at this; exact this
      have HM2 := Lib.hid hm2
      clear hm2 HM
      go_wp2
      go_ret
      exact ⟨by rw [← HM2.out]; rfl, rfl⟩
end Go.Proofs.YtdgfldeeflmnmaaGreatDoor.Sk
