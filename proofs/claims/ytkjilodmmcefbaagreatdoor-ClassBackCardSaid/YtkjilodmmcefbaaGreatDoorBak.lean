/- The law ClassBack: it returns true. -/
import Derived.Test.YtkjilodmmcefbaaGreatDoorCtr
import Derived.Test.YtkjilodmmcefbaaGreatDoorAwk
import Derived.Test.YtkjilodmmcefbaaGreatDoorMaA
namespace Go.Proofs.YtkjilodmmcefbaaGreatDoor
open Go.RowKit Go.Shelf
theorem Rs.textS_len {l : Rs.S} (h : Rs.right l = true) : (Rs.textS l).length ≤ 41 * l.length + 19 := by
  unfold Rs.textS
  split
  · rw [show Rs.allT.length = 19 by decide]; omega
  · have := Rs.flat_len l (Rs.right_rg h)
    simp only [List.length_append, List.length_singleton]
    omega
theorem size_cat (l : List UInt8) (z : ByteArray) : (({ data := l.toArray } : ByteArray) ++ z).size = l.length + z.size := by
  rw [ByteArray.size_append]; rfl
-- WALK
set_option maxRecDepth 100000 in
set_option maxHeartbeats 8000000 in
theorem ClassBack_calls (a b : Option Addr) (ca cb : Nat) (l m : List Rs.Sm) (s : ByteArray) (w : World) (hL : Lv w) (hsl : Sm w a ca l) (hsm : Sm w b cb m) (hn : ca ≤ maxLen) (hn2 : cb ≤ maxLen) (hs : s.size ≤ maxLen) :
    Calls Tryz.prog 4 #[.slice a l.length ca, .slice b m.length cb, .string s] w fun e w' => e = .returned (.bool true) ∧ Below w.heap.size w w' := by
  unfold maxLen at hs
  have HL := Lib.hid (show _ ∧ _ ∧ _ ∧ _ ∧ _ from ⟨hL, hsl, hsm, hn, hn2⟩)
  clear hL hsl hsm hn hn2
  obtain ⟨k, hk⟩ : ∃ k, k = min s.size 100 := ⟨_, rfl⟩
  have hk1 : k ≤ 100 := by omega
  have hk2 : k ≤ s.size := by omega
  have HK := Lib.hid hk
  clear hk
  go_enter Tryz.func4, Tryz.ntmps4
  go_wp2_with fail
  go_at_call 14
  refine (awake_calls w HL.out.1).mono ?_
  rintro e w1 ⟨rfl, hb⟩
  have HB := Lib.hid hb
  clear hb
  go_wp2_with fail
  have hz : (s.extract 0 (min (s.size : Int) 100).toNat).size ≤ 100 := by rw [ByteArray.size_extract]; omega
  generalize s.extract 0 (min (s.size : Int) 100).toNat = z at *
  clear HK hk1 hk2
  go_at_call 15
  refine (Made_calls a ca l w1 (HL.out.2.1.below HB.out) HL.out.2.2.2.1).mono ?_
  rintro e w2 ⟨v, rfl, hown, hb⟩
  have RX := Lib.hid (Rs.made_right HL.out.2.1.ok)
  have hXl := Rs.made_len l
  generalize Rs.made l = X at RX hXl hown
  obtain ⟨aX, cX, rfl, _, hs⟩ := Sl.of_own hown
  replace HB := Lib.hid (Bthen HB.out hb)
  have HsX := Lib.hid hs
  clear hs hb hown
  go_wp2_with fail
  go_at_call 15
  refine (Made_calls b cb m w2 (HL.out.2.2.1.below HB.out) HL.out.2.2.2.2).mono ?_
  rintro e w3 ⟨v, rfl, hown, hb⟩
  have RY := Lib.hid (Rs.made_right HL.out.2.2.1.ok)
  have hYl := Rs.made_len m
  generalize Rs.made m = Y at RY hYl hown
  obtain ⟨aY, cY, rfl, _, hs⟩ := Sl.of_own hown
  replace HsX := Lib.hid (HsX.out.below hb)
  replace HB := Lib.hid (Bthen HB.out hb)
  have HsY := Lib.hid hs
  clear hs hb hown
  have htX : (Rs.textS X).length ≤ 1000 := by have := Rs.textS_len RX.out; omega
  have htY : (Rs.textS Y).length ≤ 1000 := by have := Rs.textS_len RY.out; omega
  go_wp2_with fail
  go_at_call 16
  refine (Text_r (HL.out.1.below HB.out) HsX.out RX.out).mono ?_
  rintro e w4 ⟨rfl, hb⟩
  replace HsX := Lib.hid (HsX.out.below hb)
  replace HsY := Lib.hid (HsY.out.below hb)
  replace HB := Lib.hid (Bthen HB.out hb)
  clear hb
  go_wp2_with fail
  go_at_call 16
  refine (Text_r (HL.out.1.below HB.out) HsY.out RY.out).mono ?_
  rintro e w5 ⟨rfl, hb⟩
  replace HsX := Lib.hid (HsX.out.below hb)
  replace HsY := Lib.hid (HsY.out.below hb)
  replace HB := Lib.hid (Bthen HB.out hb)
  clear hb
  go_wp2_with fail
  go_at_call 17
  have hcall := Read_ok (HL.out.1.below HB.out) (s := { data := (Rs.textS X).toArray } ++ z) (by rw [size_cat]; omega) (by simp) (Rs.read_text RX.out z.data.toList)
  refine hcall.mono ?_
  clear hcall
  rintro e w6 h
  obtain ⟨aR, cR, rfl, hs, hb⟩ := h
  replace HsX := Lib.hid (HsX.out.below hb)
  replace HsY := Lib.hid (HsY.out.below hb)
  replace HB := Lib.hid (Bthen HB.out hb)
  have HsR := Lib.hid hs
  clear hs hb
  go_wp2_with fail
  go_at_call 18
  refine (Eq_r HsR.out HsX.out (rlen RX.out) rfl).mono ?_
  rintro e w7 ⟨rfl, hb⟩
  replace HsX := Lib.hid (HsX.out.below hb)
  replace HsY := Lib.hid (HsY.out.below hb)
  replace HsR := Lib.hid (HsR.out.below hb)
  replace HB := Lib.hid (Bthen HB.out hb)
  clear hb
  by_cases hXY : X = Y
  · subst hXY
    go_wp2_with fail
    go_at_call 18
    refine (Eq_r HsX.out HsY.out (rlen RX.out) rfl).mono ?_
    rintro e w8 ⟨rfl, hb⟩
    replace HsX := Lib.hid (HsX.out.below hb)
    replace HsY := Lib.hid (HsY.out.below hb)
    replace HsR := Lib.hid (HsR.out.below hb)
    replace HB := Lib.hid (Bthen HB.out hb)
    clear hb
    go_wp2_with fail
    go_at_call 17
    have HLz := Lib.hid (HL.out.1.below HB.out)
    have hz1 : (({ data := #[91] } : ByteArray) ++ z).size ≤ 100000000000 := by rw [ByteArray.size_append]; have : ({ data := #[91] } : ByteArray).size = 1 := rfl; omega
    have hz2 : (({ data := #[91] } : ByteArray) ++ z).data.toList = 91 :: z.data.toList := by simp
    have hz3 : (({ data := #[91, 94] } : ByteArray) ++ z).size ≤ 100000000000 := by rw [ByteArray.size_append]; have : ({ data := #[91, 94] } : ByteArray).size = 2 := rfl; omega
    have hz4 : (({ data := #[91, 94] } : ByteArray) ++ z).data.toList = 91 :: 94 :: z.data.toList := by simp
    have HZ := Lib.hid (show _ ∧ _ from ⟨hz3, hz4⟩)
    clear hz3 hz4
    cases hr : Rs.readF (91 :: z.data.toList) with
    | none =>
      have hcall := Read_no HLz.out hz1 hz2 hr
      clear hr hz1 hz2
      refine hcall.mono ?_
      clear hcall
      rintro e w9 h
      obtain ⟨aQ, cQ, rfl, hs, hb⟩ := h
      replace HB := Lib.hid (Bthen HB.out hb)
      clear hs hb
      go_wp2
      go_ret
      exact ⟨rfl, HB.out⟩
    | some x =>
      obtain ⟨L, n⟩ := x
      obtain ⟨g1, g2, g3, g4, g5⟩ := Rs.read_any hr
      obtain ⟨q, rfl⟩ : ∃ q, n = q + 2 := ⟨n - 2, by omega⟩
      have hq1 : 1 ≤ q := by omega
      have hzl : z.data.toList.length = z.size := by rw [Lib.size_eq]
      have hq2 : q + 2 ≤ z.size + 1 := by omega
      have hq3 : q < z.size := by omega
      rw [show q + 2 - 2 = q by omega, Rs.esc_get hq3] at g4
      have RQ := Lib.hid g1
      have G5 := Lib.hid g5
      have G4 := Lib.hid g4
      have hcall := Read_ok HLz.out hz1 hz2 hr
      clear hr hz1 hz2 g1 g2 g3 g5 g4 hzl
      refine hcall.mono ?_
      clear hcall
      rintro e w9 h
      obtain ⟨aQ, cQ, rfl, hs, hb⟩ := h
      replace HsX := Lib.hid (HsX.out.below hb)
      replace HsY := Lib.hid (HsY.out.below hb)
      replace HsR := Lib.hid (HsR.out.below hb)
      replace HB := Lib.hid (Bthen HB.out hb)
      have HsQ := Lib.hid hs
      clear hs hb
      have t4 := G4.out
      go_wp2_with fail
      clear t4
      go_at_call 19
      refine (Right_r HsQ.out RQ.out).mono ?_
      rintro e q1 ⟨rfl, hb⟩
      replace HsX := Lib.hid (HsX.out.below hb)
      replace HsY := Lib.hid (HsY.out.below hb)
      replace HsR := Lib.hid (HsR.out.below hb)
      replace HsQ := Lib.hid (HsQ.out.below hb)
      replace HB := Lib.hid (Bthen HB.out hb)
      clear hb
      have htL : (Rs.textS L).length ≤ 50000000 := by have := Rs.textS_len RQ.out; have := Rs.right_len RQ.out; omega
      go_wp2_with fail
      go_at_call 16
      refine (Text_r (HL.out.1.below HB.out) HsQ.out RQ.out).mono ?_
      rintro e w10 ⟨rfl, hb⟩
      replace HsX := Lib.hid (HsX.out.below hb)
      replace HsY := Lib.hid (HsY.out.below hb)
      replace HsR := Lib.hid (HsR.out.below hb)
      replace HsQ := Lib.hid (HsQ.out.below hb)
      replace HB := Lib.hid (Bthen HB.out hb)
      clear hb
      go_wp2_with fail
      go_at_call 17
      have hcall := Read_ok (HL.out.1.below HB.out) (s := { data := (Rs.textS L).toArray }) (by simp only [ByteArray.size, List.size_toArray]; omega) rfl (Rs.read_self RQ.out)
      refine hcall.mono ?_
      clear hcall
      rintro e w11 h
      obtain ⟨aT, cT, rfl, hs, hb⟩ := h
      replace HsX := Lib.hid (HsX.out.below hb)
      replace HsY := Lib.hid (HsY.out.below hb)
      replace HsR := Lib.hid (HsR.out.below hb)
      replace HsQ := Lib.hid (HsQ.out.below hb)
      replace HB := Lib.hid (Bthen HB.out hb)
      have HsT := Lib.hid hs
      clear hs hb
      by_cases h94 : Rs.bt z.data.toList 0 = 94
      · have z94 : ((z[0]).toNat : Int) = 94 := by rw [← Rs.esc_get (by omega)]; exact h94
        clear h94
        have Z94 := Lib.hid z94
        clear z94
        have hcall := Read_gen (HL.out.1.below HB.out) HZ.out.1
        go_wp2_with fail
        go_at_call 17
        refine hcall.mono ?_
        clear hcall
        rintro e q4 h
        obtain ⟨L2, n2, er, a2, c2, rfl, hs, hb⟩ := h
        replace HsX := Lib.hid (HsX.out.below hb)
        replace HsY := Lib.hid (HsY.out.below hb)
        replace HsR := Lib.hid (HsR.out.below hb)
        replace HsQ := Lib.hid (HsQ.out.below hb)
        replace HsT := Lib.hid (HsT.out.below hb)
        replace HB := Lib.hid (Bthen HB.out hb)
        clear hs hb
        have t4 := Z94.out
        go_wp2_with fail
        go_at_call 18
        refine (Eq_r HsT.out HsQ.out (rlen RQ.out) rfl).mono ?_
        rintro e q9 ⟨rfl, hb⟩
        replace HB := Lib.hid (Bthen HB.out hb)
        clear hb
        go_wp2
        go_ret
        exact ⟨rfl, HB.out⟩
      · have z94 : ¬ ((z[0]).toNat : Int) = 94 := by rw [← Rs.esc_get (by omega)]; exact h94
        have Z94 := Lib.hid z94
        have hcall := Read_ok (HL.out.1.below HB.out) HZ.out.1 HZ.out.2 (G5.out h94)
        clear h94 z94
        go_wp2_with fail
        go_at_call 17
        refine hcall.mono ?_
        clear hcall
        rintro e q4 h
        obtain ⟨aU, cU, rfl, hs, hb⟩ := h
        replace HsX := Lib.hid (HsX.out.below hb)
        replace HsY := Lib.hid (HsY.out.below hb)
        replace HsR := Lib.hid (HsR.out.below hb)
        replace HsQ := Lib.hid (HsQ.out.below hb)
        replace HsT := Lib.hid (HsT.out.below hb)
        replace HB := Lib.hid (Bthen HB.out hb)
        have HsU := Lib.hid hs
        clear hs hb
        by_cases h45 : ((z[0]).toNat : Int) = 45 ∧ q = 1
        · obtain ⟨h45, rfl⟩ := h45
          go_wp2_with fail
          go_at_call 18
          refine (Eq_r HsT.out HsQ.out (rlen RQ.out) rfl).mono ?_
          rintro e q9 ⟨rfl, hb⟩
          replace HB := Lib.hid (Bthen HB.out hb)
          clear hb
          go_wp2
          go_ret
          exact ⟨rfl, HB.out⟩
        · have t94 : (((z[0]).toNat : Int) == 94) = false := by rw [beq_eq_false_iff_ne]; exact Z94.out
          rcases (show (((z[0]).toNat : Int) == 45) = false ∨ ((((z[0]).toNat : Int) == 45) = true ∧ (((q : Int) + 2) == 3) = false) by
            rw [beq_eq_false_iff_ne, beq_iff_eq, beq_eq_false_iff_ne]; omega) with t45 | ⟨t45, tq⟩
          all_goals
            clear h45
            go_wp2_with fail
            go_at_call 20
            have hcall := Not_r HsQ.out RQ.out
            refine hcall.mono ?_
            clear hcall
            rintro e w12 h
            obtain ⟨aV, cV, rfl, hs, hb⟩ := h
            replace HsX := Lib.hid (HsX.out.below hb)
            replace HsY := Lib.hid (HsY.out.below hb)
            replace HsR := Lib.hid (HsR.out.below hb)
            replace HsQ := Lib.hid (HsQ.out.below hb)
            replace HsT := Lib.hid (HsT.out.below hb)
            replace HsU := Lib.hid (HsU.out.below hb)
            replace HB := Lib.hid (Bthen HB.out hb)
            have HsV := Lib.hid hs
            clear hs hb
            go_wp2_with fail
            go_at_call 18
            refine (Eq_r HsU.out HsV.out (rlen (Rs.notS_right RQ.out)) rfl).mono ?_
            rintro e q8 ⟨rfl, hb⟩
            replace HsX := Lib.hid (HsX.out.below hb)
            replace HsY := Lib.hid (HsY.out.below hb)
            replace HsR := Lib.hid (HsR.out.below hb)
            replace HsQ := Lib.hid (HsQ.out.below hb)
            replace HsT := Lib.hid (HsT.out.below hb)
            replace HsU := Lib.hid (HsU.out.below hb)
            replace HsV := Lib.hid (HsV.out.below hb)
            replace HB := Lib.hid (Bthen HB.out hb)
            clear hb
            go_wp2_with fail
            go_at_call 18
            refine (Eq_r HsT.out HsQ.out (rlen RQ.out) rfl).mono ?_
            rintro e q9 ⟨rfl, hb⟩
            replace HB := Lib.hid (Bthen HB.out hb)
            clear hb
            go_wp2
            go_ret
            exact ⟨rfl, HB.out⟩
  · have t1 : (Rs.textS X == Rs.textS Y) = false := by rw [beq_eq_false_iff_ne]; exact fun e => hXY (Rs.text_inj RX.out RY.out e)
    go_wp2_with fail
    go_at_call 18
    refine (Eq_n HsX.out HsY.out (rlen RX.out) hXY).mono ?_
    rintro e w8 ⟨rfl, hb⟩
    replace HsX := Lib.hid (HsX.out.below hb)
    replace HsY := Lib.hid (HsY.out.below hb)
    replace HsR := Lib.hid (HsR.out.below hb)
    replace HB := Lib.hid (Bthen HB.out hb)
    clear hb
    clear hXY
    go_wp2_with fail
    go_at_call 17
    have HLz := Lib.hid (HL.out.1.below HB.out)
    have hz1 : (({ data := #[91] } : ByteArray) ++ z).size ≤ 100000000000 := by rw [ByteArray.size_append]; have : ({ data := #[91] } : ByteArray).size = 1 := rfl; omega
    have hz2 : (({ data := #[91] } : ByteArray) ++ z).data.toList = 91 :: z.data.toList := by simp
    have hz3 : (({ data := #[91, 94] } : ByteArray) ++ z).size ≤ 100000000000 := by rw [ByteArray.size_append]; have : ({ data := #[91, 94] } : ByteArray).size = 2 := rfl; omega
    have hz4 : (({ data := #[91, 94] } : ByteArray) ++ z).data.toList = 91 :: 94 :: z.data.toList := by simp
    have HZ := Lib.hid (show _ ∧ _ from ⟨hz3, hz4⟩)
    clear hz3 hz4
    cases hr : Rs.readF (91 :: z.data.toList) with
    | none =>
      have hcall := Read_no HLz.out hz1 hz2 hr
      clear hr hz1 hz2
      refine hcall.mono ?_
      clear hcall
      rintro e w9 h
      obtain ⟨aQ, cQ, rfl, hs, hb⟩ := h
      replace HB := Lib.hid (Bthen HB.out hb)
      clear hs hb
      go_wp2
      go_ret
      exact ⟨rfl, HB.out⟩
    | some x =>
      obtain ⟨L, n⟩ := x
      obtain ⟨g1, g2, g3, g4, g5⟩ := Rs.read_any hr
      obtain ⟨q, rfl⟩ : ∃ q, n = q + 2 := ⟨n - 2, by omega⟩
      have hq1 : 1 ≤ q := by omega
      have hzl : z.data.toList.length = z.size := by rw [Lib.size_eq]
      have hq2 : q + 2 ≤ z.size + 1 := by omega
      have hq3 : q < z.size := by omega
      rw [show q + 2 - 2 = q by omega, Rs.esc_get hq3] at g4
      have RQ := Lib.hid g1
      have G5 := Lib.hid g5
      have G4 := Lib.hid g4
      have hcall := Read_ok HLz.out hz1 hz2 hr
      clear hr hz1 hz2 g1 g2 g3 g5 g4 hzl
      refine hcall.mono ?_
      clear hcall
      rintro e w9 h
      obtain ⟨aQ, cQ, rfl, hs, hb⟩ := h
      replace HsX := Lib.hid (HsX.out.below hb)
      replace HsY := Lib.hid (HsY.out.below hb)
      replace HsR := Lib.hid (HsR.out.below hb)
      replace HB := Lib.hid (Bthen HB.out hb)
      have HsQ := Lib.hid hs
      clear hs hb
      have t4 := G4.out
      go_wp2_with fail
      clear t4
      go_at_call 19
      refine (Right_r HsQ.out RQ.out).mono ?_
      rintro e q1 ⟨rfl, hb⟩
      replace HsX := Lib.hid (HsX.out.below hb)
      replace HsY := Lib.hid (HsY.out.below hb)
      replace HsR := Lib.hid (HsR.out.below hb)
      replace HsQ := Lib.hid (HsQ.out.below hb)
      replace HB := Lib.hid (Bthen HB.out hb)
      clear hb
      have htL : (Rs.textS L).length ≤ 50000000 := by have := Rs.textS_len RQ.out; have := Rs.right_len RQ.out; omega
      go_wp2_with fail
      go_at_call 16
      refine (Text_r (HL.out.1.below HB.out) HsQ.out RQ.out).mono ?_
      rintro e w10 ⟨rfl, hb⟩
      replace HsX := Lib.hid (HsX.out.below hb)
      replace HsY := Lib.hid (HsY.out.below hb)
      replace HsR := Lib.hid (HsR.out.below hb)
      replace HsQ := Lib.hid (HsQ.out.below hb)
      replace HB := Lib.hid (Bthen HB.out hb)
      clear hb
      go_wp2_with fail
      go_at_call 17
      have hcall := Read_ok (HL.out.1.below HB.out) (s := { data := (Rs.textS L).toArray }) (by simp only [ByteArray.size, List.size_toArray]; omega) rfl (Rs.read_self RQ.out)
      refine hcall.mono ?_
      clear hcall
      rintro e w11 h
      obtain ⟨aT, cT, rfl, hs, hb⟩ := h
      replace HsX := Lib.hid (HsX.out.below hb)
      replace HsY := Lib.hid (HsY.out.below hb)
      replace HsR := Lib.hid (HsR.out.below hb)
      replace HsQ := Lib.hid (HsQ.out.below hb)
      replace HB := Lib.hid (Bthen HB.out hb)
      have HsT := Lib.hid hs
      clear hs hb
      by_cases h94 : Rs.bt z.data.toList 0 = 94
      · have z94 : ((z[0]).toNat : Int) = 94 := by rw [← Rs.esc_get (by omega)]; exact h94
        clear h94
        have Z94 := Lib.hid z94
        clear z94
        have hcall := Read_gen (HL.out.1.below HB.out) HZ.out.1
        go_wp2_with fail
        go_at_call 17
        refine hcall.mono ?_
        clear hcall
        rintro e q4 h
        obtain ⟨L2, n2, er, a2, c2, rfl, hs, hb⟩ := h
        replace HsX := Lib.hid (HsX.out.below hb)
        replace HsY := Lib.hid (HsY.out.below hb)
        replace HsR := Lib.hid (HsR.out.below hb)
        replace HsQ := Lib.hid (HsQ.out.below hb)
        replace HsT := Lib.hid (HsT.out.below hb)
        replace HB := Lib.hid (Bthen HB.out hb)
        clear hs hb
        have t4 := Z94.out
        go_wp2_with fail
        go_at_call 18
        refine (Eq_r HsT.out HsQ.out (rlen RQ.out) rfl).mono ?_
        rintro e q9 ⟨rfl, hb⟩
        replace HB := Lib.hid (Bthen HB.out hb)
        clear hb
        go_wp2
        go_ret
        exact ⟨rfl, HB.out⟩
      · have z94 : ¬ ((z[0]).toNat : Int) = 94 := by rw [← Rs.esc_get (by omega)]; exact h94
        have Z94 := Lib.hid z94
        have hcall := Read_ok (HL.out.1.below HB.out) HZ.out.1 HZ.out.2 (G5.out h94)
        clear h94 z94
        go_wp2_with fail
        go_at_call 17
        refine hcall.mono ?_
        clear hcall
        rintro e q4 h
        obtain ⟨aU, cU, rfl, hs, hb⟩ := h
        replace HsX := Lib.hid (HsX.out.below hb)
        replace HsY := Lib.hid (HsY.out.below hb)
        replace HsR := Lib.hid (HsR.out.below hb)
        replace HsQ := Lib.hid (HsQ.out.below hb)
        replace HsT := Lib.hid (HsT.out.below hb)
        replace HB := Lib.hid (Bthen HB.out hb)
        have HsU := Lib.hid hs
        clear hs hb
        by_cases h45 : ((z[0]).toNat : Int) = 45 ∧ q = 1
        · obtain ⟨h45, rfl⟩ := h45
          go_wp2_with fail
          go_at_call 18
          refine (Eq_r HsT.out HsQ.out (rlen RQ.out) rfl).mono ?_
          rintro e q9 ⟨rfl, hb⟩
          replace HB := Lib.hid (Bthen HB.out hb)
          clear hb
          go_wp2
          go_ret
          exact ⟨rfl, HB.out⟩
        · have t94 : (((z[0]).toNat : Int) == 94) = false := by rw [beq_eq_false_iff_ne]; exact Z94.out
          rcases (show (((z[0]).toNat : Int) == 45) = false ∨ ((((z[0]).toNat : Int) == 45) = true ∧ (((q : Int) + 2) == 3) = false) by
            rw [beq_eq_false_iff_ne, beq_iff_eq, beq_eq_false_iff_ne]; omega) with t45 | ⟨t45, tq⟩
          all_goals
            clear h45
            go_wp2_with fail
            go_at_call 20
            have hcall := Not_r HsQ.out RQ.out
            refine hcall.mono ?_
            clear hcall
            rintro e w12 h
            obtain ⟨aV, cV, rfl, hs, hb⟩ := h
            replace HsX := Lib.hid (HsX.out.below hb)
            replace HsY := Lib.hid (HsY.out.below hb)
            replace HsR := Lib.hid (HsR.out.below hb)
            replace HsQ := Lib.hid (HsQ.out.below hb)
            replace HsT := Lib.hid (HsT.out.below hb)
            replace HsU := Lib.hid (HsU.out.below hb)
            replace HB := Lib.hid (Bthen HB.out hb)
            have HsV := Lib.hid hs
            clear hs hb
            go_wp2_with fail
            go_at_call 18
            refine (Eq_r HsU.out HsV.out (rlen (Rs.notS_right RQ.out)) rfl).mono ?_
            rintro e q8 ⟨rfl, hb⟩
            replace HsX := Lib.hid (HsX.out.below hb)
            replace HsY := Lib.hid (HsY.out.below hb)
            replace HsR := Lib.hid (HsR.out.below hb)
            replace HsQ := Lib.hid (HsQ.out.below hb)
            replace HsT := Lib.hid (HsT.out.below hb)
            replace HsU := Lib.hid (HsU.out.below hb)
            replace HsV := Lib.hid (HsV.out.below hb)
            replace HB := Lib.hid (Bthen HB.out hb)
            clear hb
            go_wp2_with fail
            go_at_call 18
            refine (Eq_r HsT.out HsQ.out (rlen RQ.out) rfl).mono ?_
            rintro e q9 ⟨rfl, hb⟩
            replace HB := Lib.hid (Bthen HB.out hb)
            clear hb
            go_wp2
            go_ret
            exact ⟨rfl, HB.out⟩
end Go.Proofs.YtkjilodmmcefbaaGreatDoor
