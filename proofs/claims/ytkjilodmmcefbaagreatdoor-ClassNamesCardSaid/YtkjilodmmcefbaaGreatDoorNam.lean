/- The law ClassNames: it returns true. -/
import Derived.Test.YtkjilodmmcefbaaGreatDoorCtr
import Derived.Test.YtkjilodmmcefbaaGreatDoorAwk
import Derived.Lib.SlBytesConst
namespace Go.Proofs.YtkjilodmmcefbaaGreatDoor
open Go.RowKit Go.Shelf
theorem Rs.names3_100 : Rs.right (Rs.namedS 100) = true ∧ Rs.notS (Rs.namedS 100) = Rs.namedS 68 ∧ Rs.readF [91, 92, 100, 93] = some (Rs.namedS 100, 4) ∧ Rs.readF [91, 94, 92, 100, 93] = some (Rs.namedS 68, 5) := by
  have h := Rs.names 100 (.inl rfl)
  exact ⟨by decide, rfl, h.1, h.2⟩
theorem Rs.names3_115 : Rs.right (Rs.namedS 115) = true ∧ Rs.notS (Rs.namedS 115) = Rs.namedS 83 ∧ Rs.readF [91, 92, 115, 93] = some (Rs.namedS 115, 4) ∧ Rs.readF [91, 94, 92, 115, 93] = some (Rs.namedS 83, 5) := by
  have h := Rs.names 115 (.inr (.inl rfl))
  exact ⟨by decide, rfl, h.1, h.2⟩
theorem Rs.names3_119 : Rs.right (Rs.namedS 119) = true ∧ Rs.notS (Rs.namedS 119) = Rs.namedS 87 ∧ Rs.readF [91, 92, 119, 93] = some (Rs.namedS 119, 4) ∧ Rs.readF [91, 94, 92, 119, 93] = some (Rs.namedS 87, 5) := by
  have h := Rs.names 119 (.inr (.inr rfl))
  exact ⟨by decide, rfl, h.1, h.2⟩
theorem low_cat (m : Nat) (ds : List UInt8) : Value.string (({ data := #[48, 49, 50, 51, 52, 53, 54, 55, 56, 57, 97, 98, 99, 100, 101, 102] } : ByteArray).extract (m % 16) (m % 16 + 1) ++ { data := ds.toArray }) = Value.string { data := (Rs.lowDig (m % 16) :: ds).toArray } := by
  have h := (Rs.lowDig_fin ⟨m % 16, Nat.mod_lt _ (by decide)⟩).2.2
  simp only at h
  congr 1
  apply ByteArray.ext
  apply Array.ext'
  simp only [ByteArray.data_append, ByteArray.data_extract, Array.toList_append, Array.toList_extract, List.extract_eq_take_drop]
  rw [show m % 16 + 1 - m % 16 = 1 by omega]
  show List.take 1 (List.drop (m % 16) [48, 49, 50, 51, 52, 53, 54, 55, 56, 57, 97, 98, 99, 100, 101, 102]) ++ ds = _
  rw [← h]
  rfl
theorem two_cat (b : Int) (h0 : 0 ≤ b) (h1 : b ≤ 255) : (({ data := #[92, 120] } : ByteArray) ++ (({ data := #[48, 49, 50, 51, 52, 53, 54, 55, 56, 57, 65, 66, 67, 68, 69, 70] } : ByteArray).extract (b / 16).toNat (b / 16 + 1).toNat ++ ({ data := #[48, 49, 50, 51, 52, 53, 54, 55, 56, 57, 97, 98, 99, 100, 101, 102] } : ByteArray).extract (b % 16).toNat (b % 16 + 1).toNat) ++ { data := #[48] }).data.toList =
    [92, 120, Rs.hexDig (b.toNat / 16), Rs.lowDig (b.toNat % 16), 48] := by
  obtain ⟨n, rfl⟩ := Int.eq_ofNat_of_zero_le h0
  have e1 : ((n : Int) / 16).toNat = n / 16 := by omega
  have e2 : ((n : Int) / 16 + 1).toNat = n / 16 + 1 := by omega
  have e3 : ((n : Int) % 16).toNat = n % 16 := by omega
  have e4 : ((n : Int) % 16 + 1).toNat = n % 16 + 1 := by omega
  have g1 := Rs.cap_fin ⟨n / 16, by omega⟩
  have g2 := (Rs.lowDig_fin ⟨n % 16, by omega⟩).2.2
  simp only at g1 g2
  simp only [e1, e2, e3, e4, Int.toNat_natCast, ByteArray.data_append, ByteArray.data_extract, Array.toList_append, Array.toList_extract, List.extract_eq_take_drop]
  rw [show n / 16 + 1 - n / 16 = 1 by omega, show n % 16 + 1 - n % 16 = 1 by omega]
  show [92, 120] ++ (List.take 1 (List.drop (n / 16) [48, 49, 50, 51, 52, 53, 54, 55, 56, 57, 65, 66, 67, 68, 69, 70]) ++ List.take 1 (List.drop (n % 16) [48, 49, 50, 51, 52, 53, 54, 55, 56, 57, 97, 98, 99, 100, 101, 102])) ++ [48] = _
  rw [← g1, ← g2]
  rfl
theorem two_esc (b : Int) (h0 : 0 ≤ b) (h1 : b ≤ 255) : Rs.escS [92, 120, Rs.hexDig (b.toNat / 16), Rs.lowDig (b.toNat % 16), 48] = some (b, 4) := by
  have h := Rs.esc_two_fin ⟨b.toNat / 16, by omega⟩ ⟨b.toNat % 16, by omega⟩
  simp only at h
  rw [h]
  congr 2
  omega
-- WALK
set_option maxRecDepth 100000 in
set_option maxHeartbeats 4000000 in
theorem ClassNames_calls (c b : Int) (w : World) (hL : Lv w) (hc0 : 0 ≤ c) (hc1 : c ≤ 4294967295) (hb0 : 0 ≤ b) (hb1 : b ≤ 255) :
    Calls Tryz.prog 5 #[.int .u32 c, .int .u8 b] w fun e w' => e = .returned (.bool true) ∧ Below w.heap.size w w' := by
  have HL := Lib.hid hL
  clear hL
  have kc := fun (w : World) (C : Array Value) (n c : Nat) => Lib.run_convert_bytes_const (P := Tryz.prog) w 40 5 C n c Tryz.underlying40 Tryz.underlying5
  go_enter Tryz.func5, Tryz.ntmps5
  go_wp2_with fail
  go_at_call 14
  refine (awake_calls w HL.out).mono ?_
  rintro e w1 ⟨rfl, hb⟩
  have HB := Lib.hid hb
  have hc0 : (w1.alloc (.cells #[.int .u8 100, .int .u8 115, .int .u8 119] 5 (3, 4))).cell? ⟨w1.heap.size, 0, none⟩ = some (.int .u8 100) := by simp only [World.cell?, World.alloc_heap_new]; simp
  have hc1' : (w1.alloc (.cells #[.int .u8 100, .int .u8 115, .int .u8 119] 5 (3, 4))).cell? ⟨w1.heap.size, 1, none⟩ = some (.int .u8 115) := by simp only [World.cell?, World.alloc_heap_new]; simp
  have hc2 : (w1.alloc (.cells #[.int .u8 100, .int .u8 115, .int .u8 119] 5 (3, 4))).cell? ⟨w1.heap.size, 2, none⟩ = some (.int .u8 119) := by simp only [World.cell?, World.alloc_heap_new]; simp
  have hps : w1.heap.size < (w1.alloc (.cells #[.int .u8 100, .int .u8 115, .int .u8 119] 5 (3, 4))).heap.size := by simp
  have hbB := Bnew (Below.refl w1.heap.size w1) (.cells #[.int .u8 100, .int .u8 115, .int .u8 119] 5 (3, 4))
  replace HB := Lib.hid (Bthen HB.out hbB)
  clear hb hbB
  go_wp2
  clear kc
  generalize w1.alloc (.cells #[.int .u8 100, .int .u8 115, .int .u8 119] 5 (3, 4)) = wB at *
  generalize w1.heap.size = pB at *
  go_loopw [35] (fun i wr => ∃ k : Nat, k ≤ 3 ∧ i = .int .i64 k ∧ Below wB.heap.size wB wr) (fun i _ => 3 - (intOf i).toNat)
  case atStart => exact ⟨0, Nat.zero_le _, rfl, Below.refl _ _⟩
  case round =>
    obtain ⟨k, hk, rfl, hb⟩ := hrel
    have hbs := hb.size
    have HBK := Lib.hid hb
    have hpw : pB < wr.heap.size := by omega
    have HB0 := HB
    replace HB := Lib.hid (Bthen HB.out hb)
    by_cases hlt : k < 3
    · rcases (show k = 0 ∨ k = 1 ∨ k = 2 by omega) with rfl | rfl | rfl
      · have c0 := hc0
        rw [← hb.cell (by exact hps)] at c0
        clear hc0 hc1' hc2 hb
        go_wp2_with fail
        go_at_call 21
        refine (Named_r (c := 100) rfl).mono ?_
        rintro e q1 h
        obtain ⟨aX, cX, rfl, hs, hb⟩ := h
        replace HB := Lib.hid (Bthen HB.out hb)
        have HsX := Lib.hid hs
        have hBB := Lib.hid hb
        clear hs hb
        go_wp2_with fail
        go_at_call 21
        refine (Named_r (c := 68) rfl).mono ?_
        rintro e q2 h
        obtain ⟨aY, cY, rfl, hs, hb⟩ := h
        replace HsX := Lib.hid (HsX.out.below hb)
        replace HB := Lib.hid (Bthen HB.out hb)
        have HsY := Lib.hid hs
        replace hBB := Lib.hid (Bthen hBB.out hb)
        clear hs hb
        obtain ⟨n1, n2, n3, n4⟩ := Rs.names3_100
        generalize Rs.namedS 100 = X at *
        generalize Rs.namedS 68 = Y at *
        have RX := Lib.hid n1
        have RY : Hid (Rs.right Y = true) := Lib.hid (by rw [← n2]; exact Rs.notS_right n1)
        have N := Lib.hid (show _ ∧ _ ∧ _ from ⟨n2, n3, n4⟩)
        clear n1 n2 n3 n4
        go_wp2_with fail
        go_at_call 20
        refine (Not_r HsX.out RX.out).mono ?_
        rintro e q3 h
        obtain ⟨aN, cN, rfl, hs, hb⟩ := h
        rw [N.out.1] at hs ⊢
        replace HsX := Lib.hid (HsX.out.below hb)
        replace HsY := Lib.hid (HsY.out.below hb)
        replace HB := Lib.hid (Bthen HB.out hb)
        replace hBB := Lib.hid (Bthen hBB.out hb)
        have HsN := Lib.hid hs
        clear hs hb
        go_wp2_with fail
        go_at_call 17
        refine (Read_ok (HL.out.below HB.out) (by decide +kernel) (by decide +kernel) N.out.2.1).mono ?_
        rintro e q4 h
        obtain ⟨aR, cR, rfl, hs, hb⟩ := h
        replace HsX := Lib.hid (HsX.out.below hb)
        replace HsY := Lib.hid (HsY.out.below hb)
        replace HsN := Lib.hid (HsN.out.below hb)
        replace HB := Lib.hid (Bthen HB.out hb)
        replace hBB := Lib.hid (Bthen hBB.out hb)
        have HsR := Lib.hid hs
        clear hs hb
        go_wp2_with fail
        go_at_call 17
        refine (Read_ok (HL.out.below HB.out) (by decide +kernel) (by decide +kernel) N.out.2.2).mono ?_
        rintro e q5 h
        obtain ⟨aM, cM, rfl, hs, hb⟩ := h
        replace HsX := Lib.hid (HsX.out.below hb)
        replace HsY := Lib.hid (HsY.out.below hb)
        replace HsN := Lib.hid (HsN.out.below hb)
        replace HsR := Lib.hid (HsR.out.below hb)
        replace HB := Lib.hid (Bthen HB.out hb)
        replace hBB := Lib.hid (Bthen hBB.out hb)
        have HsM := Lib.hid hs
        clear hs hb
        go_wp2_with fail
        go_at_call 18
        refine (Eq_r HsN.out HsY.out (rlen RY.out) rfl).mono ?_
        rintro e q ⟨rfl, hb⟩
        replace HsX := Lib.hid (HsX.out.below hb)
        replace HsY := Lib.hid (HsY.out.below hb)
        replace HsN := Lib.hid (HsN.out.below hb)
        replace HsR := Lib.hid (HsR.out.below hb)
        replace HsM := Lib.hid (HsM.out.below hb)
        replace HB := Lib.hid (Bthen HB.out hb)
        replace hBB := Lib.hid (Bthen hBB.out hb)
        clear hb
        go_wp2_with fail
        go_at_call 18
        refine (Eq_r HsR.out HsX.out (rlen RX.out) rfl).mono ?_
        rintro e q ⟨rfl, hb⟩
        replace HsX := Lib.hid (HsX.out.below hb)
        replace HsY := Lib.hid (HsY.out.below hb)
        replace HsN := Lib.hid (HsN.out.below hb)
        replace HsR := Lib.hid (HsR.out.below hb)
        replace HsM := Lib.hid (HsM.out.below hb)
        replace HB := Lib.hid (Bthen HB.out hb)
        replace hBB := Lib.hid (Bthen hBB.out hb)
        clear hb
        go_wp2_with fail
        go_at_call 18
        refine (Eq_r HsM.out HsY.out (rlen RY.out) rfl).mono ?_
        rintro e q ⟨rfl, hb⟩
        replace HsX := Lib.hid (HsX.out.below hb)
        replace HsY := Lib.hid (HsY.out.below hb)
        replace HsN := Lib.hid (HsN.out.below hb)
        replace HsR := Lib.hid (HsR.out.below hb)
        replace HsM := Lib.hid (HsM.out.below hb)
        replace HB := Lib.hid (Bthen HB.out hb)
        replace hBB := Lib.hid (Bthen hBB.out hb)
        clear hb
        go_wp2
        go_roundw
        case rel => exact ⟨1, by omega, by go_num, HBK.out.trans (hBB.out.mono hbs)⟩
        case measure => simp [intOf]
      · have c0 := hc1'
        rw [← hb.cell (by exact hps)] at c0
        clear hc0 hc1' hc2 hb
        go_wp2_with fail
        go_at_call 21
        refine (Named_r (c := 115) rfl).mono ?_
        rintro e q1 h
        obtain ⟨aX, cX, rfl, hs, hb⟩ := h
        replace HB := Lib.hid (Bthen HB.out hb)
        have HsX := Lib.hid hs
        have hBB := Lib.hid hb
        clear hs hb
        go_wp2_with fail
        go_at_call 21
        refine (Named_r (c := 83) rfl).mono ?_
        rintro e q2 h
        obtain ⟨aY, cY, rfl, hs, hb⟩ := h
        replace HsX := Lib.hid (HsX.out.below hb)
        replace HB := Lib.hid (Bthen HB.out hb)
        have HsY := Lib.hid hs
        replace hBB := Lib.hid (Bthen hBB.out hb)
        clear hs hb
        obtain ⟨n1, n2, n3, n4⟩ := Rs.names3_115
        generalize Rs.namedS 115 = X at *
        generalize Rs.namedS 83 = Y at *
        have RX := Lib.hid n1
        have RY : Hid (Rs.right Y = true) := Lib.hid (by rw [← n2]; exact Rs.notS_right n1)
        have N := Lib.hid (show _ ∧ _ ∧ _ from ⟨n2, n3, n4⟩)
        clear n1 n2 n3 n4
        go_wp2_with fail
        go_at_call 20
        refine (Not_r HsX.out RX.out).mono ?_
        rintro e q3 h
        obtain ⟨aN, cN, rfl, hs, hb⟩ := h
        rw [N.out.1] at hs ⊢
        replace HsX := Lib.hid (HsX.out.below hb)
        replace HsY := Lib.hid (HsY.out.below hb)
        replace HB := Lib.hid (Bthen HB.out hb)
        replace hBB := Lib.hid (Bthen hBB.out hb)
        have HsN := Lib.hid hs
        clear hs hb
        go_wp2_with fail
        go_at_call 17
        refine (Read_ok (HL.out.below HB.out) (by decide +kernel) (by decide +kernel) N.out.2.1).mono ?_
        rintro e q4 h
        obtain ⟨aR, cR, rfl, hs, hb⟩ := h
        replace HsX := Lib.hid (HsX.out.below hb)
        replace HsY := Lib.hid (HsY.out.below hb)
        replace HsN := Lib.hid (HsN.out.below hb)
        replace HB := Lib.hid (Bthen HB.out hb)
        replace hBB := Lib.hid (Bthen hBB.out hb)
        have HsR := Lib.hid hs
        clear hs hb
        go_wp2_with fail
        go_at_call 17
        refine (Read_ok (HL.out.below HB.out) (by decide +kernel) (by decide +kernel) N.out.2.2).mono ?_
        rintro e q5 h
        obtain ⟨aM, cM, rfl, hs, hb⟩ := h
        replace HsX := Lib.hid (HsX.out.below hb)
        replace HsY := Lib.hid (HsY.out.below hb)
        replace HsN := Lib.hid (HsN.out.below hb)
        replace HsR := Lib.hid (HsR.out.below hb)
        replace HB := Lib.hid (Bthen HB.out hb)
        replace hBB := Lib.hid (Bthen hBB.out hb)
        have HsM := Lib.hid hs
        clear hs hb
        go_wp2_with fail
        go_at_call 18
        refine (Eq_r HsN.out HsY.out (rlen RY.out) rfl).mono ?_
        rintro e q ⟨rfl, hb⟩
        replace HsX := Lib.hid (HsX.out.below hb)
        replace HsY := Lib.hid (HsY.out.below hb)
        replace HsN := Lib.hid (HsN.out.below hb)
        replace HsR := Lib.hid (HsR.out.below hb)
        replace HsM := Lib.hid (HsM.out.below hb)
        replace HB := Lib.hid (Bthen HB.out hb)
        replace hBB := Lib.hid (Bthen hBB.out hb)
        clear hb
        go_wp2_with fail
        go_at_call 18
        refine (Eq_r HsR.out HsX.out (rlen RX.out) rfl).mono ?_
        rintro e q ⟨rfl, hb⟩
        replace HsX := Lib.hid (HsX.out.below hb)
        replace HsY := Lib.hid (HsY.out.below hb)
        replace HsN := Lib.hid (HsN.out.below hb)
        replace HsR := Lib.hid (HsR.out.below hb)
        replace HsM := Lib.hid (HsM.out.below hb)
        replace HB := Lib.hid (Bthen HB.out hb)
        replace hBB := Lib.hid (Bthen hBB.out hb)
        clear hb
        go_wp2_with fail
        go_at_call 18
        refine (Eq_r HsM.out HsY.out (rlen RY.out) rfl).mono ?_
        rintro e q ⟨rfl, hb⟩
        replace HsX := Lib.hid (HsX.out.below hb)
        replace HsY := Lib.hid (HsY.out.below hb)
        replace HsN := Lib.hid (HsN.out.below hb)
        replace HsR := Lib.hid (HsR.out.below hb)
        replace HsM := Lib.hid (HsM.out.below hb)
        replace HB := Lib.hid (Bthen HB.out hb)
        replace hBB := Lib.hid (Bthen hBB.out hb)
        clear hb
        go_wp2
        go_roundw
        case rel => exact ⟨2, by omega, by go_num, HBK.out.trans (hBB.out.mono hbs)⟩
        case measure => simp [intOf]
      · have c0 := hc2
        rw [← hb.cell (by exact hps)] at c0
        clear hc0 hc1' hc2 hb
        go_wp2_with fail
        go_at_call 21
        refine (Named_r (c := 119) rfl).mono ?_
        rintro e q1 h
        obtain ⟨aX, cX, rfl, hs, hb⟩ := h
        replace HB := Lib.hid (Bthen HB.out hb)
        have HsX := Lib.hid hs
        have hBB := Lib.hid hb
        clear hs hb
        go_wp2_with fail
        go_at_call 21
        refine (Named_r (c := 87) rfl).mono ?_
        rintro e q2 h
        obtain ⟨aY, cY, rfl, hs, hb⟩ := h
        replace HsX := Lib.hid (HsX.out.below hb)
        replace HB := Lib.hid (Bthen HB.out hb)
        have HsY := Lib.hid hs
        replace hBB := Lib.hid (Bthen hBB.out hb)
        clear hs hb
        obtain ⟨n1, n2, n3, n4⟩ := Rs.names3_119
        generalize Rs.namedS 119 = X at *
        generalize Rs.namedS 87 = Y at *
        have RX := Lib.hid n1
        have RY : Hid (Rs.right Y = true) := Lib.hid (by rw [← n2]; exact Rs.notS_right n1)
        have N := Lib.hid (show _ ∧ _ ∧ _ from ⟨n2, n3, n4⟩)
        clear n1 n2 n3 n4
        go_wp2_with fail
        go_at_call 20
        refine (Not_r HsX.out RX.out).mono ?_
        rintro e q3 h
        obtain ⟨aN, cN, rfl, hs, hb⟩ := h
        rw [N.out.1] at hs ⊢
        replace HsX := Lib.hid (HsX.out.below hb)
        replace HsY := Lib.hid (HsY.out.below hb)
        replace HB := Lib.hid (Bthen HB.out hb)
        replace hBB := Lib.hid (Bthen hBB.out hb)
        have HsN := Lib.hid hs
        clear hs hb
        go_wp2_with fail
        go_at_call 17
        refine (Read_ok (HL.out.below HB.out) (by decide +kernel) (by decide +kernel) N.out.2.1).mono ?_
        rintro e q4 h
        obtain ⟨aR, cR, rfl, hs, hb⟩ := h
        replace HsX := Lib.hid (HsX.out.below hb)
        replace HsY := Lib.hid (HsY.out.below hb)
        replace HsN := Lib.hid (HsN.out.below hb)
        replace HB := Lib.hid (Bthen HB.out hb)
        replace hBB := Lib.hid (Bthen hBB.out hb)
        have HsR := Lib.hid hs
        clear hs hb
        go_wp2_with fail
        go_at_call 17
        refine (Read_ok (HL.out.below HB.out) (by decide +kernel) (by decide +kernel) N.out.2.2).mono ?_
        rintro e q5 h
        obtain ⟨aM, cM, rfl, hs, hb⟩ := h
        replace HsX := Lib.hid (HsX.out.below hb)
        replace HsY := Lib.hid (HsY.out.below hb)
        replace HsN := Lib.hid (HsN.out.below hb)
        replace HsR := Lib.hid (HsR.out.below hb)
        replace HB := Lib.hid (Bthen HB.out hb)
        replace hBB := Lib.hid (Bthen hBB.out hb)
        have HsM := Lib.hid hs
        clear hs hb
        go_wp2_with fail
        go_at_call 18
        refine (Eq_r HsN.out HsY.out (rlen RY.out) rfl).mono ?_
        rintro e q ⟨rfl, hb⟩
        replace HsX := Lib.hid (HsX.out.below hb)
        replace HsY := Lib.hid (HsY.out.below hb)
        replace HsN := Lib.hid (HsN.out.below hb)
        replace HsR := Lib.hid (HsR.out.below hb)
        replace HsM := Lib.hid (HsM.out.below hb)
        replace HB := Lib.hid (Bthen HB.out hb)
        replace hBB := Lib.hid (Bthen hBB.out hb)
        clear hb
        go_wp2_with fail
        go_at_call 18
        refine (Eq_r HsR.out HsX.out (rlen RX.out) rfl).mono ?_
        rintro e q ⟨rfl, hb⟩
        replace HsX := Lib.hid (HsX.out.below hb)
        replace HsY := Lib.hid (HsY.out.below hb)
        replace HsN := Lib.hid (HsN.out.below hb)
        replace HsR := Lib.hid (HsR.out.below hb)
        replace HsM := Lib.hid (HsM.out.below hb)
        replace HB := Lib.hid (Bthen HB.out hb)
        replace hBB := Lib.hid (Bthen hBB.out hb)
        clear hb
        go_wp2_with fail
        go_at_call 18
        refine (Eq_r HsM.out HsY.out (rlen RY.out) rfl).mono ?_
        rintro e q ⟨rfl, hb⟩
        replace HsX := Lib.hid (HsX.out.below hb)
        replace HsY := Lib.hid (HsY.out.below hb)
        replace HsN := Lib.hid (HsN.out.below hb)
        replace HsR := Lib.hid (HsR.out.below hb)
        replace HsM := Lib.hid (HsM.out.below hb)
        replace HB := Lib.hid (Bthen HB.out hb)
        replace hBB := Lib.hid (Bthen hBB.out hb)
        clear hb
        go_wp2
        go_roundw
        case rel => exact ⟨3, by omega, by go_num, HBK.out.trans (hBB.out.mono hbs)⟩
        case measure => simp [intOf]
    · obtain rfl : k = 3 := by omega
      clear hc0 hc1' hc2 hb hk hlt hps hpw HB0 HBK
      have hN0 : 0 ≤ c % 1114112 := by omega
      obtain ⟨N, hN⟩ : ∃ N : Nat, c % 1114112 = (N : Int) := ⟨(c % 1114112).toNat, by omega⟩
      have hN1 : N ≤ 1114111 := by omega
      have hdv : (c % 1114112).toNat = N := by omega
      have HN := Lib.hid hN
      clear hdv hN hN0
      go_wp2
      rw [HN.out]
      go_loop [19, 20] (fun d n => ∃ (m : Nat) (ds : List UInt8), n = .int .u32 (m : Int) ∧ d = .string ⟨ds.toArray⟩ ∧ m ≤ 1114111 ∧ Rs.hexRest m ds ++ ds = Rs.hexL 6 N) (fun d n => 2 * (intOf n).toNat + (match d with | .string s => if s.size = 0 then 1 else 0 | _ => 0))
      case atStart => exact ⟨N, [], rfl, rfl, hN1, by simp [Rs.hexRest]⟩
      case round =>
        obtain ⟨m, ds, rfl, rfl, hm, hd⟩ := hrel
        have hlen := congrArg List.length hd
        have hl6 := Rs.hexL_len 6 N 6 (by omega) (by decide)
        rw [List.length_append] at hlen
        have hds : ds.length ≤ 6 := by omega
        have HD := Lib.hid hd
        clear hd hlen hl6
        by_cases h0 : 0 < m
        · go_wp2
          refine ⟨⟨m / 16, Rs.lowDig (m % 16) :: ds, by go_num, low_cat m ds, by omega, ?_⟩, ?_⟩
          · rw [← Rs.hexRest_step (by omega) (.inl h0)]
            exact HD.out
          · rw [low_cat]
            simp only [intOf]
            rw [if_neg (by simp [ByteArray.size])]
            omega
        · obtain rfl : m = 0 := by omega
          cases ds with
          | nil =>
            go_wp2
            exact ⟨⟨0, [Rs.lowDig (0 % 16)], rfl, low_cat 0 [], by omega, (Rs.hexRest_step (n := 0) (d := []) (by decide) (.inr rfl)).symm.trans HD.out⟩, by decide +kernel⟩
          | cons x ds =>
            have hfin := Lib.hid (by rw [← HD.out, Rs.hexRest_done (by simp)] : Rs.hexL 6 N = x :: ds)
            clear HD
            have hne : (x :: ds).isEmpty = false := rfl
            generalize x :: ds = D at *
            have hD := hfin.out
            clear hfin
            subst hD
            go_wp2_with fail
            rw [HN.out]
            have HLw := Lib.hid (HL.out.below HB.out)
            cases hp : Rs.pt N
            · have he := Rs.esc_low (n := N) (by omega) [125]
              rw [hp] at he
              have hr : ¬ ((N : Int) ≤ 55295 ∨ 57344 ≤ (N : Int)) := by
                intro h
                have : Rs.pt N = true := by rw [Rs.pt_iff]; omega
                rw [hp] at this; cases this
              have h1 : 55295 < (N : Int) := by omega
              have h2 : (N : Int) < 57344 := by omega
              have hcall := Esc_no HLw.out (s := { data := #[92, 120, 123] } ++ { data := (Rs.hexL 6 N).toArray } ++ { data := #[125, 125] }) (by simp [ByteArray.size]; omega) (by simp) he
              clear hr he hp HN
              go_at_call 22
              refine hcall.mono ?_
              clear hcall
              rintro e q1 ⟨rfl, hb⟩
              replace HB := Lib.hid (Bthen HB.out hb)
              clear hb
              go_wp2
              go_ret
              exact ⟨rfl, HB.out⟩
            · have he := Rs.esc_low (n := N) (by omega) [125]
              rw [if_pos hp] at he
              have hread := Rs.read_low hp (by omega)
              have hr : (N : Int) ≤ 55295 ∨ (55295 < (N : Int) ∧ decide ((N : Int) < 57344) = false) := by
                have := (Rs.pt_iff N).1 hp
                simp only [decide_eq_false_iff_not]
                omega
              have hcall := Esc_ok HLw.out (s := { data := #[92, 120, 123] } ++ { data := (Rs.hexL 6 N).toArray } ++ { data := #[125, 125] }) (by simp [ByteArray.size]; omega) (by simp) he
              have HRD := Lib.hid hread
              clear he hread hp HN
              go_at_call 22
              refine hcall.mono ?_
              clear hcall
              rintro e q1 ⟨rfl, hb⟩
              replace HB := Lib.hid (Bthen HB.out hb)
              clear hb
              have hcall := Read_ok (HL.out.below HB.out) (s := { data := #[91, 92, 120, 123] } ++ { data := (Rs.hexL 6 N).toArray } ++ { data := #[125, 93] }) (by simp [ByteArray.size]; omega) (by simp) HRD.out
              clear HRD
              rcases hr with h1 | ⟨h1, h2⟩
              all_goals
                go_wp2_with fail
                go_at_call 17
                refine hcall.mono ?_
                clear hcall
                rintro e q2 h
                obtain ⟨aR, cR, rfl, hs, hb⟩ := h
                have HsR := Lib.hid hs
                replace HB := Lib.hid (Bthen HB.out hb)
                clear hs hb
                go_wp2_with fail
                go_at_call 18
                refine (Eq_r (HsR.out.alloc _) (Sl.alloc_new q2 [((N : Int), (N : Int))] 34) (by simp) rfl).mono ?_
                rintro e q3 ⟨rfl, hb⟩
                replace HB := Lib.hid (Bthen HB.out (Bthen (Bnew (Below.refl _ _) _) hb))
                clear hb
                go_wp2_with fail
                go_quiet (fail)
                have hesc := two_esc b hb0 hb1
                go_wp2_with fail
                go_at_call 22
                refine (Esc_ok ((HL.out.below HB.out).below (below_drewN (Below.refl _ _) _)) (by rw [Lib.size_eq, two_cat b hb0 hb1]; simp) (two_cat b hb0 hb1) hesc).mono ?_
                clear hesc
                rintro e q4 ⟨rfl, hb⟩
                replace HB := Lib.hid (Bthen HB.out ((below_drewN (Below.refl _ _) _).trans hb))
                clear hb
                go_wp2
                go_ret
                exact ⟨rfl, HB.out⟩
end Go.Proofs.YtkjilodmmcefbaaGreatDoor
