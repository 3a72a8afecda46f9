/- The examples of chapter 06: awake returns true. -/
import Derived.Test.YtiooimdncocfdaaGreatDoorReA
import Derived.Test.YtiooimdncocfdaaGreatDoorText
import Derived.Test.YtiooimdncocfdaaGreatDoorSlC
import Derived.Test.YtiooimdncocfdaaGreatDoorSlD
import Derived.Test.YtiooimdncocfdaaGreatDoorCnt
namespace Go.Proofs.YtiooimdncocfdaaGreatDoor
open Go.RowKit Go.Shelf

set_option maxRecDepth 100000 in
set_option maxHeartbeats 8000000 in
theorem awake_calls (w : World) (hL : Lv w) :
    Calls Tryz.prog 14 #[] w fun e w' => e = .returned (.bool true) ∧ Below w.heap.size w w' := by
  have HL := Lib.hid hL
  have HB := Lib.hid (Below.refl w.heap.size w)
  clear hL
  go_enter Tryz.func14, Tryz.ntmps14
  have c1 := Of_calls (some ⟨w.heap.size, 0, none⟩) 3 [(5, 9), (7, 12), (14, 14)] (w.alloc (.cells (rFlat [(5, 9), (7, 12), (14, 14)]).toArray 27)) (Sl.alloc_new w [(5, 9), (7, 12), (14, 14)] 27) (by decide)
  rw [show Rs.ofErr [(5, 9), (7, 12), (14, 14)] = 0 by decide +kernel, show Rs.ofE [(5, 9), (7, 12), (14, 14)] = [(5, 12), (14, 14)] by decide +kernel] at c1
  go_wp2_with fail
  refine c1.mono ?_
  clear c1
  rintro e w1 ⟨v1, rfl, hrow1, hb1⟩
  obtain ⟨aA, cA, rfl, _, hs1⟩ := Sl.of_own hrow1
  have hbw2 := (show Below w.heap.size w w1 from (Bthen ((Below.refl _ _).alloc (Nat.le_refl _) _) hb1))
  replace HB := Lib.hid (Bthen HB.out hbw2)
  clear hbw2
  have kA := Lib.hid hs1
  clear hs1 hrow1 hb1
  have c3 := Of_calls (some ⟨w1.heap.size, 0, none⟩) 4 [(5, 9), (13, 13), (7, 12), (14, 14)] (w1.alloc (.cells (rFlat [(5, 9), (13, 13), (7, 12), (14, 14)]).toArray 27)) (Sl.alloc_new w1 [(5, 9), (13, 13), (7, 12), (14, 14)] 27) (by decide)
  rw [show Rs.ofErr [(5, 9), (13, 13), (7, 12), (14, 14)] = 0 by decide +kernel, show Rs.ofE [(5, 9), (13, 13), (7, 12), (14, 14)] = [(5, 14)] by decide +kernel] at c3
  go_wp2_with fail
  refine c3.mono ?_
  clear c3
  rintro e w3 ⟨v3, rfl, hrow3, hb3⟩
  obtain ⟨aB, cB, rfl, _, hs3⟩ := Sl.of_own hrow3
  have hbw4 := (show Below w1.heap.size w1 w3 from (Bthen ((Below.refl _ _).alloc (Nat.le_refl _) _) hb3))
  replace kA := Lib.hid (kA.out.below hbw4)
  replace HB := Lib.hid (Bthen HB.out hbw4)
  clear hbw4
  have kB := Lib.hid hs3
  clear hs3 hrow3 hb3
  have c5 := Of_calls (some ⟨w3.heap.size, 0, none⟩) 1 [(55000, 60000)] (w3.alloc (.cells (rFlat [(55000, 60000)]).toArray 27)) (Sl.alloc_new w3 [(55000, 60000)] 27) (by decide)
  rw [show Rs.ofErr [(55000, 60000)] = 0 by decide +kernel, show Rs.ofE [(55000, 60000)] = [(55000, 55295), (57344, 60000)] by decide +kernel] at c5
  go_wp2_with fail
  refine c5.mono ?_
  clear c5
  rintro e w5 ⟨v5, rfl, hrow5, hb5⟩
  obtain ⟨aC, cC, rfl, _, hs5⟩ := Sl.of_own hrow5
  have hbw6 := (show Below w3.heap.size w3 w5 from (Bthen ((Below.refl _ _).alloc (Nat.le_refl _) _) hb5))
  replace kA := Lib.hid (kA.out.below hbw6)
  replace kB := Lib.hid (kB.out.below hbw6)
  replace HB := Lib.hid (Bthen HB.out hbw6)
  clear hbw6
  have kC := Lib.hid hs5
  clear hs5 hrow5 hb5
  have c7 := Not_calls none 0 [] w5 (Sl.nil0 _) (by decide)
  rw [show Rs.err (Rs.right []) = 0 by decide +kernel, show Rs.notE [] = [(0, 55295), (57344, 1114111)] by decide +kernel] at c7
  go_wp2_with fail
  refine c7.mono ?_
  clear c7
  rintro e w7 ⟨v7, rfl, hrow7, hb7⟩
  obtain ⟨aE, cE, rfl, _, hs7⟩ := Sl.of_own hrow7
  have hbw8 := hb7
  replace kA := Lib.hid (kA.out.below hbw8)
  replace kB := Lib.hid (kB.out.below hbw8)
  replace kC := Lib.hid (kC.out.below hbw8)
  replace HB := Lib.hid (Bthen HB.out hbw8)
  clear hbw8
  have kE := Lib.hid hs7
  clear hs7 hrow7 hb7
  have c9 := eq_calls aA (some ⟨w7.heap.size, 0, none⟩) cA 2 [(5, 12), (14, 14)] [(5, 12), (14, 14)] (w7.alloc (.cells (rFlat [(5, 12), (14, 14)]).toArray 27)) (kA.out.below ((Below.refl _ _).alloc (Nat.le_refl _) _)) (Sl.alloc_new w7 [(5, 12), (14, 14)] 27) (by decide)
  rw [show decide (([(5, 12), (14, 14)] : Rs.S) = [(5, 12), (14, 14)]) = true by decide] at c9
  go_wp2_with fail
  refine c9.mono ?_
  clear c9
  rintro e w9 ⟨rfl, q9, hq9⟩
  have hb9 : Below w7.heap.size w7 w9 := by rw [hq9]; exact below_drewN ((Below.refl _ _).alloc (Nat.le_refl _) _) _
  clear hq9
  have hbw10 := hb9
  replace kA := Lib.hid (kA.out.below hbw10)
  replace kB := Lib.hid (kB.out.below hbw10)
  replace kC := Lib.hid (kC.out.below hbw10)
  replace kE := Lib.hid (kE.out.below hbw10)
  replace HB := Lib.hid (Bthen HB.out hbw10)
  clear hbw10
  clear hb9
  have c11 := eq_calls aB (some ⟨w9.heap.size, 0, none⟩) cB 1 [(5, 14)] [(5, 14)] (w9.alloc (.cells (rFlat [(5, 14)]).toArray 27)) (kB.out.below ((Below.refl _ _).alloc (Nat.le_refl _) _)) (Sl.alloc_new w9 [(5, 14)] 27) (by decide)
  rw [show decide (([(5, 14)] : Rs.S) = [(5, 14)]) = true by decide] at c11
  go_wp2_with fail
  refine c11.mono ?_
  clear c11
  rintro e w11 ⟨rfl, q11, hq11⟩
  have hb11 : Below w9.heap.size w9 w11 := by rw [hq11]; exact below_drewN ((Below.refl _ _).alloc (Nat.le_refl _) _) _
  clear hq11
  have hbw12 := hb11
  replace kA := Lib.hid (kA.out.below hbw12)
  replace kB := Lib.hid (kB.out.below hbw12)
  replace kC := Lib.hid (kC.out.below hbw12)
  replace kE := Lib.hid (kE.out.below hbw12)
  replace HB := Lib.hid (Bthen HB.out hbw12)
  clear hbw12
  clear hb11
  have c13 := eq_calls aC (some ⟨w11.heap.size, 0, none⟩) cC 2 [(55000, 55295), (57344, 60000)] [(55000, 55295), (57344, 60000)] (w11.alloc (.cells (rFlat [(55000, 55295), (57344, 60000)]).toArray 27)) (kC.out.below ((Below.refl _ _).alloc (Nat.le_refl _) _)) (Sl.alloc_new w11 [(55000, 55295), (57344, 60000)] 27) (by decide)
  rw [show decide (([(55000, 55295), (57344, 60000)] : Rs.S) = [(55000, 55295), (57344, 60000)]) = true by decide] at c13
  go_wp2_with fail
  refine c13.mono ?_
  clear c13
  rintro e w13 ⟨rfl, q13, hq13⟩
  have hb13 : Below w11.heap.size w11 w13 := by rw [hq13]; exact below_drewN ((Below.refl _ _).alloc (Nat.le_refl _) _) _
  clear hq13
  have hbw14 := hb13
  replace kA := Lib.hid (kA.out.below hbw14)
  replace kB := Lib.hid (kB.out.below hbw14)
  replace kC := Lib.hid (kC.out.below hbw14)
  replace kE := Lib.hid (kE.out.below hbw14)
  replace HB := Lib.hid (Bthen HB.out hbw14)
  clear hbw14
  clear hb13
  have c15 := count_calls aC cC [(55000, 55295), (57344, 60000)] w13 kC.out.rd (fun b off e => (kC.out.sp _ e).2) (by decide)
  rw [show (if Rs.right [(55000, 55295), (57344, 60000)] then Rs.cnt [(55000, 55295), (57344, 60000)] else 0) = 2953 by decide +kernel] at c15
  go_wp2_with fail
  refine c15.mono ?_
  clear c15
  rintro e w15 ⟨rfl, hb15⟩
  have hbw16 := hb15
  replace kA := Lib.hid (kA.out.below hbw16)
  replace kB := Lib.hid (kB.out.below hbw16)
  replace kC := Lib.hid (kC.out.below hbw16)
  replace kE := Lib.hid (kE.out.below hbw16)
  replace HB := Lib.hid (Bthen HB.out hbw16)
  clear hbw16
  clear hb15
  have c17 := eq_calls aE (some ⟨w15.heap.size, 0, none⟩) cE 2 [(0, 55295), (57344, 1114111)] [(0, 55295), (57344, 1114111)] (w15.alloc (.cells (rFlat [(0, 55295), (57344, 1114111)]).toArray 27)) (kE.out.below ((Below.refl _ _).alloc (Nat.le_refl _) _)) (Sl.alloc_new w15 [(0, 55295), (57344, 1114111)] 27) (by decide)
  rw [show decide (([(0, 55295), (57344, 1114111)] : Rs.S) = [(0, 55295), (57344, 1114111)]) = true by decide] at c17
  go_wp2_with fail
  refine c17.mono ?_
  clear c17
  rintro e w17 ⟨rfl, q17, hq17⟩
  have hb17 : Below w15.heap.size w15 w17 := by rw [hq17]; exact below_drewN ((Below.refl _ _).alloc (Nat.le_refl _) _) _
  clear hq17
  have hbw18 := hb17
  replace kA := Lib.hid (kA.out.below hbw18)
  replace kB := Lib.hid (kB.out.below hbw18)
  replace kC := Lib.hid (kC.out.below hbw18)
  replace kE := Lib.hid (kE.out.below hbw18)
  replace HB := Lib.hid (Bthen HB.out hbw18)
  clear hbw18
  clear hb17
  clear kA
  clear kB
  clear kC
  clear kE
  have c19 := read_calls (⟨#[91, 97, 45, 99, 95, 92, 100, 45, 93, 120]⟩ : ByteArray) w17 (HL.out.below HB.out) (by decide)
  have r19 := Rs.read_some (show Rs.readF [91, 97, 45, 99, 95, 92, 100, 45, 93, 120] = some ([(45, 45), (48, 57), (95, 95), (97, 99)], 9) by decide +kernel)
  unfold RdPost at c19
  rw [show (⟨#[91, 97, 45, 99, 95, 92, 100, 45, 93, 120]⟩ : ByteArray).data.toList = [91, 97, 45, 99, 95, 92, 100, 45, 93, 120] from rfl, r19.1, r19.2.1, r19.2.2] at c19
  go_wp2_with fail
  refine c19.mono ?_
  clear c19 r19
  rintro e w19 ⟨v19, rfl, hrow19, hb19⟩
  obtain ⟨aF, cF, rfl, _, hs19⟩ := Sl.of_own hrow19
  have hbw20 := hb19
  replace HB := Lib.hid (Bthen HB.out hbw20)
  clear hbw20
  have kF := Lib.hid hs19
  clear hs19 hrow19 hb19
  have c21 := read_calls (⟨#[91, 94, 92, 120, 123, 48, 125, 45, 92, 120, 54, 48, 93]⟩ : ByteArray) w19 (HL.out.below HB.out) (by decide)
  have r21 := Rs.read_some (show Rs.readF [91, 94, 92, 120, 123, 48, 125, 45, 92, 120, 54, 48, 93] = some ([(97, 55295), (57344, 1114111)], 13) by decide +kernel)
  unfold RdPost at c21
  rw [show (⟨#[91, 94, 92, 120, 123, 48, 125, 45, 92, 120, 54, 48, 93]⟩ : ByteArray).data.toList = [91, 94, 92, 120, 123, 48, 125, 45, 92, 120, 54, 48, 93] from rfl, r21.1, r21.2.1, r21.2.2] at c21
  go_wp2_with fail
  refine c21.mono ?_
  clear c21 r21
  rintro e w21 ⟨v21, rfl, hrow21, hb21⟩
  obtain ⟨aG, cG, rfl, _, hs21⟩ := Sl.of_own hrow21
  have hbw22 := hb21
  replace kF := Lib.hid (kF.out.below hbw22)
  replace HB := Lib.hid (Bthen HB.out hbw22)
  clear hbw22
  have kG := Lib.hid hs21
  clear hs21 hrow21 hb21
  have c23 := escape_calls (⟨#[92, 120, 123, 101, 57, 125, 122]⟩ : ByteArray) w21 (HL.out.below HB.out) (by decide)
  have r23 := esc_some (show Rs.escS [92, 120, 123, 101, 57, 125, 122] = some (233, 6) by decide +kernel)
  unfold EscPost at c23
  rw [show (⟨#[92, 120, 123, 101, 57, 125, 122]⟩ : ByteArray).data.toList = [92, 120, 123, 101, 57, 125, 122] from rfl, r23.1, r23.2.1, r23.2.2] at c23
  go_wp2_with fail
  refine c23.mono ?_
  clear c23 r23
  rintro e w23 ⟨rfl, hb23⟩
  have hbw24 := hb23
  replace kF := Lib.hid (kF.out.below hbw24)
  replace kG := Lib.hid (kG.out.below hbw24)
  replace HB := Lib.hid (Bthen HB.out hbw24)
  clear hbw24
  clear hb23
  have hbt := (show Below w23.heap.size w23 (w23.alloc (.cells (rFlat [(45, 45), (97, 99)]).toArray 27)) from (Below.refl _ _).alloc (Nat.le_refl _) _)
  have c25 := text_calls (some ⟨w23.heap.size, 0, none⟩) 2 [(45, 45), (97, 99)] (w23.alloc (.cells (rFlat [(45, 45), (97, 99)]).toArray 27)) (Sl.alloc_new w23 [(45, 45), (97, 99)] 27) (by decide) (HL.out.below (Bthen HB.out hbt))
  rw [show Rs.err (Rs.right [(45, 45), (97, 99)]) = 0 by decide +kernel, show Rs.textE [(45, 45), (97, 99)] = [91, 92, 120, 123, 50, 68, 125, 97, 45, 99, 93] by decide +kernel] at c25
  go_wp2_with fail
  refine c25.mono ?_
  clear c25
  rintro e w25 ⟨rfl, hb25⟩
  have hbw26 := (Bthen hbt hb25)
  replace kF := Lib.hid (kF.out.below hbw26)
  replace kG := Lib.hid (kG.out.below hbw26)
  replace HB := Lib.hid (Bthen HB.out hbw26)
  clear hbw26
  clear hb25 hbt
  have c27 := eq_calls aF (some ⟨w25.heap.size, 0, none⟩) cF 4 [(45, 45), (48, 57), (95, 95), (97, 99)] [(45, 45), (48, 57), (95, 95), (97, 99)] (w25.alloc (.cells (rFlat [(45, 45), (48, 57), (95, 95), (97, 99)]).toArray 27)) (kF.out.below ((Below.refl _ _).alloc (Nat.le_refl _) _)) (Sl.alloc_new w25 [(45, 45), (48, 57), (95, 95), (97, 99)] 27) (by decide)
  rw [show decide (([(45, 45), (48, 57), (95, 95), (97, 99)] : Rs.S) = [(45, 45), (48, 57), (95, 95), (97, 99)]) = true by decide] at c27
  go_wp2_with fail
  refine c27.mono ?_
  clear c27
  rintro e w27 ⟨rfl, q27, hq27⟩
  have hb27 : Below w25.heap.size w25 w27 := by rw [hq27]; exact below_drewN ((Below.refl _ _).alloc (Nat.le_refl _) _) _
  clear hq27
  have hbw28 := hb27
  replace kF := Lib.hid (kF.out.below hbw28)
  replace kG := Lib.hid (kG.out.below hbw28)
  replace HB := Lib.hid (Bthen HB.out hbw28)
  clear hbw28
  clear hb27
  have c29 := eq_calls aG (some ⟨w27.heap.size, 0, none⟩) cG 2 [(97, 55295), (57344, 1114111)] [(97, 55295), (57344, 1114111)] (w27.alloc (.cells (rFlat [(97, 55295), (57344, 1114111)]).toArray 27)) (kG.out.below ((Below.refl _ _).alloc (Nat.le_refl _) _)) (Sl.alloc_new w27 [(97, 55295), (57344, 1114111)] 27) (by decide)
  rw [show decide (([(97, 55295), (57344, 1114111)] : Rs.S) = [(97, 55295), (57344, 1114111)]) = true by decide] at c29
  go_wp2_with fail
  refine c29.mono ?_
  clear c29
  rintro e w29 ⟨rfl, q29, hq29⟩
  have hb29 : Below w27.heap.size w27 w29 := by rw [hq29]; exact below_drewN ((Below.refl _ _).alloc (Nat.le_refl _) _) _
  clear hq29
  have hbw30 := hb29
  replace kF := Lib.hid (kF.out.below hbw30)
  replace kG := Lib.hid (kG.out.below hbw30)
  replace HB := Lib.hid (Bthen HB.out hbw30)
  clear hbw30
  clear hb29
  clear kF kG
  go_wp2_with fail
  have hbl := heap_alloc_new w29 (.cells #[.string ⟨#[91, 93]⟩, .string ⟨#[91, 98, 45, 97, 93]⟩, .string ⟨#[91, 97, 45, 45, 93]⟩, .string ⟨#[91, 45, 45, 97, 93]⟩, .string ⟨#[91, 92, 113, 93]⟩, .string ⟨#[91, 97]⟩] 9)
  have HB2 := Lib.hid (show Below w.heap.size w (w29.alloc (.cells #[.string ⟨#[91, 93]⟩, .string ⟨#[91, 98, 45, 97, 93]⟩, .string ⟨#[91, 97, 45, 45, 93]⟩, .string ⟨#[91, 45, 45, 97, 93]⟩, .string ⟨#[91, 92, 113, 93]⟩, .string ⟨#[91, 97]⟩] 9)) from Bthen HB.out ((Below.refl _ _).alloc (Nat.le_refl _) _))
  clear HB
  generalize w29.heap.size = G at *
  go_loopw [162] (fun i wr => ∃ k : Nat, k ≤ 6 ∧ i = .int .i64 k ∧ wr.heap[G]? = some (.cells #[.string ⟨#[91, 93]⟩, .string ⟨#[91, 98, 45, 97, 93]⟩, .string ⟨#[91, 97, 45, 45, 93]⟩, .string ⟨#[91, 45, 45, 97, 93]⟩, .string ⟨#[91, 92, 113, 93]⟩, .string ⟨#[91, 97]⟩] 9 (0, 0)) ∧ Hid (Below w.heap.size w wr)) (fun i _ => 6 - (intOf i).toNat)
  case atStart => exact ⟨0, by omega, rfl, hbl, HB2⟩
  case round =>
    clear hbl HB2
    obtain ⟨k, hk, rfl, hbl, HB⟩ := hrel
    by_cases hlt : k < 6
    · obtain ⟨s, hs, hsz, hn⟩ : ∃ s : ByteArray, (#[.string ⟨#[91, 93]⟩, .string ⟨#[91, 98, 45, 97, 93]⟩, .string ⟨#[91, 97, 45, 45, 93]⟩, .string ⟨#[91, 45, 45, 97, 93]⟩, .string ⟨#[91, 92, 113, 93]⟩, .string ⟨#[91, 97]⟩] : Array Value)[k]? = some (.string s) ∧ s.size ≤ 100 ∧ Rs.readF s.data.toList = none := by
        obtain ⟨e1, e2, e3, e4, e5, e6⟩ := Rs.ex5
        rcases (show k = 0 ∨ k = 1 ∨ k = 2 ∨ k = 3 ∨ k = 4 ∨ k = 5 by omega) with rfl | rfl | rfl | rfl | rfl | rfl
        · exact ⟨_, rfl, by decide, e1⟩
        · exact ⟨_, rfl, by decide, e2⟩
        · exact ⟨_, rfl, by decide, e3⟩
        · exact ⟨_, rfl, by decide, e4⟩
        · exact ⟨_, rfl, by decide, e5⟩
        · exact ⟨_, rfl, by decide, e6⟩
      have c0 : wr.cell? ⟨G, k, none⟩ = some (.string s) := (cell_of_row wr G k _ _ _ hbl).trans hs
      have hrd := read_calls s wr (HL.out.below HB.out) (by omega)
      have hr := Rs.read_none hn
      unfold RdPost at hrd
      rw [hr.1, hr.2.1, hr.2.2] at hrd
      have HBL := Lib.hid hbl
      have hG : G < wr.heap.size := (Array.getElem?_eq_some_iff.1 hbl).1
      clear hbl hs hn hr
      go_wp2_with (go_at_call 28; refine hrd.mono ?_; clear hrd; rintro e w2 ⟨v2, rfl, hrow2, hb2⟩)
      go_roundw
      case rel => exact ⟨k + 1, by omega, by go_num, (hb2.block G hG).trans HBL.out, Lib.hid (Bthen HB.out hb2)⟩
      case measure => simp [intOf]; omega
    · obtain rfl : k = 6 := by omega
      go_wp2
      go_ret
      exact ⟨rfl, HB.out⟩
end Go.Proofs.YtiooimdncocfdaaGreatDoor
