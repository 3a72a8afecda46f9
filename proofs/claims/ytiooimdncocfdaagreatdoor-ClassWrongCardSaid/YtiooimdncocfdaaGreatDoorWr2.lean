/- The law ClassWrong: ways 2. -/
import Derived.Test.YtiooimdncocfdaaGreatDoorWrA
import Derived.Deep.RegionWith
namespace Go.Proofs.YtiooimdncocfdaaGreatDoor
open Go.RowKit Go.Shelf
set_option maxRecDepth 100000 in
set_option maxHeartbeats 16000000 in
theorem wrong_2 (a : Option Addr) (ca : Nat) (l : List Rs.Sm) (x1 x2 n x4 : Int) (w : World) (hL : Lv w) (hsl : Sm w a ca l) (hn : ca ≤ maxLen) (h10 : 0 ≤ x1) (h11 : x1 ≤ 255) (h20 : 0 ≤ x2) (h40 : 0 ≤ x4) (h41 : x4 ≤ 255) (hc : x2 % 6 = 2) (_hn0 : -9223372036854775808 ≤ n) (_hn1 : n ≤ 9223372036854775807) :
    Calls Tryz.prog 3 #[.slice a l.length ca, .int .u8 x1, .int .u8 x2, .int .i64 n, .int .u8 x4] w fun e w' => e = .returned (.bool true) ∧ Below w.heap.size w w' := by
  have hlc := hsl.le
  obtain ⟨k, hk⟩ : ∃ k, k = min l.length 5 := ⟨_, rfl⟩
  have hkl : k ≤ l.length := by omega
  have hmin : min (l.length : Int) 5 = (k : Int) := by omega
  have hkc : k ≤ ca := by omega
  have HA := Lib.hid (And.intro hL (And.intro (show Sm w a ca (l.take 5) by rw [← good_take, ← hk]; exact hsl.take k) (And.intro hn (show (l.take 5).length = k by rw [← good_take, ← hk, List.length_take]; omega))))
  have HOK := Lib.hid hsl.ok
  clear hL hsl hn hk
  have hxw1 : IntKind.i64.wrap x1 = x1 := by rw [IntKind.wrap_i64]; omega
  have hxw4 : IntKind.i64.wrap x4 = x4 := by rw [IntKind.wrap_i64]; omega
  have htm : Int.tmod x2 6 = 2 := by rw [Int.tmod_eq_emod_of_nonneg h20]; exact hc
  go_enter Tryz.func3, Tryz.ntmps3
  go_wp2_with fail
  go_at_call 14
  refine (awake_calls w HA.out.1).mono ?_
  rintro e w1 ⟨rfl, hb⟩
  have HB1 := Lib.hid hb
  clear hb
  go_wp2_with fail
  go_at_call 15
  have hcall := Made_calls a ca (l.take 5) w1 (HA.out.2.1.below HB1.out) HA.out.2.2.1
  rw [HA.out.2.2.2] at hcall
  refine hcall.mono ?_
  clear hcall
  rintro e w2 ⟨v2, rfl, hown, hb⟩
  have hGE : Rs.goodS l = Rs.made (l.take 5) ++ [(1000000, 1000005)] := rfl
  have hGL := Rs.goodS_len l
  have HGR := Lib.hid (And.intro (Rs.goodS_right HOK.out) (Rs.goodS_hi HOK.out))
  generalize Rs.goodS l = G at *
  generalize Rs.made (l.take 5) = M at *
  have hGM : G.length = M.length + 1 := by rw [hGE]; simp
  have HGE : Hid (rFlat G = rFlat M ++ rFlat [(1000000, 1000005)]) := Lib.hid (by rw [hGE, rFlat_append])
  have HO2 := Lib.hid hown
  have HB2 := Lib.hid (Bthen HB1.out hb)
  have hb12 := hb.size
  have HB12 := Lib.hid hb
  clear hb hown hGE
  go_wp2_with (at_builtin; refine wpList_append_R rfl _ _ 24 27 rfl Tryz.underlying24 Tryz.info27 w1.heap.size v2 M.length (rFlat M) rfl (HO2.out.alloc _) (some ⟨w2.heap.size, 0, none⟩) [(1000000, 1000005)] 1 rfl (Sl.alloc_new w2 [(1000000, 1000005)] _) (by simp; omega) (by simp; omega) ?_; rintro v3 w3 hown3 - hb3)
  have hown4 : w3.ownsRow w1.heap.size 27 2 v3 (M.length + 1) (rFlat G) := by rw [HGE.out]; exact hown3
  rw [← hGM] at hown4
  obtain ⟨aG, cG, rfl, hsG⟩ := own_at3 hown4 rfl
  have HB3 := Lib.hid (Bthen HB1.out (hb3 _ (Bnew HB12.out _)))
  have HsG := Lib.hid hsG
  clear hown3 hown4 hsG hb3 HGE HO2 hGM
  go_at_call 16
  refine (cloneR_calls aG cG G w3 HsG.out.rd HsG.out.nil (by omega)).mono ?_
  rintro e w4 ⟨v4, rfl, hown, hb⟩
  obtain ⟨g, cb, rfl, hgb, hg⟩ := own_some3 hown (by omega)
  have HB34 := Lib.hid hb
  have HO4 := Lib.hid hown
  have h34 := hb.size
  have h33 := HB3.out.size
  obtain ⟨i, hi⟩ : ∃ i, i = x1.toNat % G.length := ⟨_, rfl⟩
  have hiG : i < G.length := by rw [hi]; exact Nat.mod_lt _ (by omega)
  have hmod : x1 % (G.length : Int) = (i : Int) := by rw [hi, Int.natCast_emod, Int.toNat_of_nonneg h10]
  have hmodt : Int.tmod x1 (G.length : Int) = (i : Int) := by rw [Int.tmod_eq_emod_of_nonneg h10]; exact hmod
  obtain ⟨r, hr⟩ : ∃ r, G[i]? = some r := ⟨_, List.getElem?_eq_getElem hiG⟩
  obtain ⟨lo, hi2⟩ := r
  have hgd : G.getD i (0, 0) = (lo, hi2) := by simp [List.getD, hr]
  have hrg := Rs.right_rg HGR.out.1 _ (List.mem_of_getElem? hr)
  have hhi := HGR.out.2 _ (List.mem_of_getElem? hr)
  obtain ⟨r1, r2, r3⟩ := hrg
  dsimp only at r1 r2 r3 hhi
  have hfl0 : (rFlat G)[i * 2]? = some (.int .i64 lo) := flat_at0 hr
  have hfl1 : (rFlat G)[i * 2 + 1]? = some (.int .i64 hi2) := flat_at1 hr
  have hFL : (rFlat G).length = G.length * 2 := rFlat_length G
  have c0 := (ownsRow_cell HO4.out hfl0).1
  have c1 := (ownsRow_cell HO4.out hfl1).1
  have f0 := (ownsRow_cell HO4.out hfl0).2
  have f1 := (ownsRow_cell HO4.out hfl1).2
  have HGD := Lib.hid (And.intro hgd hr)
  have hGn : ((G.length : Int) == 0) = false := beq_eq_false_iff_ne.2 (by omega)
  clear hown hb hi hr hgd hfl0 hfl1
  have fLL := (ownsRow_cell HO4.out (show (rFlat G)[(G.length - 1) * 2 + 1]? = some _ from List.getElem?_eq_getElem (by omega))).2
  have eLL := (ownsRow_cell HO4.out (show (rFlat G)[(G.length - 1) * 2 + 1]? = some _ from List.getElem?_eq_getElem (by omega))).1
  have hwG : IntKind.i64.wrap ((G.length : Int) - 1) = (G.length : Int) - 1 := by rw [IntKind.wrap_i64]; omega
  have hGt : ((G.length : Int) - 1).toNat = G.length - 1 := by omega
  go_wp2_with fail
  have hbadE : (rFlat G).set ((G.length - 1) * 2 + 1) (.int .i64 (max n 1114112)) = rFlat (Rs.badS G i 2 n) := by
    rw [rFlat_set1]
    unfold Rs.badS
    simp
  have hown5 := ownsRow_set HO4.out (j := (G.length - 1) * 2 + 1) (by rw [hFL]; omega) (.int .i64 (max n 1114112))
  rw [hbadE] at hown5
  have hlen : (Rs.badS G i 2 n).length = G.length := by unfold Rs.badS; simp
  obtain ⟨BAD, hBAD⟩ : ∃ BAD, BAD = Rs.badS G i 2 n := ⟨_, rfl⟩
  rw [← hBAD] at hown5 hlen
  obtain ⟨ab, cbb, eab, HSB0⟩ := own_at3 hown5 hlen
  cases eab
  have hb5 : Below w3.heap.size w3 (w4.setCell ⟨g, (G.length - 1) * 2 + 1, none⟩ (.int .i64 (max n 1114112))) := HB34.out.setCell hgb _
  clear hown5 hbadE c0 c1 f0 f1 eLL fLL
  generalize w4.setCell ⟨g, (G.length - 1) * 2 + 1, none⟩ (.int .i64 (max n 1114112)) = wB at *
  have hnb : G.length ≤ 1000 := by omega
  have HRB := Lib.hid (show Rs.right BAD = false by rw [hBAD]; exact Rs.badS_not (i := i) (way := 2) (n := n) HGR.out.1 hiG)
  have HER := Lib.hid (show Rs.ofErr BAD = 2 by rw [hBAD, Rs.badS_err HGR.out.1 hiG (by omega) HGR.out.2]; rfl)
  have hG1000 : G.length ≤ 1000 := by omega
  have hG0 : 0 < G.length := by omega
  clear hBAD hFL h33 h34 hgb hg hb12
  have HSB := Lib.hid HSB0
  have HSG := Lib.hid (HsG.out.below hb5)
  have HBW := Lib.hid (Bthen HB3.out hb5)
  clear HSB0 hb5 HsG HO4 HB34
  go_wp2_with fail
  go_at_call 18
  refine (wOr HSB.out hlen HSG.out rfl hnb hG1000 HRB.out).mono ?_
  rintro e u1 ⟨d1, f1, rfl, hb⟩
  replace HSB := Lib.hid (HSB.out.below hb)
  replace HSG := Lib.hid (HSG.out.below hb)
  replace HBW := Lib.hid (Bthen HBW.out hb)
  clear hb
  go_wp2_with fail
  go_at_call 19
  refine (wAnd HSB.out hlen HSG.out rfl hnb hG1000 HRB.out).mono ?_
  rintro e u2 ⟨d2, f2, rfl, hb⟩
  replace HSB := Lib.hid (HSB.out.below hb)
  replace HSG := Lib.hid (HSG.out.below hb)
  replace HBW := Lib.hid (Bthen HBW.out hb)
  clear hb
  go_wp2_with fail
  go_at_call 20
  refine (wMinus HSB.out hlen HSG.out rfl hnb hG1000 HRB.out).mono ?_
  rintro e u3 ⟨d3, f3, rfl, hb⟩
  replace HSB := Lib.hid (HSB.out.below hb)
  replace HSG := Lib.hid (HSG.out.below hb)
  replace HBW := Lib.hid (Bthen HBW.out hb)
  clear hb
  go_wp2_with fail
  go_at_call 21
  refine (wNot HSB.out hlen hnb HRB.out).mono ?_
  rintro e u4 ⟨d4, f4, rfl, hb⟩
  replace HSB := Lib.hid (HSB.out.below hb)
  replace HSG := Lib.hid (HSG.out.below hb)
  replace HBW := Lib.hid (Bthen HBW.out hb)
  clear hb
  go_wp2_with fail
  go_at_call 22
  refine (wText (HA.out.1.below HBW.out) HSB.out hlen hnb HRB.out).mono ?_
  rintro e u5 ⟨rfl, hb⟩
  replace HSB := Lib.hid (HSB.out.below hb)
  replace HSG := Lib.hid (HSG.out.below hb)
  replace HBW := Lib.hid (Bthen HBW.out hb)
  clear hb
  go_wp2
  obtain ⟨wE, hwE⟩ : ∃ wE, u5.alloc (.cells #[.int .i64 60, .int .i64 60, .int .i64 60, .int .i64 60, .int .i64 60] 30) = wE := ⟨_, rfl⟩
  have HC5 : Hid (∀ j, j < 5 → wE.cell? ⟨u5.heap.size, j, none⟩ = some (.int .i64 60)) := Lib.hid (fun j hj => by
    rw [← hwE]
    refine alloc_cell u5 #[.int .i64 60, .int .i64 60, .int .i64 60, .int .i64 60, .int .i64 60] 30 j _ ?_
    rcases (show j = 0 ∨ j = 1 ∨ j = 2 ∨ j = 3 ∨ j = 4 by omega) with rfl | rfl | rfl | rfl | rfl <;> rfl)
  have HBE : Hid (Below u5.heap.size u5 wE) := Lib.hid (by rw [← hwE]; exact Bnew (Below.refl _ _) _)
  have HSE : Hid (wE.heap.size = u5.heap.size + 1) := Lib.hid (by rw [← hwE]; simp)
  generalize u5.alloc (.cells #[.int .i64 60, .int .i64 60, .int .i64 60, .int .i64 60, .int .i64 60] 30) = wE' at *
  subst hwE
  go_loopw [157] (fun q wr => ∃ p : Nat, p ≤ 5 ∧ q = .int .i64 p ∧ Below wE'.heap.size wE' wr) (fun q _ => 5 - (intOf q).toNat)
  case atStart => exact ⟨0, Nat.zero_le _, rfl, Below.refl _ _⟩
  case round =>
    obtain ⟨p, hp, rfl, hb⟩ := hrel
    by_cases hp5 : p < 5
    · have cc := (hb.cell (p := ⟨u5.heap.size, p, none⟩) (by rw [HSE.out]; exact Nat.lt_succ_self _)).trans (HC5.out p hp5)
      have HBb := Lib.hid hb
      clear hb
      go_wp2
      go_roundw
      case rel => exact ⟨p + 1, by omega, by go_num, HBb.out⟩
      case measure => simp [intOf]; omega
    · have hge5 : (5 : Int) ≤ (p : Int) := by omega
      obtain ⟨wF, hwF⟩ : ∃ q, q = wr := ⟨_, rfl⟩
      subst hwF
      have hb : Below u5.heap.size u5 wF := Bthen HBE.out hb
      replace HSB := Lib.hid (HSB.out.below hb)
      replace HSG := Lib.hid (HSG.out.below hb)
      replace HBW := Lib.hid (Bthen HBW.out hb)
      clear hb hp hp5 HC5
      go_wp2_with fail
      go_at_call 23
      refine (wNext HSB.out hlen hnb HRB.out 0).mono ?_
      rintro e u7 ⟨rfl, hb⟩
      replace HSB := Lib.hid (HSB.out.below hb)
      replace HSG := Lib.hid (HSG.out.below hb)
      replace HBW := Lib.hid (Bthen HBW.out hb)
      clear hb
      go_wp2_with fail
      go_at_call 24
      refine (wRight HSB.out hlen hnb HRB.out).mono ?_
      rintro e u8 ⟨rfl, hb⟩
      replace HSB := Lib.hid (HSB.out.below hb)
      replace HSG := Lib.hid (HSG.out.below hb)
      replace HBW := Lib.hid (Bthen HBW.out hb)
      clear hb
      go_wp2_with fail
      go_at_call 24
      refine (wRight HSG.out rfl hG1000 HGR.out.1).mono ?_
      rintro e u9 ⟨rfl, hb⟩
      replace HSB := Lib.hid (HSB.out.below hb)
      replace HSG := Lib.hid (HSG.out.below hb)
      replace HBW := Lib.hid (Bthen HBW.out hb)
      clear hb
      go_wp2_with fail
      go_at_call 25
      refine (wCount HSB.out hlen hnb HRB.out).mono ?_
      rintro e u10 ⟨rfl, hb⟩
      replace HSB := Lib.hid (HSB.out.below hb)
      replace HSG := Lib.hid (HSG.out.below hb)
      replace HBW := Lib.hid (Bthen HBW.out hb)
      clear hb
      go_wp2_with fail
      go_at_call 26
      refine (wHas HSB.out hlen hnb HRB.out 1000001).mono ?_
      rintro e u11 ⟨rfl, hb⟩
      replace HSB := Lib.hid (HSB.out.below hb)
      replace HSG := Lib.hid (HSG.out.below hb)
      replace HBW := Lib.hid (Bthen HBW.out hb)
      clear hb
      go_wp2_with fail
      go_at_call 27
      refine (wOf HSB.out hlen hnb HER.out).mono ?_
      rintro e u12 ⟨d7, p7, q7, rfl, hb⟩
      replace HSB := Lib.hid (HSB.out.below hb)
      replace HSG := Lib.hid (HSG.out.below hb)
      replace HBW := Lib.hid (Bthen HBW.out hb)
      clear hb
      go_wp2_with fail
      go_at_call 22
      refine (gText (HA.out.1.below HBW.out) HSG.out rfl HGR.out.1).mono ?_
      rintro e u13 ⟨rfl, hb⟩
      replace HSB := Lib.hid (HSB.out.below hb)
      replace HSG := Lib.hid (HSG.out.below hb)
      replace HBW := Lib.hid (Bthen HBW.out hb)
      clear hb
      have htl : (Rs.textS G).length ≤ 1000 := by have := text_len3 HGR.out.1; omega
      have htp : 0 < (Rs.textS G).length := text_pos3 G
      obtain ⟨T, hT⟩ : ∃ T : ByteArray, T = ⟨(Rs.textS G).toArray⟩ := ⟨_, rfl⟩
      rw [← hT]
      have HTL : Hid (T.data.toList = Rs.textS G) := Lib.hid (by rw [hT])
      have hTs : T.size = (Rs.textS G).length := by rw [Lib.size_eq, HTL.out]
      clear hT
      obtain ⟨m, hm⟩ : ∃ m, m = x4.toNat % T.size := ⟨_, rfl⟩
      have hmT : m < T.size := by rw [hm]; exact Nat.mod_lt _ (by omega)
      have hmm : x4 % (T.size : Int) = (m : Int) := by rw [hm, Int.natCast_emod, Int.toNat_of_nonneg h40]
      have hmt : Int.tmod x4 (T.size : Int) = (m : Int) := by rw [Int.tmod_eq_emod_of_nonneg h40]; exact hmm
      have hmx : max (T.size : Int) 1 = (T.size : Int) := by omega
      have hTn : ((T.size : Int) == 0) = false := beq_eq_false_iff_ne.2 (by omega)
      have HEX : Hid ((T.extract 0 m).data.toList = (Rs.textS G).take m) := Lib.hid (by rw [Lib.extract_data, HTL.out]; simp)
      have HXS : Hid ((T.extract 0 m).size ≤ 100000) := Lib.hid (by rw [ByteArray.size_extract]; omega)
      have HMT : Hid (m < (Rs.textS G).length) := Lib.hid (by omega)
      clear hm htl htp hTs
      generalize hTX : T.extract 0 m = TX at *
      go_wp2_with fail
      go_at_call 28
      refine (gRead (HA.out.1.below HBW.out) HEX.out HMT.out HXS.out HGR.out.1 (by intro e; rw [e] at hG0; simp at hG0)).mono ?_
      rintro e u14 ⟨d8, q8, rfl, hb⟩
      replace HSB := Lib.hid (HSB.out.below hb)
      replace HSG := Lib.hid (HSG.out.below hb)
      replace HBW := Lib.hid (Bthen HBW.out hb)
      clear hb
      clear hTX hmm hmt hmx hTn hmT HEX HXS HMT HTL
      go_wp2_with fail
      go_ret
      exact ⟨rfl, HBW.out⟩
end Go.Proofs.YtiooimdncocfdaaGreatDoor
