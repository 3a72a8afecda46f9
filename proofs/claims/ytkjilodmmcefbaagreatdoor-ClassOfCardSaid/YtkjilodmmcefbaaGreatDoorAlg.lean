/- The law ClassAlgebra: it returns true. -/
import Derived.Test.YtkjilodmmcefbaaGreatDoorAlgA
import Derived.Test.YtkjilodmmcefbaaGreatDoorAbt
import Derived.Test.YtkjilodmmcefbaaGreatDoorMaA
import Derived.Test.YtkjilodmmcefbaaGreatDoorAwk
namespace Go.Proofs.YtkjilodmmcefbaaGreatDoor
open Go.RowKit Go.Shelf

theorem PairIs.un {w : World} {l : Rs.S} {e : Ending} {w' : World} (h : PairIs w l e w') : ∃ a cap, e = .returned (.tuple #[.slice a l.length cap, .int .i64 0]) ∧ Sl w' a cap l ∧ Below w.heap.size w w' := h
theorem LsR.of (W : World) (Ls : List (Option Addr × Nat × Rs.S)) (T : TypeId) (xs : Array Value) (hxs : xs = (Ls.map fun x => Value.slice x.1 x.2.2.length x.2.1).toArray) (h : ∀ x ∈ Ls, Sl W x.1 x.2.1 x.2.2) : LsR (W.alloc (.cells xs T)) W.heap.size 0 Ls := by
  subst hxs
  refine ⟨by simp, fun i z hz => ⟨?_, (h z (List.mem_of_getElem? hz)).alloc _⟩⟩
  simp only [World.cell?, World.alloc_heap_new, Nat.zero_add]
  simp [hz]
theorem LsR.sls {w : World} {B off : Nat} {Ls : List (Option Addr × Nat × Rs.S)} (h : LsR w B off Ls) : SlS w (some ⟨B, off, none⟩) (Ls.map (·.2.2)) :=
  ⟨fun _ => ⟨B, off, rfl, h.1, fun i l hl => by
    simp only [List.getElem?_map, Option.map_eq_some_iff] at hl
    obtain ⟨x, hx, rfl⟩ := hl
    exact ⟨x.1, x.2.1, (h.2 i x hx).1, (h.2 i x hx).2⟩⟩⟩
theorem own_ints {W : World} {base : Nat} {v : Value} {n : Nat} {L : List Int} (h : W.ownsRow base 3 1 v n (ints L)) (hn : 0 < n) :
    ∃ g cap, v = .slice (some ⟨g, 0, none⟩) n cap ∧ g < W.heap.size ∧ n ≤ cap ∧ ∀ (j : Nat) z, L[j]? = some z → W.cell? ⟨g, j, none⟩ = some (.int .i64 z) := by
  rcases h.2 with ⟨_, h0⟩ | ⟨g, cap, cur, rfl, hb, hg, h1, h2, h3, h4⟩
  · omega
  · exact ⟨g, cap, rfl, (Array.getElem?_eq_some_iff.1 hg).1, h1, fun j z hz => (ownsRow_cell h (j := j) (u := .int .i64 z) (by simp [ints, hz])).1⟩
-- WALK
set_option maxRecDepth 100000 in
set_option maxHeartbeats 8000000 in
theorem ClassAlgebra_calls (a b : Option Addr) (ca cb : Nat) (l m : List Rs.Sm) (c : Int) (w : World) (hL : Lv w) (hsl : Sm w a ca l) (hsm : Sm w b cb m) (hn : ca ≤ maxLen) (hn2 : cb ≤ maxLen) (hc0 : 0 ≤ c) (hc1 : c ≤ 4294967295) :
    Calls Tryz.prog 11 #[.slice a l.length ca, .slice b m.length cb, .int .u32 c] w fun e w' => e = .returned (.bool true) ∧ Below w.heap.size w w' := by
  have HL := Lib.hid (show _ ∧ _ ∧ _ ∧ _ ∧ _ from ⟨hL, hsl, hsm, hn, hn2⟩)
  clear hL hsl hsm hn hn2
  go_enter Tryz.func11, Tryz.ntmps11
  go_wp2_with fail
  go_at_call 14
  refine (awake_calls w HL.out.1).mono ?_
  rintro e w1 ⟨rfl, hb⟩
  have HB := Lib.hid hb
  clear hb
  go_wp2_with fail
  go_at_call 15
  refine (Made_calls a ca l w1 (HL.out.2.1.below HB.out) HL.out.2.2.2.1).mono ?_
  rintro e w2 ⟨v, rfl, hown, hb⟩
  replace HB : Hid (Below w.heap.size w w2) := Lib.hid (Bthen HB.out hb)
  have RX := Lib.hid (Rs.made_right HL.out.2.1.ok)
  have hXl := Rs.made_len l
  generalize Rs.made l = X at RX hXl hown
  obtain ⟨aX, cX, rfl, _, hs⟩ := Sl.of_own hown
  have HsX := Lib.hid hs
  clear hs hb hown
  go_wp2_with fail
  go_at_call 15
  refine (Made_calls b cb m w2 (HL.out.2.2.1.below HB.out) HL.out.2.2.2.2).mono ?_
  rintro e w3 ⟨v, rfl, hown, hb⟩
  replace HB : Hid (Below w.heap.size w w3) := Lib.hid (Bthen HB.out hb)
  have RY := Lib.hid (Rs.made_right HL.out.2.2.1.ok)
  have hYl := Rs.made_len m
  generalize Rs.made m = Y at RY hYl hown
  obtain ⟨aY, cY, rfl, _, hs⟩ := Sl.of_own hown
  have HsY := Lib.hid hs
  replace HsX := Lib.hid (HsX.out.below hb)
  clear hs hb hown
  go_wp2_with fail
  go_at_call 36
  refine (Or_r HsX.out HsY.out RX.out RY.out).mono ?_
  rintro e w4 h
  obtain ⟨aO, cO, rfl, hs, hb⟩ := h
  have RO := Lib.hid (Rs.orS_right RX.out RY.out)
  generalize hO : Rs.orS X Y = O at *
  have HeO := Lib.hid hO
  clear hO
  have HsO := Lib.hid hs
  replace HsX := Lib.hid (HsX.out.below hb)
  replace HsY := Lib.hid (HsY.out.below hb)
  replace HB : Hid (Below w.heap.size w w4) := Lib.hid (Bthen HB.out hb)
  clear hs hb
  go_wp2_with fail
  go_at_call 37
  refine (And_r HsX.out HsY.out RX.out RY.out).mono ?_
  rintro e w5 h
  obtain ⟨aN, cN, rfl, hs, hb⟩ := h
  have RN := Lib.hid (Rs.andS_right RX.out RY.out)
  generalize hN : Rs.andS X Y = N at *
  have HeN := Lib.hid hN
  clear hN
  have HsN := Lib.hid hs
  replace HsX := Lib.hid (HsX.out.below hb)
  replace HsY := Lib.hid (HsY.out.below hb)
  replace HsO := Lib.hid (HsO.out.below hb)
  replace HB : Hid (Below w.heap.size w w5) := Lib.hid (Bthen HB.out hb)
  clear hs hb
  go_wp2_with fail
  go_at_call 38
  refine (Minus_r HsX.out HsY.out RX.out RY.out).mono ?_
  rintro e w6 h
  obtain ⟨aM, cM, rfl, hs, hb⟩ := h
  have RM := Lib.hid (Rs.minusS_right RX.out RY.out)
  generalize hM : Rs.minusS X Y = M at *
  have HeM := Lib.hid hM
  clear hM
  have HsM := Lib.hid hs
  replace HsX := Lib.hid (HsX.out.below hb)
  replace HsY := Lib.hid (HsY.out.below hb)
  replace HsO := Lib.hid (HsO.out.below hb)
  replace HsN := Lib.hid (HsN.out.below hb)
  replace HB : Hid (Below w.heap.size w w6) := Lib.hid (Bthen HB.out hb)
  clear hs hb
  go_wp2_with fail
  go_at_call 20
  refine (Not_r HsX.out RX.out).mono ?_
  rintro e w7 h
  obtain ⟨aP, cP, rfl, hs, hb⟩ := h
  have RP := Lib.hid (Rs.notS_right RX.out)
  generalize hP : Rs.notS X = P at *
  have HeP := Lib.hid hP
  clear hP
  have HsP := Lib.hid hs
  replace HsX := Lib.hid (HsX.out.below hb)
  replace HsY := Lib.hid (HsY.out.below hb)
  replace HsO := Lib.hid (HsO.out.below hb)
  replace HsN := Lib.hid (HsN.out.below hb)
  replace HsM := Lib.hid (HsM.out.below hb)
  replace HB : Hid (Below w.heap.size w w7) := Lib.hid (Bthen HB.out hb)
  clear hs hb
  go_wp2_with fail
  go_at_call 20
  refine (Not_r HsY.out RY.out).mono ?_
  rintro e w8 h
  obtain ⟨aQ, cQ, rfl, hs, hb⟩ := h
  have RQ := Lib.hid (Rs.notS_right RY.out)
  generalize hQ : Rs.notS Y = Q at *
  have HeQ := Lib.hid hQ
  clear hQ
  have HsQ := Lib.hid hs
  replace HsX := Lib.hid (HsX.out.below hb)
  replace HsY := Lib.hid (HsY.out.below hb)
  replace HsO := Lib.hid (HsO.out.below hb)
  replace HsN := Lib.hid (HsN.out.below hb)
  replace HsM := Lib.hid (HsM.out.below hb)
  replace HsP := Lib.hid (HsP.out.below hb)
  replace HB : Hid (Below w.heap.size w w8) := Lib.hid (Bthen HB.out hb)
  clear hs hb
  go_wp2_with fail
  go_at_call 20
  refine (Not_r HsO.out RO.out).mono ?_
  rintro e w9 h
  obtain ⟨aR, cR, rfl, hs, hb⟩ := h
  have RR := Lib.hid (Rs.notS_right RO.out)
  generalize hR : Rs.notS O = R at *
  have HeR := Lib.hid hR
  clear hR
  have HsR := Lib.hid hs
  replace HsX := Lib.hid (HsX.out.below hb)
  replace HsY := Lib.hid (HsY.out.below hb)
  replace HsO := Lib.hid (HsO.out.below hb)
  replace HsN := Lib.hid (HsN.out.below hb)
  replace HsM := Lib.hid (HsM.out.below hb)
  replace HsP := Lib.hid (HsP.out.below hb)
  replace HsQ := Lib.hid (HsQ.out.below hb)
  replace HB : Hid (Below w.heap.size w w9) := Lib.hid (Bthen HB.out hb)
  clear hs hb
  go_wp2_with fail
  go_at_call 37
  refine (And_r HsP.out HsQ.out RP.out RQ.out).mono ?_
  rintro e w10 h
  obtain ⟨aT, cT, rfl, hs, hb⟩ := h
  have RT := Lib.hid (Rs.andS_right RP.out RQ.out)
  generalize hT : Rs.andS P Q = T at *
  have HeT := Lib.hid hT
  clear hT
  have HsT := Lib.hid hs
  replace HsX := Lib.hid (HsX.out.below hb)
  replace HsY := Lib.hid (HsY.out.below hb)
  replace HsO := Lib.hid (HsO.out.below hb)
  replace HsN := Lib.hid (HsN.out.below hb)
  replace HsM := Lib.hid (HsM.out.below hb)
  replace HsP := Lib.hid (HsP.out.below hb)
  replace HsQ := Lib.hid (HsQ.out.below hb)
  replace HsR := Lib.hid (HsR.out.below hb)
  replace HB : Hid (Below w.heap.size w w10) := Lib.hid (Bthen HB.out hb)
  clear hs hb
  go_wp2_with fail
  go_at_call 20
  refine (Not_r HsP.out RP.out).mono ?_
  rintro e w11 h
  obtain ⟨aK, cK, rfl, hs, hb⟩ := h
  have RK := Lib.hid (Rs.notS_right RP.out)
  generalize hK : Rs.notS P = K at *
  have HeK := Lib.hid hK
  clear hK
  have HsK := Lib.hid hs
  replace HsX := Lib.hid (HsX.out.below hb)
  replace HsY := Lib.hid (HsY.out.below hb)
  replace HsO := Lib.hid (HsO.out.below hb)
  replace HsN := Lib.hid (HsN.out.below hb)
  replace HsM := Lib.hid (HsM.out.below hb)
  replace HsP := Lib.hid (HsP.out.below hb)
  replace HsQ := Lib.hid (HsQ.out.below hb)
  replace HsR := Lib.hid (HsR.out.below hb)
  replace HsT := Lib.hid (HsT.out.below hb)
  replace HB : Hid (Below w.heap.size w w11) := Lib.hid (Bthen HB.out hb)
  clear hs hb
  go_wp2_with fail
  go_at_call 18
  refine (Eq_r HsR.out HsT.out (rlen RR.out) (by rw [← HeR.out, ← HeO.out, ← HeT.out, ← HeP.out, ← HeQ.out]; exact Rs.not_or RX.out RY.out)).mono ?_
  rintro e w12 ⟨rfl, hb⟩
  replace HsX := Lib.hid (HsX.out.below hb)
  replace HsY := Lib.hid (HsY.out.below hb)
  replace HsO := Lib.hid (HsO.out.below hb)
  replace HsN := Lib.hid (HsN.out.below hb)
  replace HsM := Lib.hid (HsM.out.below hb)
  replace HsP := Lib.hid (HsP.out.below hb)
  replace HsQ := Lib.hid (HsQ.out.below hb)
  replace HsR := Lib.hid (HsR.out.below hb)
  replace HsT := Lib.hid (HsT.out.below hb)
  replace HsK := Lib.hid (HsK.out.below hb)
  replace HB : Hid (Below w.heap.size w w12) := Lib.hid (Bthen HB.out hb)
  clear hb
  go_wp2_with fail
  go_at_call 18
  refine (Eq_r HsK.out HsX.out (rlen RK.out) (by rw [← HeK.out, ← HeP.out]; exact Rs.not_not RX.out)).mono ?_
  rintro e w13 ⟨rfl, hb⟩
  replace HsX := Lib.hid (HsX.out.below hb)
  replace HsY := Lib.hid (HsY.out.below hb)
  replace HsO := Lib.hid (HsO.out.below hb)
  replace HsN := Lib.hid (HsN.out.below hb)
  replace HsM := Lib.hid (HsM.out.below hb)
  replace HsP := Lib.hid (HsP.out.below hb)
  replace HsQ := Lib.hid (HsQ.out.below hb)
  replace HsR := Lib.hid (HsR.out.below hb)
  replace HsT := Lib.hid (HsT.out.below hb)
  replace HsK := Lib.hid (HsK.out.below hb)
  replace HB : Hid (Below w.heap.size w w13) := Lib.hid (Bthen HB.out hb)
  clear hb
  have HLs := Lib.hid (LsR.of w13 [(aO, cO, O), (aN, cN, N), (aM, cM, M), (aP, cP, P)] 25 #[.slice aO O.length cO, .slice aN N.length cN, .slice aM M.length cM, .slice aP P.length cP] rfl (by
    intro x hx
    simp only [List.mem_cons, List.not_mem_nil, or_false] at hx
    rcases hx with rfl | rfl | rfl | rfl
    · exact HsO.out
    · exact HsN.out
    · exact HsM.out
    · exact HsP.out))
  have HRs : Hid (∀ (k : Nat) x, [(aO, cO, O), (aN, cN, N), (aM, cM, M), (aP, cP, P)][k]? = some x → Rs.right x.2.2 = true) := Lib.hid (by
    intro k x hx
    have hx := List.mem_of_getElem? hx
    simp only [List.mem_cons, List.not_mem_nil, or_false] at hx
    rcases hx with rfl | rfl | rfl | rfl
    · exact RO.out
    · exact RN.out
    · exact RM.out
    · exact RP.out)
  have hbw : Below w13.heap.size w13 (w13.alloc (.cells #[.slice aO O.length cO, .slice aN N.length cN, .slice aM M.length cM, .slice aP P.length cP] 25)) := Bnew (Below.refl _ _) _
  replace HsX := Lib.hid (HsX.out.below hbw)
  replace HsY := Lib.hid (HsY.out.below hbw)
  replace HsO := Lib.hid (HsO.out.below hbw)
  replace HsN := Lib.hid (HsN.out.below hbw)
  replace HsM := Lib.hid (HsM.out.below hbw)
  replace HsP := Lib.hid (HsP.out.below hbw)
  replace HsQ := Lib.hid (HsQ.out.below hbw)
  replace HsR := Lib.hid (HsR.out.below hbw)
  replace HsT := Lib.hid (HsT.out.below hbw)
  replace HsK := Lib.hid (HsK.out.below hbw)
  replace HB := Lib.hid (Bthen HB.out hbw)
  clear hbw
  go_wp2
  generalize w13.alloc (.cells #[.slice aO O.length cO, .slice aN N.length cN, .slice aM M.length cM, .slice aP P.length cP] 25) = wB at *
  generalize w13.heap.size = pB at *
  go_loopw [26, 116] (fun _ i wr => ∃ k : Nat, k ≤ 4 ∧ i = .int .i64 k ∧ Below wB.heap.size wB wr) (fun _ i _ => 4 - (intOf i).toNat)
  case atStart => exact ⟨0, Nat.zero_le _, rfl, Below.refl _ _⟩
  case round =>
    obtain ⟨k, hk, rfl, hb⟩ := hrel
    have hbs := hb.size
    by_cases hlt : k < 4
    · obtain ⟨x, hx⟩ : ∃ x, [(aO, cO, O), (aN, cN, N), (aM, cM, M), (aP, cP, P)][k]? = some x := ⟨_, List.getElem?_eq_getElem (by simpa using hlt)⟩
      obtain ⟨c0, hsl⟩ := (HLs.out.below hb).2 k x hx
      have hcall := Right_r hsl (HRs.out k x hx)
      obtain ⟨ad, cp, L⟩ := x
      dsimp only at c0 hcall
      rw [Nat.zero_add] at c0
      have HBR := Lib.hid hb
      clear hsl hx hb
      go_wp2_with (go_at_call 19; refine hcall.mono ?_; clear hcall; rintro e w5 ⟨rfl, hb5⟩)
      go_roundw
      case rel => exact ⟨k + 1, by omega, by go_num, HBR.out.trans (hb5.mono hbs)⟩
      case measure => simp [intOf]; omega
    · obtain rfl : k = 4 := by omega
      clear hk hlt
      replace HB := Lib.hid (Bthen HB.out hb)
      clear HLs HRs
      replace HsX := Lib.hid (HsX.out.below hb)
      replace HsY := Lib.hid (HsY.out.below hb)
      replace HsO := Lib.hid (HsO.out.below hb)
      replace HsN := Lib.hid (HsN.out.below hb)
      replace HsM := Lib.hid (HsM.out.below hb)
      replace HsP := Lib.hid (HsP.out.below hb)
      replace HsQ := Lib.hid (HsQ.out.below hb)
      replace HsR := Lib.hid (HsR.out.below hb)
      replace HsT := Lib.hid (HsT.out.below hb)
      replace HsK := Lib.hid (HsK.out.below hb)
      have HQ := Lib.hid (LsR.of wr [(aX, cX, X), (aY, cY, Y)] 25 #[.slice aX X.length cX, .slice aY Y.length cY] rfl (by
        intro x hx
        simp only [List.mem_cons, List.not_mem_nil, or_false] at hx
        rcases hx with rfl | rfl
        · exact HsX.out
        · exact HsY.out))
      have HBD : Hid (∀ l ∈ [X, Y], BdS l) := Lib.hid (by
        have bd : ∀ l : Rs.S, Rs.right l = true → l.length ≤ 20 → BdS l := fun l hl hn => ⟨by omega, fun r hr => by
          obtain ⟨g1, g2, g3⟩ := Rs.right_rg hl r hr
          exact ⟨g1, by omega, by omega, g3⟩⟩
        intro l hl
        simp only [List.mem_cons, List.not_mem_nil, or_false] at hl
        rcases hl with rfl | rfl
        · exact bd _ RX.out hXl
        · exact bd _ RY.out hYl)
      have hbq : Below wr.heap.size wr (wr.alloc (.cells #[.slice aX X.length cX, .slice aY Y.length cY] 25)) := Bnew (Below.refl _ _) _
      clear hb hbs
      replace HsX := Lib.hid (HsX.out.below hbq)
      replace HsY := Lib.hid (HsY.out.below hbq)
      replace HsO := Lib.hid (HsO.out.below hbq)
      replace HsN := Lib.hid (HsN.out.below hbq)
      replace HsM := Lib.hid (HsM.out.below hbq)
      replace HsP := Lib.hid (HsP.out.below hbq)
      replace HsQ := Lib.hid (HsQ.out.below hbq)
      replace HsR := Lib.hid (HsR.out.below hbq)
      replace HsT := Lib.hid (HsT.out.below hbq)
      replace HsK := Lib.hid (HsK.out.below hbq)
      replace HB := Lib.hid (Bthen HB.out hbq)
      clear hbq
      obtain ⟨i0, hi0, hz0, hz1, hz2⟩ := info_parts infoInt
      by_cases h3 : c % 3 = 0
      · have hpk : Rs.pt (57344 + c % 1056768) = true := by rw [Rs.pt_iff]; omega
        have hk0 : 0 ≤ 57344 + c % 1056768 := by omega
        have hk1 : 57344 + c % 1056768 ≤ 1114111 := by omega
        have HPK := Lib.hid hpk
        clear hpk
        go_wp2_with fail
        generalize 57344 + c % 1056768 = kk at *
        generalize wr.alloc (.cells #[.slice aX X.length cX, .slice aY Y.length cY] 25) = wq at *
        generalize wr.heap.size = pq at *
        go_at_call 30
        refine (about_calls _ 2 [X, Y] wq HQ.out.sls (by simp) HBD.out).mono ?_
        rintro e wA ⟨v, n, L, rfl, hn4, hown, hpt, hb⟩
        have hnL : n = L.length := by have := hown.1; simpa [ints] using this.symm
        subst hnL
        have HO := Lib.hid hown
        have HPT := Lib.hid hpt
        have HBA := Lib.hid hb
        have hsA := hb.size
        clear hown hpt hb HQ HBD h3
        go_wp2_with (at_builtin; refine wpList_append_own _ rfl _ _ 54 rfl wq.heap.size 3 i0 (.int .i64 0) 1 8 Tryz.underlying54 hi0 hz0 hz1 hz2 rfl (by decide) _ _ _ rfl (HO.out.alloc (.cells #[.int .i64 kk] 3)) ⟨wA.heap.size, 0, none⟩ 1 1 [.int .i64 kk] rfl rfl (cell_one_new wA (.int .i64 kk) 3) (by intro u hu; simp at hu; subst hu; rfl) (by unfold maxLen; omega) (by omega) (by simp; omega) ?_; intro v' wC hown' hgrow _;
                                        have HOC := Lib.hid hown';
                                        have HBC := Lib.hid (show Below wq.heap.size wq wC from app_endG HO.out HBA.out hsA hgrow);
                                        clear hgrow hown';
                                        obtain ⟨g, cg, rfl, hg, hcg, hcells⟩ := own_ints (L := L ++ [kk]) (by simpa [ints] using HOC.out) (by simp);
                                        have HCL := Lib.hid hcells;
                                        clear hcells)
        have HPT2 : Hid (∀ z ∈ L ++ [kk], Rs.pt z = true) := Lib.hid (by
          intro z hz
          rcases List.mem_append.1 hz with hz | hz
          · exact HPT.out z hz
          · obtain rfl := List.mem_singleton.1 hz
            exact HPK.out)
        have hlL : (L ++ [kk]).length = L.length + 1 := by simp
        generalize L ++ [kk] = LL at *
        have hb := HBC.out
        replace HsX := Lib.hid (HsX.out.below hb)
        replace HsY := Lib.hid (HsY.out.below hb)
        replace HsO := Lib.hid (HsO.out.below hb)
        replace HsN := Lib.hid (HsN.out.below hb)
        replace HsM := Lib.hid (HsM.out.below hb)
        replace HsP := Lib.hid (HsP.out.below hb)
        replace HsQ := Lib.hid (HsQ.out.below hb)
        replace HsR := Lib.hid (HsR.out.below hb)
        replace HsT := Lib.hid (HsT.out.below hb)
        replace HsK := Lib.hid (HsK.out.below hb)
        replace HB := Lib.hid (Bthen HB.out hb)
        clear hb HOC HO HPT HPK HBA HBC hsA
        go_wp2
        go_loopw [29, 30, 31, 142] (fun _ _ _ i wr => ∃ k : Nat, k ≤ L.length + 1 ∧ i = .int .i64 k ∧ Below wC.heap.size wC wr) (fun _ _ _ i _ => L.length + 1 - (intOf i).toNat)
        case atStart => exact ⟨0, Nat.zero_le _, rfl, Below.refl _ _⟩
        case round =>
          obtain ⟨k, hk, rfl, hb⟩ := hrel
          have hbs := hb.size
          by_cases hlt : k < L.length + 1
          · obtain ⟨z, hz⟩ : ∃ z, LL[k]? = some z := ⟨_, List.getElem?_eq_getElem (by omega)⟩
            have c0 := HCL.out k z hz
            have HBK := Lib.hid hb
            have hpz := HPT2.out z (List.mem_of_getElem? hz)
            rw [← hb.cell (by exact hg)] at c0
            have hgw : g < wr.heap.size := by omega
            have mO := Rs.orS_mem RX.out RY.out z
            have mN := Rs.andS_mem RX.out RY.out z
            have mM := Rs.minusS_mem RX.out RY.out z
            have mP := Rs.not_has RX.out hpz
            rw [HeO.out] at mO
            rw [HeN.out] at mN
            rw [HeM.out] at mM
            rw [HeP.out] at mP
            have kX := fun W (hW : Below wr.heap.size wr W) => lhas_calls aX cX X z W (HsX.out.below (hb.trans (hW.mono hbs))) (rlen RX.out)
            have kY := fun W (hW : Below wr.heap.size wr W) => lhas_calls aY cY Y z W (HsY.out.below (hb.trans (hW.mono hbs))) (rlen RY.out)
            have jX := fun W (hW : Below wr.heap.size wr W) => Has_r z (HsX.out.below (hb.trans (hW.mono hbs))) RX.out
            have jO := fun W (hW : Below wr.heap.size wr W) => Has_r z (HsO.out.below (hb.trans (hW.mono hbs))) RO.out
            have jN := fun W (hW : Below wr.heap.size wr W) => Has_r z (HsN.out.below (hb.trans (hW.mono hbs))) RN.out
            have jM := fun W (hW : Below wr.heap.size wr W) => Has_r z (HsM.out.below (hb.trans (hW.mono hbs))) RM.out
            have jP := fun W (hW : Below wr.heap.size wr W) => Has_r z (HsP.out.below (hb.trans (hW.mono hbs))) RP.out
            simp only [mO, mN, mM, mP] at jO jN jM jP
            have J := Lib.hid (show _ ∧ _ ∧ _ ∧ _ ∧ _ ∧ _ ∧ _ from ⟨kX, kY, jX, jO, jN, jM, jP⟩)
            clear kX kY jX jO jN jM jP mO mN mM mP hpz hz hb
            generalize Rs.mem z X = bx at *
            generalize Rs.mem z Y = by_ at *
            cases bx <;> cases by_
            all_goals
              go_wp2_with fail
              go_at_call 25
              refine (J.out.1 _ (Below.refl _ _)).mono ?_
              rintro e q1 ⟨rfl, hq⟩
              have hqq := hq
              clear hq
              go_wp2_with fail
              go_at_call 25
              refine (J.out.2.1 _ hqq).mono ?_
              rintro e q2 ⟨rfl, hq⟩
              replace hqq := Bthen hqq hq
              clear hq
              go_wp2_with fail
              go_at_call 31
              refine (J.out.2.2.1 _ hqq).mono ?_
              rintro e q3 ⟨rfl, hq⟩
              replace hqq := Bthen hqq hq
              clear hq
              go_wp2_with fail
              go_at_call 31
              refine (J.out.2.2.2.1 _ hqq).mono ?_
              rintro e q4 ⟨rfl, hq⟩
              replace hqq := Bthen hqq hq
              clear hq
              go_wp2_with fail
              go_at_call 31
              refine (J.out.2.2.2.2.1 _ hqq).mono ?_
              rintro e q5 ⟨rfl, hq⟩
              replace hqq := Bthen hqq hq
              clear hq
              go_wp2_with fail
              go_at_call 31
              refine (J.out.2.2.2.2.2.1 _ hqq).mono ?_
              rintro e q6 ⟨rfl, hq⟩
              replace hqq := Bthen hqq hq
              clear hq
              go_wp2_with fail
              go_at_call 31
              refine (J.out.2.2.2.2.2.2 _ hqq).mono ?_
              rintro e q7 ⟨rfl, hq⟩
              replace hqq := Bthen hqq hq
              clear hq
              have HQQ := Lib.hid hqq
              clear hqq
              go_wp2
              go_roundw
              case rel => exact ⟨k + 1, by omega, by go_num, (HBK.out).trans (HQQ.out.mono hbs)⟩
              case measure => simp [intOf]; omega
          · obtain rfl : k = L.length + 1 := by omega
            clear hk hlt
            replace HB := Lib.hid (Bthen HB.out hb)
            have e1 := Rs.cnt_or_and RX.out RY.out
            have e2 := Rs.cnt_minus_and RX.out RY.out
            have e3 := Rs.cnt_not RX.out
            rw [HeO.out, HeN.out] at e1
            rw [HeM.out, HeN.out] at e2
            rw [HeP.out] at e3
            obtain ⟨bO1, bO2⟩ := Rs.cnt_le RO.out
            obtain ⟨bN1, bN2⟩ := Rs.cnt_le RN.out
            obtain ⟨bM1, bM2⟩ := Rs.cnt_le RM.out
            obtain ⟨bX1, bX2⟩ := Rs.cnt_le RX.out
            obtain ⟨bY1, bY2⟩ := Rs.cnt_le RY.out
            obtain ⟨bP1, bP2⟩ := Rs.cnt_le RP.out
            have kX := fun W (hW : Below wr.heap.size wr W) => Count_r (HsX.out.below (hb.trans (hW.mono hbs))) RX.out
            have kY := fun W (hW : Below wr.heap.size wr W) => Count_r (HsY.out.below (hb.trans (hW.mono hbs))) RY.out
            have kO := fun W (hW : Below wr.heap.size wr W) => Count_r (HsO.out.below (hb.trans (hW.mono hbs))) RO.out
            have kN := fun W (hW : Below wr.heap.size wr W) => Count_r (HsN.out.below (hb.trans (hW.mono hbs))) RN.out
            have kM := fun W (hW : Below wr.heap.size wr W) => Count_r (HsM.out.below (hb.trans (hW.mono hbs))) RM.out
            have kP := fun W (hW : Below wr.heap.size wr W) => Count_r (HsP.out.below (hb.trans (hW.mono hbs))) RP.out
            have J := Lib.hid (show _ ∧ _ ∧ _ ∧ _ ∧ _ ∧ _ from ⟨kX, kY, kO, kN, kM, kP⟩)
            clear kX kY kO kN kM kP hb
            generalize Rs.cnt O = nO at *
            generalize Rs.cnt N = nN at *
            generalize Rs.cnt M = nM at *
            generalize Rs.cnt X = nX at *
            generalize Rs.cnt Y = nY at *
            generalize Rs.cnt P = nP at *
            have t1 : ((nO + nN : Int) == nX + nY) = true := by rw [beq_iff_eq]; exact e1
            have t2 : ((nM + nN : Int) == nX) = true := by rw [beq_iff_eq]; exact e2
            have t3 : ((nX + nP : Int) == 1112064) = true := by rw [beq_iff_eq]; exact e3
            clear e1 e2 e3
            go_wp2_with fail
            go_at_call 24
            refine (J.out.2.2.1 _ (Below.refl _ _)).mono ?_
            rintro e q0 ⟨rfl, hq⟩
            have hqq := hq
            clear hq
            go_wp2_with fail
            go_at_call 24
            refine (J.out.2.2.2.1 _ hqq).mono ?_
            rintro e q1 ⟨rfl, hq⟩
            replace hqq := Bthen hqq hq
            clear hq
            go_wp2_with fail
            go_at_call 24
            refine (J.out.1 _ hqq).mono ?_
            rintro e q2 ⟨rfl, hq⟩
            replace hqq := Bthen hqq hq
            clear hq
            go_wp2_with fail
            go_at_call 24
            refine (J.out.2.1 _ hqq).mono ?_
            rintro e q3 ⟨rfl, hq⟩
            replace hqq := Bthen hqq hq
            clear hq
            go_wp2_with fail
            go_at_call 24
            refine (J.out.2.2.2.2.1 _ hqq).mono ?_
            rintro e q4 ⟨rfl, hq⟩
            replace hqq := Bthen hqq hq
            clear hq
            go_wp2_with fail
            go_at_call 24
            refine (J.out.2.2.2.1 _ hqq).mono ?_
            rintro e q5 ⟨rfl, hq⟩
            replace hqq := Bthen hqq hq
            clear hq
            go_wp2_with fail
            go_at_call 24
            refine (J.out.1 _ hqq).mono ?_
            rintro e q6 ⟨rfl, hq⟩
            replace hqq := Bthen hqq hq
            clear hq
            go_wp2_with fail
            go_at_call 24
            refine (J.out.1 _ hqq).mono ?_
            rintro e q7 ⟨rfl, hq⟩
            replace hqq := Bthen hqq hq
            clear hq
            go_wp2_with fail
            go_at_call 24
            refine (J.out.2.2.2.2.2 _ hqq).mono ?_
            rintro e q8 ⟨rfl, hq⟩
            replace hqq := Bthen hqq hq
            clear hq
            go_wp2
            go_ret
            exact ⟨rfl, Bthen HB.out hqq⟩
      · have hpk : Rs.pt (c % 55296) = true := by rw [Rs.pt_iff]; omega
        have hk0 : 0 ≤ c % 55296 := by omega
        have hk1 : c % 55296 ≤ 1114111 := by omega
        have HPK := Lib.hid hpk
        clear hpk
        go_wp2_with fail
        generalize c % 55296 = kk at *
        generalize wr.alloc (.cells #[.slice aX X.length cX, .slice aY Y.length cY] 25) = wq at *
        generalize wr.heap.size = pq at *
        go_at_call 30
        refine (about_calls _ 2 [X, Y] wq HQ.out.sls (by simp) HBD.out).mono ?_
        rintro e wA ⟨v, n, L, rfl, hn4, hown, hpt, hb⟩
        have hnL : n = L.length := by have := hown.1; simpa [ints] using this.symm
        subst hnL
        have HO := Lib.hid hown
        have HPT := Lib.hid hpt
        have HBA := Lib.hid hb
        have hsA := hb.size
        clear hown hpt hb HQ HBD h3
        go_wp2_with (at_builtin; refine wpList_append_own _ rfl _ _ 54 rfl wq.heap.size 3 i0 (.int .i64 0) 1 8 Tryz.underlying54 hi0 hz0 hz1 hz2 rfl (by decide) _ _ _ rfl (HO.out.alloc (.cells #[.int .i64 kk] 3)) ⟨wA.heap.size, 0, none⟩ 1 1 [.int .i64 kk] rfl rfl (cell_one_new wA (.int .i64 kk) 3) (by intro u hu; simp at hu; subst hu; rfl) (by unfold maxLen; omega) (by omega) (by simp; omega) ?_; intro v' wC hown' hgrow _;
                                        have HOC := Lib.hid hown';
                                        have HBC := Lib.hid (show Below wq.heap.size wq wC from app_endG HO.out HBA.out hsA hgrow);
                                        clear hgrow hown';
                                        obtain ⟨g, cg, rfl, hg, hcg, hcells⟩ := own_ints (L := L ++ [kk]) (by simpa [ints] using HOC.out) (by simp);
                                        have HCL := Lib.hid hcells;
                                        clear hcells)
        have HPT2 : Hid (∀ z ∈ L ++ [kk], Rs.pt z = true) := Lib.hid (by
          intro z hz
          rcases List.mem_append.1 hz with hz | hz
          · exact HPT.out z hz
          · obtain rfl := List.mem_singleton.1 hz
            exact HPK.out)
        have hlL : (L ++ [kk]).length = L.length + 1 := by simp
        generalize L ++ [kk] = LL at *
        have hb := HBC.out
        replace HsX := Lib.hid (HsX.out.below hb)
        replace HsY := Lib.hid (HsY.out.below hb)
        replace HsO := Lib.hid (HsO.out.below hb)
        replace HsN := Lib.hid (HsN.out.below hb)
        replace HsM := Lib.hid (HsM.out.below hb)
        replace HsP := Lib.hid (HsP.out.below hb)
        replace HsQ := Lib.hid (HsQ.out.below hb)
        replace HsR := Lib.hid (HsR.out.below hb)
        replace HsT := Lib.hid (HsT.out.below hb)
        replace HsK := Lib.hid (HsK.out.below hb)
        replace HB := Lib.hid (Bthen HB.out hb)
        clear hb HOC HO HPT HPK HBA HBC hsA
        go_wp2
        go_loopw [29, 30, 31, 142] (fun _ _ _ i wr => ∃ k : Nat, k ≤ L.length + 1 ∧ i = .int .i64 k ∧ Below wC.heap.size wC wr) (fun _ _ _ i _ => L.length + 1 - (intOf i).toNat)
        case atStart => exact ⟨0, Nat.zero_le _, rfl, Below.refl _ _⟩
        case round =>
          obtain ⟨k, hk, rfl, hb⟩ := hrel
          have hbs := hb.size
          by_cases hlt : k < L.length + 1
          · obtain ⟨z, hz⟩ : ∃ z, LL[k]? = some z := ⟨_, List.getElem?_eq_getElem (by omega)⟩
            have c0 := HCL.out k z hz
            have HBK := Lib.hid hb
            have hpz := HPT2.out z (List.mem_of_getElem? hz)
            rw [← hb.cell (by exact hg)] at c0
            have hgw : g < wr.heap.size := by omega
            have mO := Rs.orS_mem RX.out RY.out z
            have mN := Rs.andS_mem RX.out RY.out z
            have mM := Rs.minusS_mem RX.out RY.out z
            have mP := Rs.not_has RX.out hpz
            rw [HeO.out] at mO
            rw [HeN.out] at mN
            rw [HeM.out] at mM
            rw [HeP.out] at mP
            have kX := fun W (hW : Below wr.heap.size wr W) => lhas_calls aX cX X z W (HsX.out.below (hb.trans (hW.mono hbs))) (rlen RX.out)
            have kY := fun W (hW : Below wr.heap.size wr W) => lhas_calls aY cY Y z W (HsY.out.below (hb.trans (hW.mono hbs))) (rlen RY.out)
            have jX := fun W (hW : Below wr.heap.size wr W) => Has_r z (HsX.out.below (hb.trans (hW.mono hbs))) RX.out
            have jO := fun W (hW : Below wr.heap.size wr W) => Has_r z (HsO.out.below (hb.trans (hW.mono hbs))) RO.out
            have jN := fun W (hW : Below wr.heap.size wr W) => Has_r z (HsN.out.below (hb.trans (hW.mono hbs))) RN.out
            have jM := fun W (hW : Below wr.heap.size wr W) => Has_r z (HsM.out.below (hb.trans (hW.mono hbs))) RM.out
            have jP := fun W (hW : Below wr.heap.size wr W) => Has_r z (HsP.out.below (hb.trans (hW.mono hbs))) RP.out
            simp only [mO, mN, mM, mP] at jO jN jM jP
            have J := Lib.hid (show _ ∧ _ ∧ _ ∧ _ ∧ _ ∧ _ ∧ _ from ⟨kX, kY, jX, jO, jN, jM, jP⟩)
            clear kX kY jX jO jN jM jP mO mN mM mP hpz hz hb
            generalize Rs.mem z X = bx at *
            generalize Rs.mem z Y = by_ at *
            cases bx <;> cases by_
            all_goals
              go_wp2_with fail
              go_at_call 25
              refine (J.out.1 _ (Below.refl _ _)).mono ?_
              rintro e q1 ⟨rfl, hq⟩
              have hqq := hq
              clear hq
              go_wp2_with fail
              go_at_call 25
              refine (J.out.2.1 _ hqq).mono ?_
              rintro e q2 ⟨rfl, hq⟩
              replace hqq := Bthen hqq hq
              clear hq
              go_wp2_with fail
              go_at_call 31
              refine (J.out.2.2.1 _ hqq).mono ?_
              rintro e q3 ⟨rfl, hq⟩
              replace hqq := Bthen hqq hq
              clear hq
              go_wp2_with fail
              go_at_call 31
              refine (J.out.2.2.2.1 _ hqq).mono ?_
              rintro e q4 ⟨rfl, hq⟩
              replace hqq := Bthen hqq hq
              clear hq
              go_wp2_with fail
              go_at_call 31
              refine (J.out.2.2.2.2.1 _ hqq).mono ?_
              rintro e q5 ⟨rfl, hq⟩
              replace hqq := Bthen hqq hq
              clear hq
              go_wp2_with fail
              go_at_call 31
              refine (J.out.2.2.2.2.2.1 _ hqq).mono ?_
              rintro e q6 ⟨rfl, hq⟩
              replace hqq := Bthen hqq hq
              clear hq
              go_wp2_with fail
              go_at_call 31
              refine (J.out.2.2.2.2.2.2 _ hqq).mono ?_
              rintro e q7 ⟨rfl, hq⟩
              replace hqq := Bthen hqq hq
              clear hq
              have HQQ := Lib.hid hqq
              clear hqq
              go_wp2
              go_roundw
              case rel => exact ⟨k + 1, by omega, by go_num, (HBK.out).trans (HQQ.out.mono hbs)⟩
              case measure => simp [intOf]; omega
          · obtain rfl : k = L.length + 1 := by omega
            clear hk hlt
            replace HB := Lib.hid (Bthen HB.out hb)
            have e1 := Rs.cnt_or_and RX.out RY.out
            have e2 := Rs.cnt_minus_and RX.out RY.out
            have e3 := Rs.cnt_not RX.out
            rw [HeO.out, HeN.out] at e1
            rw [HeM.out, HeN.out] at e2
            rw [HeP.out] at e3
            obtain ⟨bO1, bO2⟩ := Rs.cnt_le RO.out
            obtain ⟨bN1, bN2⟩ := Rs.cnt_le RN.out
            obtain ⟨bM1, bM2⟩ := Rs.cnt_le RM.out
            obtain ⟨bX1, bX2⟩ := Rs.cnt_le RX.out
            obtain ⟨bY1, bY2⟩ := Rs.cnt_le RY.out
            obtain ⟨bP1, bP2⟩ := Rs.cnt_le RP.out
            have kX := fun W (hW : Below wr.heap.size wr W) => Count_r (HsX.out.below (hb.trans (hW.mono hbs))) RX.out
            have kY := fun W (hW : Below wr.heap.size wr W) => Count_r (HsY.out.below (hb.trans (hW.mono hbs))) RY.out
            have kO := fun W (hW : Below wr.heap.size wr W) => Count_r (HsO.out.below (hb.trans (hW.mono hbs))) RO.out
            have kN := fun W (hW : Below wr.heap.size wr W) => Count_r (HsN.out.below (hb.trans (hW.mono hbs))) RN.out
            have kM := fun W (hW : Below wr.heap.size wr W) => Count_r (HsM.out.below (hb.trans (hW.mono hbs))) RM.out
            have kP := fun W (hW : Below wr.heap.size wr W) => Count_r (HsP.out.below (hb.trans (hW.mono hbs))) RP.out
            have J := Lib.hid (show _ ∧ _ ∧ _ ∧ _ ∧ _ ∧ _ from ⟨kX, kY, kO, kN, kM, kP⟩)
            clear kX kY kO kN kM kP hb
            generalize Rs.cnt O = nO at *
            generalize Rs.cnt N = nN at *
            generalize Rs.cnt M = nM at *
            generalize Rs.cnt X = nX at *
            generalize Rs.cnt Y = nY at *
            generalize Rs.cnt P = nP at *
            have t1 : ((nO + nN : Int) == nX + nY) = true := by rw [beq_iff_eq]; exact e1
            have t2 : ((nM + nN : Int) == nX) = true := by rw [beq_iff_eq]; exact e2
            have t3 : ((nX + nP : Int) == 1112064) = true := by rw [beq_iff_eq]; exact e3
            clear e1 e2 e3
            go_wp2_with fail
            go_at_call 24
            refine (J.out.2.2.1 _ (Below.refl _ _)).mono ?_
            rintro e q0 ⟨rfl, hq⟩
            have hqq := hq
            clear hq
            go_wp2_with fail
            go_at_call 24
            refine (J.out.2.2.2.1 _ hqq).mono ?_
            rintro e q1 ⟨rfl, hq⟩
            replace hqq := Bthen hqq hq
            clear hq
            go_wp2_with fail
            go_at_call 24
            refine (J.out.1 _ hqq).mono ?_
            rintro e q2 ⟨rfl, hq⟩
            replace hqq := Bthen hqq hq
            clear hq
            go_wp2_with fail
            go_at_call 24
            refine (J.out.2.1 _ hqq).mono ?_
            rintro e q3 ⟨rfl, hq⟩
            replace hqq := Bthen hqq hq
            clear hq
            go_wp2_with fail
            go_at_call 24
            refine (J.out.2.2.2.2.1 _ hqq).mono ?_
            rintro e q4 ⟨rfl, hq⟩
            replace hqq := Bthen hqq hq
            clear hq
            go_wp2_with fail
            go_at_call 24
            refine (J.out.2.2.2.1 _ hqq).mono ?_
            rintro e q5 ⟨rfl, hq⟩
            replace hqq := Bthen hqq hq
            clear hq
            go_wp2_with fail
            go_at_call 24
            refine (J.out.1 _ hqq).mono ?_
            rintro e q6 ⟨rfl, hq⟩
            replace hqq := Bthen hqq hq
            clear hq
            go_wp2_with fail
            go_at_call 24
            refine (J.out.1 _ hqq).mono ?_
            rintro e q7 ⟨rfl, hq⟩
            replace hqq := Bthen hqq hq
            clear hq
            go_wp2_with fail
            go_at_call 24
            refine (J.out.2.2.2.2.2 _ hqq).mono ?_
            rintro e q8 ⟨rfl, hq⟩
            replace hqq := Bthen hqq hq
            clear hq
            go_wp2
            go_ret
            exact ⟨rfl, Bthen HB.out hqq⟩
end Go.Proofs.YtkjilodmmcefbaaGreatDoor
