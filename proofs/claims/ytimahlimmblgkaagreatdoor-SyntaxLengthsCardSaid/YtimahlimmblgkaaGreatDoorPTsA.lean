/- Chapter 07: how long a tree's text can be; the builder's contracts for long texts, and one that is called at the end of a function. -/
import Derived.Test.YtimahlimmblgkaaGreatDoorPTrK
import Derived.Test.YtimahlimmblgkaaGreatDoorPText
import Derived.Deep.LoopGhost
import Derived.Defers
namespace Go.Proofs.YtimahlimmblgkaaGreatDoor.Sy
open Go Go.RowKit
theorem qs_eq {a b : ByteArray} (h : a.data.toList = b.data.toList) : a = b := ByteArray.ext (Array.toList_inj.1 h)
theorem beq_f {a b : Int} (h : a ≠ b) : (a == b) = false := beq_eq_false_iff_ne.2 h
set_option maxRecDepth 100000 in
set_option maxHeartbeats 4000000 in
theorem quantified_calls (a b : Int) (ha : i64 a) (hb : i64 b) (w : World) (hV : Vs w) :
    Calls Tryz.prog 78 #[.int .i64 a, .int .i64 b] w fun e w' => e = .returned (.string ⟨(quantT a b).toArray⟩) ∧ Below w.heap.size w w' := by
  have hI : Hid (∀ n W, i64 n → Below w.heap.size w W → Calls Tryz.prog 60 #[.int .i64 n] W fun e w' => e = .returned (.string ⟨(Lib.itoa n).toArray⟩) ∧ Below w.heap.size w w') :=
    Lib.hid (fun n W hn hb => (itoa_calls n hn.1 hn.2 W (hV.below hb)).mono (fun e w' h => ⟨h.1, Bthen hb h.2⟩))
  have HI := Lib.hid (And.intro ha hb)
  have la : (Lib.itoa a).length ≤ 21 := Lib.itoa_length_le a ha.1 ha.2
  have lb : (Lib.itoa b).length ≤ 21 := Lib.itoa_length_le b hb.1 hb.2
  clear ha hb hV
  by_cases c1 : a = 0 ∧ b = -1
  · have e : quantT a b = [42] := by unfold quantT; rw [if_pos c1]
    rw [e]
    obtain ⟨rfl, rfl⟩ := c1
    go_enter Tryz.func78, Tryz.ntmps78
    go_wp2_with fail
    go_ret
    exact ⟨rfl, Below.refl _ _⟩
  by_cases c2 : a = 1 ∧ b = -1
  · have e : quantT a b = [43] := by unfold quantT; rw [if_neg c1, if_pos c2]
    rw [e]
    obtain ⟨rfl, rfl⟩ := c2
    go_enter Tryz.func78, Tryz.ntmps78
    go_wp2_with fail
    go_ret
    exact ⟨rfl, Below.refl _ _⟩
  by_cases c3 : a = 0 ∧ b = 1
  · have e : quantT a b = [63] := by unfold quantT; rw [if_neg c1, if_neg c2, if_pos c3]
    rw [e]
    obtain ⟨rfl, rfl⟩ := c3
    go_enter Tryz.func78, Tryz.ntmps78
    go_wp2_with fail
    go_ret
    exact ⟨rfl, Below.refl _ _⟩
  by_cases c4 : a = b
  · have e : quantT a b = [123] ++ Lib.itoa a ++ [125] := by unfold quantT; rw [if_neg c1, if_neg c2, if_neg c3, if_pos c4]
    rw [e]
    subst c4
    clear c1 c2 c3 e
    by_cases h0 : a = 0
    · subst h0
      go_enter Tryz.func78, Tryz.ntmps78
      go_wp2_with fail
      go_at_call 60
      refine (hI.out 0 w HI.out.1 (Below.refl _ _)).mono ?_
      rintro e w1 ⟨rfl, hb1⟩
      have HB := Lib.hid hb1
      clear hb1
      go_wp2_with fail
      go_ret
      refine ⟨?_, HB.out⟩
      congr 2
      all_goals exact qs_eq (by simp)
    by_cases h1 : a = 1
    · subst h1
      go_enter Tryz.func78, Tryz.ntmps78
      go_wp2_with fail
      go_at_call 60
      refine (hI.out 1 w HI.out.1 (Below.refl _ _)).mono ?_
      rintro e w1 ⟨rfl, hb1⟩
      have HB := Lib.hid hb1
      clear hb1
      go_wp2_with fail
      go_ret
      refine ⟨?_, HB.out⟩
      congr 2
      all_goals exact qs_eq (by simp)
    have e0 : (a == 0) = false := beq_f h0
    have e1 : (a == 1) = false := beq_f h1
    clear h0 h1
    go_enter Tryz.func78, Tryz.ntmps78
    go_wp2_with fail
    go_at_call 60
    refine (hI.out a w HI.out.1 (Below.refl _ _)).mono ?_
    rintro e w1 ⟨rfl, hb1⟩
    have HB := Lib.hid hb1
    clear hb1
    go_wp2_with fail
    go_ret
    refine ⟨?_, HB.out⟩
    congr 2
    all_goals exact qs_eq (by simp)
  by_cases c5 : b = -1
  · have e : quantT a b = [123] ++ Lib.itoa a ++ [44, 125] := by unfold quantT; rw [if_neg c1, if_neg c2, if_neg c3, if_neg c4, if_pos c5]
    rw [e]
    subst c5
    have h0 : a ≠ 0 := fun e => c1 ⟨e, rfl⟩
    have h1 : a ≠ 1 := fun e => c2 ⟨e, rfl⟩
    have e2 : (a == -1) = false := beq_f c4
    clear c1 c2 c3 c4 e
    have e0 : (a == 0) = false := beq_f h0
    have e1 : (a == 1) = false := beq_f h1
    clear h0 h1
    go_enter Tryz.func78, Tryz.ntmps78
    go_wp2_with fail
    go_at_call 60
    refine (hI.out a w HI.out.1 (Below.refl _ _)).mono ?_
    rintro e w1 ⟨rfl, hb1⟩
    have HB := Lib.hid hb1
    clear hb1
    go_wp2_with fail
    go_ret
    refine ⟨?_, HB.out⟩
    congr 2
    all_goals exact qs_eq (by simp)
  have e : quantT a b = [123] ++ Lib.itoa a ++ [44] ++ Lib.itoa b ++ [125] := by unfold quantT; rw [if_neg c1, if_neg c2, if_neg c3, if_neg c4, if_neg c5]
  rw [e]
  clear e
  have g1 : (b == -1) = false := beq_f c5
  have g2 : (a == b) = false := beq_f c4
  by_cases h0 : a = 0
  · have h9 : b ≠ 1 := fun e => c3 ⟨h0, e⟩
    subst h0
    have g3 : (b == 1) = false := beq_f h9
    clear c1 c2 c3 c4 c5 h9
    go_enter Tryz.func78, Tryz.ntmps78
    go_wp2_with fail
    go_at_call 60
    refine (hI.out _ w HI.out.1 (Below.refl _ _)).mono ?_
    rintro e w1 ⟨rfl, hb1⟩
    have HB := Lib.hid hb1
    clear hb1
    go_wp2_with fail
    go_at_call 60
    refine (hI.out b w1 HI.out.2 HB.out).mono ?_
    rintro e w2 ⟨rfl, hb2⟩
    have HB2 := Lib.hid hb2
    clear hb2
    go_wp2_with fail
    go_ret
    refine ⟨?_, HB2.out⟩
    congr 2
    all_goals exact qs_eq (by simp)
  by_cases h1 : a = 1
  · subst h1
    clear c1 c2 c3 c4 c5 h0
    go_enter Tryz.func78, Tryz.ntmps78
    go_wp2_with fail
    go_at_call 60
    refine (hI.out _ w HI.out.1 (Below.refl _ _)).mono ?_
    rintro e w1 ⟨rfl, hb1⟩
    have HB := Lib.hid hb1
    clear hb1
    go_wp2_with fail
    go_at_call 60
    refine (hI.out b w1 HI.out.2 HB.out).mono ?_
    rintro e w2 ⟨rfl, hb2⟩
    have HB2 := Lib.hid hb2
    clear hb2
    go_wp2_with fail
    go_ret
    refine ⟨?_, HB2.out⟩
    congr 2
    all_goals exact qs_eq (by simp)
  have e0 : (a == 0) = false := beq_f h0
  have e1 : (a == 1) = false := beq_f h1
  clear h0 h1 c1 c2 c3 c4 c5
  go_enter Tryz.func78, Tryz.ntmps78
  go_wp2_with fail
  go_at_call 60
  refine (hI.out _ w HI.out.1 (Below.refl _ _)).mono ?_
  rintro e w1 ⟨rfl, hb1⟩
  have HB := Lib.hid hb1
  clear hb1
  go_wp2_with fail
  go_at_call 60
  refine (hI.out b w1 HI.out.2 HB.out).mono ?_
  rintro e w2 ⟨rfl, hb2⟩
  have HB2 := Lib.hid hb2
  clear hb2
  go_wp2_with fail
  go_ret
  refine ⟨?_, HB2.out⟩
  congr 2
  all_goals exact qs_eq (by simp)
end Go.Proofs.YtimahlimmblgkaaGreatDoor.Sy
namespace Go.Proofs.YtimahlimmblgkaaGreatDoor.Sy
open Go Go.RowKit
set_option maxRecDepth 100000 in
theorem field_set (v0 v1 v2 v3 v4 v5 : Value) (W : World) : Sem.run Tryz.prog (Instr.field 27 (.agg #[v0, v1, v2, v3, v4, v5]) 1) W = .ok v1 W := by kernel_rfl
theorem setT_all {l : Rs.S} (h : l = allSet) : setT l = [46] := by unfold setT; rw [if_pos h]
theorem setT_text {l : Rs.S} (h : l ≠ allSet) (hr : Rs.right l = true) (h1 : ∀ a, l ≠ [(a, a)]) : setT l = Rs.textS l := by
  unfold setT
  rw [if_neg h]
  split
  · rename_i a b
    rw [if_pos (fun e => h1 a (by rw [e])), if_pos hr]
  · rw [if_pos hr]
theorem setT_one {a : Int} (h : [(a, a)] ≠ allSet) : setT [(a, a)] = (if a < 33 ∨ 126 < a then [92, 120, 123] ++ Rs.hexT 16 a.toNat ++ [125] else if isMeta a then [92, UInt8.ofNat a.toNat] else [UInt8.ofNat a.toNat]) := by
  unfold setT
  rw [if_neg h]
  simp
set_option maxRecDepth 100000 in
set_option maxHeartbeats 4000000 in
theorem set_calls (a : Option Addr) (cap : Nat) (l : Rs.S) (w : World) (h : Sl w a cap l) (hr : Rs.right l = true) (hL : Lv w) :
    Calls Tryz.prog 76 #[.slice a l.length cap] w fun e w' => e = .returned (.string ⟨(setT l).toArray⟩) ∧ Below w.heap.size w w' := by
  have hln : l.length < 4611686018427387904 := by have := Rs.right_len hr; omega
  have HH := Lib.hid (And.intro h (And.intro hr (And.intro hL hln)))
  obtain ⟨n, hn⟩ : ∃ n, n = l.length := ⟨_, rfl⟩
  rw [← hn]
  rw [← hn] at hln
  have HTX : Hid (∀ W, Below w.heap.size w W → Calls Tryz.prog 103 #[.slice a n cap] W fun e w' => e = .returned (.tuple #[.string ⟨(Rs.textS l).toArray⟩, .int .i64 0]) ∧ Below w.heap.size w w') := Lib.hid (fun W hb => by
    have c := text_calls a cap l W (Sl.chg h (fun q _ hq => hb.block _ hq) hb.size) (hn ▸ hln) (hL.below hb)
    rw [show Rs.textE l = Rs.textS l by unfold Rs.textE; rw [if_pos hr], hr, ← hn] at c
    exact c.mono (fun e w' h => ⟨h.1, Bthen hb h.2⟩))
  have HN := Lib.hid hn
  clear hn h hr hL
  go_enter Tryz.func76, Tryz.ntmps76
  go_wp2_with fail
  go_at_call 102
  refine (all_calls w).mono ?_
  rintro e W ⟨y, he, hyt, hy, hbW⟩
  obtain ⟨ky, say, scy, sy, mny, mxy, lzy, nay, ncy, ly⟩ := y
  replace he : e = .returned (.agg #[.int .u8 ky, .slice say sy.length scy, .int .i64 mny, .int .i64 mxy, .bool lzy, .slice nay ly.length ncy]) := he
  subst he
  have hsy : sy = allSet := by
    have h1 : (T.mk ky sy mny mxy lzy (treeL ly)) = all := hyt
    unfold all at h1
    injection h1
  have hsl : Sl W say scy sy := by cases hy; assumption
  subst hsy
  have HE := Lib.hid (eq_calls a say cap scy l allSet W (Sl.chg HH.out.1 (fun q _ hq => hbW.block _ hq) hbW.size) hsl HH.out.2.2.2)
  rw [← HN.out] at HE
  have HB := Lib.hid hbW
  clear hyt hy hbW hsl
  have hfd := field_set (.int .u8 ky) (.slice say allSet.length scy) (.int .i64 mny) (.int .i64 mxy) (.bool lzy) (.slice nay ly.length ncy)
  go_wp2_with fail
  clear hfd
  go_at_call 53
  refine HE.out.mono ?_
  rintro e W2 ⟨rfl, q2, rfl⟩
  by_cases hall : l = allSet
  · have HA := Lib.hid hall
    have hd : decide (l = allSet) = true := decide_eq_true hall
    clear hall
    rw [hd]
    go_wp2_with fail
    go_ret
    refine ⟨?_, below_drewN HB.out _⟩
    rw [setT_all HA.out]
    rfl
  · have HA := Lib.hid hall
    have hd : decide (l = allSet) = false := decide_eq_false hall
    clear hall
    rw [hd]
    by_cases h1 : n = 1
    · obtain ⟨x, y, hxy⟩ : ∃ x y, l = [(x, y)] := by
        have := HN.out
        match l, this with
        | [(x, y)], _ => exact ⟨x, y, rfl⟩
        | [], h => simp at h; omega
        | _ :: _ :: _, h => simp at h; omega
      obtain ⟨b, off, hab, hbl, hrd⟩ := HH.out.1.rd (by rw [hxy]; simp)
      have h0 := hrd 0 (x, y) (by rw [hxy]; rfl)
      have c0 : W.cell? ⟨b, off, none⟩ = some (.int .i64 x) := (HB.out.cell (p := ⟨b, off, none⟩) hbl).trans (by have := h0.1; simpa using this)
      have c1 : W.cell? ⟨b, off + 1, none⟩ = some (.int .i64 y) := (HB.out.cell (p := ⟨b, off + 1, none⟩) hbl).trans (by have := h0.2; simpa using this)
      have HXY := Lib.hid hxy
      subst hab h1
      clear hxy hrd h0
      by_cases hne : x = y
      · subst hne
        have hp : Rs.pt x = true ∧ 0 ≤ x ∧ x ≤ 1114111 := by
          have h1 := HH.out.2.1
          rw [HXY.out] at h1
          unfold Rs.right at h1
          obtain ⟨ho, _, _⟩ := (Rs.rightA_cons _ _ _).1 h1
          have ho2 := (Rs.okR_iff _).1 ho
          dsimp only at ho2
          refine ⟨?_, by omega, by omega⟩
          first | exact ho2.1 | (rw [Rs.pt_iff]; omega)
        have HP := Lib.hid hp.1
        obtain ⟨m, rfl⟩ : ∃ m : Nat, x = (m : Int) := ⟨x.toNat, by omega⟩
        have hm : m ≤ 1114111 := by omega
        clear hp
        by_cases hout : (m : Int) < 33 ∨ 126 < (m : Int)
        · have HO := Lib.hid hout
          have hcn : m < 16 ^ 16 := Nat.lt_of_lt_of_le (show m < 1114112 by omega) (by decide)
          have hx := Lib.hid (Rs.hexT_eq 15 m hcn)
          have hlen := Rs.hx_len 15 m hcn
          have hfi : Hid (∀ W', Below w.heap.size w W' → Calls Tryz.prog 105 #[.int .i64 (m : Int), .int .i64 16] W' fun e w' => e = .returned (.string ⟨(Rs.hx m).toArray⟩) ∧ Below w.heap.size w w') := Lib.hid (fun W' hb => (fi_calls m (by omega) W' (HH.out.2.2.1.below hb)).mono (fun e w' h => ⟨h.1, Bthen hb h.2⟩))
          have hup : Hid (∀ W', Below w.heap.size w W' → Calls Tryz.prog 104 #[.string ⟨(Rs.hx m).toArray⟩] W' fun e w' => e = .returned (.string ⟨(Lib.toUpperA (Rs.hx m)).toArray⟩) ∧ Below w.heap.size w w') := Lib.hid (fun W' hb => (str_ToUpper_ascii ⟨(Rs.hx m).toArray⟩ W' (by simp only [ByteArray.size]; simp; omega) (fun j b hb => Rs.hx_ascii m b (by simpa using List.mem_of_getElem? hb))).mono (fun e w' h => ⟨by simpa using h.1, Bthen hb h.2⟩))
          have hUl : (Lib.toUpperA (Rs.hx m)).length ≤ 16 := by simpa [Lib.toUpperA] using hlen
          obtain ⟨U, hU⟩ : ∃ U, U = Lib.toUpperA (Rs.hx m) := ⟨_, rfl⟩
          rw [← hU] at hup hUl
          have HU := Lib.hid (hU.trans hx.out)
          have ha1 : ∀ W, (Op.stringOp .add ⟨#[92, 120, 123]⟩ ⟨U.toArray⟩).run Tryz.prog W = .ok (.string ⟨([92, 120, 123] ++ U).toArray⟩) W := fun W => run_string_add_lists W [92, 120, 123] U (by simp) (by omega)
          have ha2 : ∀ W, (Op.stringOp .add ⟨([92, 120, 123] ++ U).toArray⟩ ⟨#[125]⟩).run Tryz.prog W = .ok (.string ⟨([92, 120, 123] ++ U ++ [125]).toArray⟩) W := fun W => run_string_add_lists W ([92, 120, 123] ++ U) [125] (by simp; omega) (by simp)
          generalize hM2 : [92, 120, 123] ++ U ++ [125] = M2 at ha2
          generalize hM1 : [92, 120, 123] ++ U = M1 at ha1 ha2
          have HM := Lib.hid hM2
          clear hM2 hM1 hU hx hlen hcn
          rcases hout with ho | ho
          all_goals (go_wp2_with fail)
          all_goals (go_quiet (fail))
          all_goals (go_wp2_with fail)
          all_goals (try (exfalso; omega))
          all_goals
            go_at_call 105
            refine (hfi.out _ (below_drewN HB.out _)).mono ?_
            rintro e w5 ⟨rfl, hb5⟩
            have HB5 := Lib.hid hb5
            clear hb5
            go_wp2_with fail
            go_at_call 104
            refine (hup.out _ HB5.out).mono ?_
            rintro e w6 ⟨rfl, hb6⟩
            have HB6 := Lib.hid hb6
            clear hb6
            go_wp2_with fail
            go_ret
            refine ⟨?_, HB6.out⟩
            rw [HXY.out, setT_one (by rw [← HXY.out]; exact HA.out), if_pos HO.out, show [92, 120, 123] ++ Rs.hexT 16 (m : Int).toNat ++ [125] = M2 by rw [← HM.out, HU.out]; rfl]
            rfl
        · have o1 : ¬ (m : Int) < 33 := fun e => hout (.inl e)
          have o2 : ¬ 126 < (m : Int) := fun e => hout (.inr e)
          have HO := Lib.hid hout
          clear hout
          go_wp2_with fail
          go_quiet (fail)
          go_wp2_with fail
          all_goals (try (exfalso; omega))
          go_at_call 106
          refine (contains_calls (m : Int) HP.out _).mono ?_
          rintro e w5 ⟨rfl, hb5⟩
          cases hmeta : isMeta (m : Int) with
          | true =>
            have HM := Lib.hid (And.intro hmeta hb5)
            have he := Rs.enc_ascii (m : Int) (by omega) (by omega)
            have ha1 : ∀ W, (Op.stringOp .add ⟨#[92]⟩ (Utf8.encode (m : Int))).run Tryz.prog W = .ok (.string ⟨([92] ++ [UInt8.ofNat m]).toArray⟩) W := fun W => by
              rw [he]
              exact run_string_add_lists W [92] [UInt8.ofNat m] (by simp) (by simp)
            clear hmeta hb5 he
            go_wp2_with fail
            go_ret
            refine ⟨?_, Bthen (below_drewN HB.out _) HM.out.2⟩
            rw [HXY.out, setT_one (by rw [← HXY.out]; exact HA.out), if_neg (fun e => by omega), if_pos HM.out.1]
            rfl
          | false =>
            have HM := Lib.hid (And.intro hmeta hb5)
            clear hmeta hb5
            go_wp2_with fail
            go_ret
            refine ⟨?_, Bthen (below_drewN HB.out _) HM.out.2⟩
            rw [HXY.out, setT_one (by rw [← HXY.out]; exact HA.out), if_neg (fun e => by omega), if_neg (by rw [HM.out.1]; decide)]
            have he := Rs.enc_ascii (m : Int) (by omega) (by omega)
            show Ending.returned (.string (Utf8.encode (m : Int))) = _
            rw [he]
      · have hne' : ((x : Int) != y) = true := by simpa using hne
        have HNE := Lib.hid hne
        clear hne
        go_wp2_with fail
        go_quiet (fail)
        go_wp2_with fail
        go_at_call 103
        refine (HTX.out _ (below_drewN HB.out _)).mono ?_
        rintro e w4 ⟨rfl, hb4⟩
        have HB4 := Lib.hid hb4
        clear hb4
        go_wp2_with fail
        go_ret
        refine ⟨?_, HB4.out⟩
        rw [setT_text HA.out HH.out.2.1 (fun a e => by rw [HXY.out] at e; injection e with e1 e2; injection e1 with e3 e4; exact HNE.out (e3.trans e4.symm))]
        rfl
    · have h1' : ((n : Int) != 1) = true := by simpa using fun e : (n : Int) = 1 => h1 (by omega)
      have H1 := Lib.hid h1
      clear h1
      go_wp2_with fail
      go_quiet (fail)
      go_wp2_with fail
      go_at_call 103
      refine (HTX.out _ (below_drewN HB.out _)).mono ?_
      rintro e w4 ⟨rfl, hb4⟩
      have HB4 := Lib.hid hb4
      clear hb4
      go_wp2_with fail
      go_ret
      refine ⟨?_, HB4.out⟩
      rw [setT_text HA.out HH.out.2.1 (fun a e => H1.out (by rw [HN.out, e]; rfl))]
      rfl
end Go.Proofs.YtimahlimmblgkaaGreatDoor.Sy
namespace Go.Proofs.YtimahlimmblgkaaGreatDoor.Sy
open Go Go.RowKit
def kFlat (ks : List Int) : List Value := ks.map (fun k => .int .u8 k)
def idxK (c : Int) : List Int → Int → Int
  | [], _ => -1
  | k :: r, i => if k = c then i else idxK c r (i + 1)
theorem idxK_mem (c : Int) : ∀ (ks : List Int) (i : Int), 0 ≤ i → (0 ≤ idxK c ks i ↔ c ∈ ks)
  | [], i, h => by simp [idxK]
  | k :: r, i, h => by
    unfold idxK
    by_cases e : k = c
    · rw [if_pos e]; simp [e, h]
    · rw [if_neg e, idxK_mem c r (i + 1) (by omega)]; simp [Ne.symm e]
set_option maxRecDepth 100000 in
set_option maxHeartbeats 4000000 in
theorem index_calls (a : Option Addr) (ks : List Int) (cap : Nat) (c : Int) (w : World) (h : RdF w a (kFlat ks)) (hl : ks.length ≤ 1000) :
    Calls Tryz.prog 101 #[.slice a ks.length cap, .int .u8 c] w fun e w' => e = .returned (.int .i64 (idxK c ks 0)) ∧ w' = w := by
  obtain ⟨n, hn⟩ : ∃ n, n = ks.length := ⟨_, rfl⟩
  have HH := Lib.hid (And.intro h hn)
  rw [← hn] at hl ⊢
  clear h hn
  go_enter Tryz.func101, Tryz.ntmps101
  go_wp2_with fail
  go_loopg [8] n (fun G v wr => ∃ j : Nat, j ≤ n ∧ G = n - j ∧ v = .int .i64 (j : Int) ∧ wr = w ∧ idxK c (ks.drop j) (j : Int) = idxK c ks 0)
  case atStart => exact ⟨0, Nat.zero_le _, rfl, rfl, rfl, rfl⟩
  case round =>
    obtain ⟨j, hj, rfl, rfl, rfl, hidx⟩ := hrel
    have HI := Lib.hid hidx
    clear hidx
    by_cases hlt : j < n
    · obtain ⟨k, hk⟩ : ∃ k, ks[j]? = some k := ⟨_, List.getElem?_eq_getElem (by have := HH.out.2; omega)⟩
      obtain ⟨b, off, rfl, hb, hc⟩ := HH.out.1 (by intro e; have h1 := congrArg List.length e; simp [kFlat] at h1; rw [h1] at hk; simp at hk)
      have hcell := hc j (.int .u8 k) (by simp [kFlat, hk])
      have hd : ks.drop j = k :: ks.drop (j + 1) := by
        rw [List.drop_eq_getElem_cons (by have := HH.out.2; omega)]
        rw [List.getElem?_eq_getElem (by have := HH.out.2; omega)] at hk
        injection hk with hk
        rw [hk]
      have HD := Lib.hid hd
      clear hc hd hk
      by_cases he : k = c
      · subst he
        go_wp2_with fail
        go_ret
        refine ⟨?_, rfl⟩
        rw [← HI.out, HD.out, idxK, if_pos rfl]
        rfl
      · have hne : (c == k) = false := beq_eq_false_iff_ne.2 (Ne.symm he)
        have HE := Lib.hid he
        clear he
        go_wp2_with fail
        go_roundg (n - (j + 1))
        case measure => omega
        case rel =>
          refine ⟨j + 1, by omega, rfl, by simp, rfl, ?_⟩
          rw [← HI.out, HD.out, idxK, if_neg HE.out]
          simp
    · go_wp2_with fail
      go_ret
      refine ⟨?_, rfl⟩
      rw [← HI.out, List.drop_eq_nil_of_le (by have := HH.out.2; omega), idxK]
      rfl
set_option maxRecDepth 100000 in
set_option maxHeartbeats 4000000 in
theorem kinds_calls (a : Option Addr) (ks : List Int) (cap : Nat) (c : Int) (w : World) (h : RdF w a (kFlat ks)) (hl : ks.length ≤ 1000) :
    Calls Tryz.prog 75 #[.slice a ks.length cap, .int .u8 c] w fun e w' => e = .returned (.bool (decide (c ∈ ks))) ∧ w' = w := by
  have HI := Lib.hid (index_calls a ks cap c w h hl)
  have hm := idxK_mem c ks 0 (by omega)
  obtain ⟨n, hn⟩ : ∃ n, n = ks.length := ⟨_, rfl⟩
  rw [← hn] at hl HI ⊢
  obtain ⟨i, hi⟩ : ∃ i, i = idxK c ks 0 := ⟨_, rfl⟩
  rw [← hi] at HI hm
  have HM := Lib.hid (show decide (c ∈ ks) = decide (0 ≤ i) by simp only [hm])
  clear hm hi hn h
  go_enter Tryz.func75, Tryz.ntmps75
  go_wp2_with fail
  refine HI.out.mono ?_
  rintro e w1 ⟨rfl, rfl⟩
  go_wp2_with fail
  go_ret
  refine ⟨?_, rfl⟩
  rw [HM.out]
  rfl
end Go.Proofs.YtimahlimmblgkaaGreatDoor.Sy
namespace Go.Proofs.YtimahlimmblgkaaGreatDoor.Sy
open Go Go.RowKit
theorem markS_len {c : Int} (h : Rs.pt c = true) : (Rs.markS c).length ≤ 10 := by
  have hc := (Rs.pt_iff c).1 h
  unfold Rs.markS
  split
  · simp
  · have := Rs.hexT_len 16 c.toNat 6 (by omega) (by decide)
    simp only [List.length_append, List.length_cons, List.length_nil]
    omega
theorem flat_le : ∀ {l : Rs.S}, (∀ r ∈ l, Rs.pt r.1 = true ∧ Rs.pt r.2 = true ∧ r.1 ≤ r.2) → (l.flatMap Rs.rangeT).length ≤ 21 * l.length
  | [], _ => by simp
  | r :: l, h => by
    have h1 := h r (by simp)
    have h2 := flat_le (l := l) (fun x hx => h x (List.mem_cons_of_mem _ hx))
    have h3 := markS_len h1.1
    have h4 := markS_len h1.2.1
    rw [List.flatMap_cons, List.length_append, List.length_cons]
    have h5 : (Rs.rangeT r).length ≤ 21 := by
      unfold Rs.rangeT
      rw [List.length_append]
      split
      · rw [List.length_cons]; omega
      · simp; omega
    omega
theorem setT_len {l : Rs.S} (h : Rs.right l = true) : (setT l).length ≤ 24000000 := by
  have h1 := flat_le (Rs.okAll h)
  have h2 := Rs.right_len h
  have h3 : (Rs.textS l).length ≤ 24000000 := by
    unfold Rs.textS
    split
    · decide
    · simp only [List.length_append, List.length_cons, List.length_nil]
      omega
  by_cases ha : l = allSet
  · rw [setT_all ha]; simp
  by_cases h4 : ∃ a, l = [(a, a)]
  · obtain ⟨a, rfl⟩ := h4
    rw [setT_one ha]
    split
    · have hp := (Rs.okAll h (a, a) (by simp)).1
      have hc := (Rs.pt_iff a).1 hp
      have := Rs.hexT_len 16 a.toNat 6 (by omega) (by decide)
      simp only [List.length_append, List.length_cons, List.length_nil]
      omega
    · split <;> simp
  · rw [setT_text ha h (fun a e => h4 ⟨a, e⟩)]
    exact h3
theorem quantT_le {a b : Int} (ha : i64 a) (hb : i64 b) : (quantT a b).length ≤ 50 := by
  have h1 : (Lib.itoa a).length ≤ 21 := Lib.itoa_length_le a ha.1 ha.2
  have h2 : (Lib.itoa b).length ≤ 21 := Lib.itoa_length_le b hb.1 hb.2
  unfold quantT
  repeat' split
  all_goals simp
  all_goals omega
theorem brk_le (b : Bool) (u : B) : (brk b u).length ≤ u.length + 4 := by
  unfold brk
  split
  · simp
  · omega
mutual
theorem wr_len : ∀ (t : T) (ks : List Int), (look t).shaped = true → (wr ks t).length + 1 ≤ 24000100 * cnt t
  | .mk k s a b z l, ks, h => by
    rw [look_shaped, Bool.and_eq_true] at h
    obtain ⟨h1, h2⟩ := h
    have hs : ∀ t ∈ l, (look t).shaped = true := List.all_eq_true.1 h2
    rw [wr, cnt]
    rcases shapedN_cases h1 with ⟨rfl, rfl, rfl, rfl, rfl, hl⟩ | ⟨rfl, hr, rfl, rfl, rfl, hl⟩ | ⟨rfl, rfl, rfl, rfl, rfl, hl⟩ | ⟨rfl, rfl, rfl, rfl, rfl, hl⟩ | ⟨rfl, rfl, ha, hb, hl⟩ | ⟨rfl, rfl, rfl, rfl, rfl, hl⟩
    · have := brk_le (decide ((1 : Int) ∈ ks)) []
      simp only [show ¬ ((1 : Int) = 2) by decide, show ¬ ((1 : Int) = 3) by decide, show ¬ ((1 : Int) = 4) by decide, show ¬ ((1 : Int) = 5) by decide, show ¬ ((1 : Int) = 6) by decide, if_false]
      simp at this
      omega
    · have := brk_le (decide ((2 : Int) ∈ ks)) (setT s)
      have h3 := setT_len hr
      rw [if_pos rfl]
      omega
    · have := brk_le (decide ((3 : Int) ∈ ks)) (wrL [3, 4, 1] l)
      have h3 := wrL_le l [3, 4, 1] hs
      rw [if_neg (by decide), if_pos rfl]
      omega
    · have := brk_le (decide ((4 : Int) ∈ ks)) (wrA true l)
      have h3 := wrA_le l true hs
      rw [if_neg (by decide), if_neg (by decide), if_pos rfl]
      omega
    · have := brk_le (decide ((5 : Int) ∈ ks)) (wrH [1, 3, 4, 5] l ++ quantT a b ++ if z = true then [63] else [])
      have h3 := wrH_le l [1, 3, 4, 5] hs
      have h4 : (quantT a b).length ≤ 50 := quantT_le ⟨by omega, by omega⟩ ⟨by omega, by omega⟩
      have h5 : (if z = true then [63] else ([] : B)).length ≤ 1 := by split <;> simp
      rw [if_neg (by decide), if_neg (by decide), if_neg (by decide), if_pos rfl]
      simp only [List.length_append] at this
      omega
    · have := brk_le (decide ((6 : Int) ∈ ks)) ([40] ++ wrH [] l ++ [41])
      have h3 := wrH_le l [] hs
      rw [if_neg (by decide), if_neg (by decide), if_neg (by decide), if_neg (by decide), if_pos rfl]
      simp only [List.length_append, List.length_cons, List.length_nil] at this
      simp only [List.cons_append, List.nil_append] at this ⊢
      omega
theorem wrL_le : ∀ (l : List T) (ks : List Int), (∀ t ∈ l, (look t).shaped = true) → (wrL ks l).length ≤ 24000100 * cntL l
  | [], ks, _ => by simp [wrL]
  | t :: l, ks, h => by
    have h1 := wr_len t ks (h t (by simp))
    have h2 := wrL_le l ks (fun x hx => h x (List.mem_cons_of_mem _ hx))
    rw [wrL, cntL, List.length_append]
    omega
theorem wrA_le : ∀ (l : List T) (f : Bool), (∀ t ∈ l, (look t).shaped = true) → (wrA f l).length ≤ 24000100 * cntL l
  | [], f, _ => by simp [wrA]
  | t :: l, f, h => by
    have h1 := wr_len t [4] (h t (by simp))
    have h2 := wrA_le l false (fun x hx => h x (List.mem_cons_of_mem _ hx))
    rw [wrA, cntL, List.length_append, List.length_append]
    have h3 : (if f = true then ([] : B) else [124]).length ≤ 1 := by split <;> simp
    omega
theorem wrH_le : ∀ (l : List T) (ks : List Int), (∀ t ∈ l, (look t).shaped = true) → (wrH ks l).length ≤ 24000100 * cntL l
  | [], ks, _ => by simp [wrH]
  | t :: l, ks, h => by
    have h1 := wr_len t ks (h t (by simp))
    rw [wrH, cntL]
    omega
end
theorem wbG_calls (B : Nat) (l : List UInt8) (c : UInt8) (w : World) (h : Bd w B l) (hl : l.length ≤ 100000000000000) :
    Calls Tryz.prog 77 #[.pointer (some ⟨B, 0, none⟩), .int .u8 (c.toNat : Int)] w fun e w' => e = .returned .nilIface ∧ Bd w' B (l ++ [c]) ∧ Below B w w' ∧ Lib.OthersKept 5 (some B) w w' :=
  (bld_WriteByte_k B B _ _ w h (by rw [Lib.byteCells_length]; omega) (Nat.le_of_lt h.lt)).mono fun e w' ⟨he, h1, h2, h3⟩ => ⟨he, .inr (by rw [byteCells_app]; exact h1), h2, h3⟩
theorem wsG_calls (B : Nat) (l m : List UInt8) (w : World) (h : Bd w B l) (hl : l.length ≤ 100000000000000) (hm : m.length ≤ 100000000) :
    Calls Tryz.prog 56 #[.pointer (some ⟨B, 0, none⟩), .string ⟨m.toArray⟩] w fun e w' => ∃ v, e = .returned v ∧ Bd w' B (l ++ m) ∧ Below B w w' ∧ Lib.OthersKept 5 (some B) w w' :=
  (bld_WriteString_k B B _ _ w h (by rw [Lib.byteCells_length]; simp only [ByteArray.size, List.size_toArray]; omega) (Nat.le_of_lt h.lt)).mono fun e w' ⟨he, h1, h2, h3⟩ => ⟨_, he, .inr (by rw [byteCells_app, ← strCells_mk m]; exact h1), h2, h3⟩
set_option maxHeartbeats 2000000 in
set_option maxRecDepth 100000 in
theorem bld_WriteString_d (B b : Nat) (bs : List Value) (s : ByteArray) (u : FrameMode) (w : World) (h : Lib.IsBuilderF 98 5 B b bs w) (hlen : bs.length + s.size ≤ 140737488355328) (hBw : B ≤ w.heap.size) :
    CallsD Tryz.prog 56 #[.pointer (some ⟨b, 0, none⟩), .string s] u w fun e u' w' => u' = u ∧ (e = .returned (.tuple #[.int .i64 s.size, .nilIface]) ∧ (Lib.BuilderAtF 98 5 B b (.pointer (some ⟨b, 0, none⟩)) (bs ++ Lib.strCells s) w' ∧ Below B w w' ∧ Lib.OthersKept 5 (some b) w w')) := by
  obtain ⟨i0, hi, hz0, hz1, hz2⟩ := info_parts infoByte
  go_enter_d Tryz.func56, Tryz.ntmps56
  go_wp2_with (go_at_call 82; refine (bld_copyCheck_k B b bs _ h).mono ?_)
  rintro e w1 ⟨rfl, h1, hb1, hk1⟩
  obtain ⟨hB, v, hbk, hown, hne⟩ := h1
  have c0 : w1.cell? ⟨b, 0, none⟩ = some (.pointer (some ⟨b, 0, none⟩)) := by rw [Lib.cell_of_heap hbk]; rfl
  have c1 : w1.cell? ⟨b, 1, none⟩ = some v := by rw [Lib.cell_of_heap hbk]; rfl
  go_wp2_with (at_builtin; refine Lib.wpList_append_own_stringF _ rfl _ _ 71 9 rfl B 5 i0 Tryz.underlying71 Tryz.underlying9 hi hz0 hz1 hz2 _ _ _ rfl hown s rfl ?c3 ?c4 ?c5 ?_)
  case c3 => unfold maxLen; omega
  case c4 => omega
  case c5 => have := hb1.size; omega
  intro v' w2 hown' hgrow _
  have hlt : b < w1.heap.size := by
    rcases Nat.lt_or_ge b w1.heap.size with h' | h'
    · exact h'
    · simp [Array.getElem?_eq_none h'] at hbk
  have hb2 : w2.heap[b]? = some (.cells #[.pointer (some ⟨b, 0, none⟩), v] 98 (0, 0)) := by
    rw [hgrow.block b hlt (fun e => hne e.symm)]
    exact hbk
  have d0 : w2.cell? ⟨b, 0, none⟩ = some (.pointer (some ⟨b, 0, none⟩)) := by rw [Lib.cell_of_heap hb2]; rfl
  have d1 : w2.cell? ⟨b, 1, none⟩ = some v := by rw [Lib.cell_of_heap hb2]; rfl
  have f1 : w2.frozen? ⟨b, 1, none⟩ = false := Lib.frozen_of_heap hb2 1
  obtain ⟨ao, n', cap, rfl⟩ : ∃ ao n' cap, v' = .slice ao n' cap := by
    rcases hown'.2 with ⟨hv, _⟩ | ⟨g, cap, cur, fz, hv, _⟩
    · exact ⟨_, _, _, hv⟩
    · exact ⟨_, _, _, hv⟩
  go_wp2
  go_ret2
  refine ⟨rfl, ?_, ?_, (hk1.grown hgrow (Lib.ownsRowF_kind hown)).setCell ⟨b, 1, none⟩ rfl _⟩
  · exact Lib.BuilderAtF.put (T := 98) (e := 5) hB hb2 (bs' := bs ++ Lib.strCells s) (by simpa [Lib.strCells_length] using hown') (by decide)
  · exact (hb1.grown hgrow (by have := hb1.size; omega) (fun k hk => (hown.lt k hk).1)).setCell (p := ⟨b, 1, none⟩) hB _
theorem wsD_calls (B : Nat) (l m : List UInt8) (u : FrameMode) (w : World) (h : Bd w B l) (hl : l.length ≤ 100000000000000) (hm : m.length ≤ 100000000) :
    CallsD Tryz.prog 56 #[.pointer (some ⟨B, 0, none⟩), .string ⟨m.toArray⟩] u w fun e u' w' => u' = u ∧ ∃ v, e = .returned v ∧ Bd w' B (l ++ m) ∧ Below B w w' ∧ Lib.OthersKept 5 (some B) w w' :=
  (bld_WriteString_d B B _ _ u w h (by rw [Lib.byteCells_length]; simp only [ByteArray.size, List.size_toArray]; omega) (Nat.le_of_lt h.lt)).mono fun e u' w' ⟨hu, he, h1, h2, h3⟩ => ⟨hu, _, he, .inr (by rw [byteCells_app, ← strCells_mk m]; exact h1), h2, h3⟩
end Go.Proofs.YtimahlimmblgkaaGreatDoor.Sy
