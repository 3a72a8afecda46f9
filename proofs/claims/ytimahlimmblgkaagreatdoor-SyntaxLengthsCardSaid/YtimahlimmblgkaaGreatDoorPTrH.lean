/- Texts of the claim, put together: TrH, TrI. -/
import Derived.Test.YtimahlimmblgkaaGreatDoorPTrE
import Derived.Test.YtimahlimmblgkaaGreatDoorPTrC
namespace Go.Proofs.YtimahlimmblgkaaGreatDoor.Sy
open Go Go.RowKit
theorem atom_at {s : ByteArray} {k : Nat} (G : Nat) (h : k < s.size) (h40 : s[k] ≠ 40) : pAtom (G + 1) (s.data.toList.drop k) = atom1 (s.data.toList.drop k) ∧ Lib.hasPrefix (s.data.toList.drop k) [40, 63, 58] = false ∧ Lib.hasPrefix (s.data.toList.drop k) [40] = false ∧ Rs.bt (s.data.toList.drop k) 0 = (s[k].toNat : Int) := by
  have hR := drop_cons s k h
  have h3 : (s.data.toList.drop k).take 3 ≠ [40, 63, 58] := by
    rw [hR]; intro e; simp at e; exact h40 e.1
  have h1 : (s.data.toList.drop k).take 1 ≠ [40] := by
    rw [hR]; intro e; simp at e; exact h40 e
  refine ⟨pAtom_one h3 h1, by rw [hasPre_take]; exact decide_eq_false h3, by rw [hasPre_take]; exact decide_eq_false h1, ?_⟩
  rw [hR]
  rfl
theorem dot_at {s : ByteArray} {k : Nat} (h : k < s.size) : Lib.hasPrefix (s.data.toList.drop k) [46] = decide (s[k] = 46) := by
  rw [hasPre_one, drop_cons s k h]
  simp
theorem At.adv {w wi : World} {p k : Nat} {s : ByteArray} (h : At w wi p s k) (hp : p < w.heap.size) (j : Nat) : At w (wi.setCell ⟨p, 1, none⟩ (.int .i64 (j : Int))) p s j :=
  h.go hp (Fr.setCell (Fr.refl _ _) (by exact rfl) _) (h.pa.set j)
/-- a node over a set that a call gave -/
theorem set_node {P : Nat → Prop} {W : World} {base : Nat} {a : Option Addr} {cap : Nat} {l : Rs.S} (h : W.ownsRow base 84 2 (.slice a l.length cap) l.length (rFlat l)) (hl : l.length < 4611686018427387904) (hP : ∀ g, base ≤ g → P g) : RdT P W (.mk 2 a cap l 0 0 false none 0 []) := by
  obtain ⟨a', cap', e, _, hs⟩ := Sl.of_own h
  cases e
  refine RdT.leaf (by decide) hs hl (fun q e => ?_)
  subst e
  rcases own_cases h with ⟨e, _⟩ | ⟨q', e, _, h3, _⟩
  · cases e
  · cases e; exact hP _ h3
theorem bt0 {rs : ByteArray} (h0 : 0 < rs.size) : Rs.bt rs.data.toList 0 = (rs[0].toNat : Int) := by
  show ((rs.data.toList.getD 0 0).toNat : Int) = _
  rw [List.getD_eq_getElem?_getD, List.getElem?_eq_getElem (by simpa using h0)]
  rfl
theorem bt1 {rs : ByteArray} (h0 : 1 < rs.size) : Rs.bt rs.data.toList 1 = (rs[1].toNat : Int) := by
  show ((rs.data.toList.getD 1 0).toNat : Int) = _
  rw [List.getD_eq_getElem?_getD, List.getElem?_eq_getElem (by simpa using h0)]
  rfl
theorem namedS_len (c : Int) : (Rs.namedS c).length < 4611686018427387904 := by
  have h : (Rs.namedS c).length ≤ 100 := by
    unfold Rs.namedS
    repeat' split
    all_goals (try unfold Rs.lowS)
    all_goals (repeat' split)
    all_goals decide
  omega
set_option maxRecDepth 100000 in
set_option maxHeartbeats 8000000 in
theorem atom_dot (w0 : World) (p : Nat) (s : ByteArray) (G k : Nat) (w : World) (hctx : Ctx w0 p s k w) (hlt : k < s.size) (hc : s[k] = 46) :
    Calls Tryz.prog 107 #[.pointer (some ⟨p, 0, none⟩)] w (APost p s k (pAtom (G + 1) (s.data.toList.drop k)) w) := by
  have c0 : w.cell? ⟨p, 0, none⟩ = some (.string s) := block_cell hctx.pa 0 _ rfl
  have c1 : w.cell? ⟨p, 1, none⟩ = some (.int .i64 (k : Int)) := block_cell hctx.pa 1 _ rfl
  have hle : k ≤ s.size := hctx.le
  have hp1 : p < w.heap.size := hctx.pa.lt
  have HX := Lib.hid hctx
  have HP := Lib.hid (atom_at G hlt (by rw [hc]; decide))
  have HD := Lib.hid (show Lib.hasPrefix (s.data.toList.drop k) [46] = true by rw [dot_at hlt, hc]; rfl)
  have HB := Lib.hid (show Rs.bt (s.data.toList.drop k) 0 = 46 by rw [(atom_at G hlt (by rw [hc]; decide)).2.2.2, hc]; rfl)
  clear hc
  clear hctx
  go_enter Tryz.func107, Tryz.ntmps107
  go_wp2_with fail
  go_quiet (fail)
  generalize hrs : s.extract k s.size = rs
  have hsz : rs.size = s.size - k := by rw [← hrs]; simp
  have hrl : rs.data.toList = s.data.toList.drop k := by rw [← hrs]; exact ex_drop s k
  have HRS := Lib.hid (And.intro hsz hrl)
  clear hrs hsz hrl
  go_wp2_with fail
  go_at_call 80
  refine (take_no p s ⟨#[40, 63, 58]⟩ k _ (((At.start HX.out.pa).drw hp1 _).pa) hle HX.out.sz HP.out.2.1).mono ?_
  rintro e w1 ⟨rfl, hp1', hf1⟩
  have H0 := Lib.hid (((At.start HX.out.pa).drw hp1 _).go hp1 hf1 hp1')
  clear hp1' hf1 c0 c1
  go_wp2_with fail
  go_at_call 80
  refine (take_no p s ⟨#[40]⟩ k _ H0.out.pa hle HX.out.sz HP.out.2.2.1).mono ?_
  rintro e w2 ⟨rfl, hp1', hf1⟩
  have H1 := Lib.hid (H0.out.go hp1 hf1 hp1')
  clear hp1' hf1
  go_wp2_with fail
  go_at_call 80
  refine (take_yes p s ⟨#[46]⟩ k _ H1.out.pa (show k + 1 ≤ s.size by omega) HX.out.sz HD.out).mono ?_
  rintro e w3 ⟨rfl, hp1', hf1⟩
  have H2 := Lib.hid (H1.out.go hp1 hf1 hp1')
  clear hp1' hf1
  go_wp2_with fail
  go_at_call 102
  refine (all_calls _).mono ?_
  rintro e W ⟨y, he, hyt, hy, hbW⟩
  obtain ⟨ky, say, scy, sy, mny, mxy, lzy, nay, ncy, ly⟩ := y
  replace he : e = .returned (.agg #[.int .u8 ky, .slice say sy.length scy, .int .i64 mny, .int .i64 mxy, .bool lzy, .slice nay ly.length ncy]) := he
  subst he
  have H3 := Lib.hid (H2.out.bel hbW)
  have hr := H3.out.res
  have d0 := block_cell hr 0 _ rfl
  have d1 := block_cell hr 1 _ rfl
  have d2 := block_cell hr 2 _ rfl
  have d3 := block_cell hr 3 _ rfl
  have d4 := block_cell hr 4 _ rfl
  have d5 := block_cell hr 5 _ rfl
  have v0 := block_froz hr 0
  have v1 := block_froz hr 1
  have v2 := block_froz hr 2
  have v3 := block_froz hr 3
  have v4 := block_froz hr 4
  have v5 := block_froz hr 5
  clear hr
  have HY := Lib.hid (And.intro hyt (H2.out.new hy))
  clear hyt hy hbW
  go_wp2_with fail
  refine post_world ?_
  intro wE hwE
  have hD := six_done H3.out.res H3.out.fr HY.out.2 hwE
  have s0 : wE.cell? ⟨w.heap.size, 0, none⟩ = some (.int .u8 ky) := block_cell hD.1 0 _ rfl
  have s1 : wE.cell? ⟨w.heap.size, 1, none⟩ = some (.slice say sy.length scy) := block_cell hD.1 1 _ rfl
  have s2 : wE.cell? ⟨w.heap.size, 2, none⟩ = some (.int .i64 mny) := block_cell hD.1 2 _ rfl
  have s3 : wE.cell? ⟨w.heap.size, 3, none⟩ = some (.int .i64 mxy) := block_cell hD.1 3 _ rfl
  have s4 : wE.cell? ⟨w.heap.size, 4, none⟩ = some (.bool lzy) := block_cell hD.1 4 _ rfl
  have s5 : wE.cell? ⟨w.heap.size, 5, none⟩ = some (.slice nay ly.length ncy) := block_cell hD.1 5 _ rfl
  have HE := Lib.hid hD.2
  clear hD hwE d0 d1 d2 d3 d4 d5 v0 v1 v2 v3 v4 v5
  refine bodyPost_ret (v := .tuple #[.agg #[.int .u8 ky, .slice say sy.length scy, .int .i64 mny, .int .i64 mxy, .bool lzy, .slice nay ly.length ncy], .bool true]) (by simp [results, Tryz.results107, go_sem, s0, s1, s2, s3, s4, s5]) rfl ⟨⟨_, HE.out.1, .inl ⟨all, 1, ?_, rfl, HY.out.1, ?_, by omega⟩⟩, HE.out.2.1⟩
  · rw [HP.out.1, atom1, if_pos HB.out]
  · exact (HE.out.2.2 p (by omega) H3.out.pa.lt).trans H3.out.pa
set_option maxRecDepth 100000 in
set_option maxHeartbeats 8000000 in
theorem atom_cls (w0 : World) (p : Nat) (s : ByteArray) (G k : Nat) (w : World) (hctx : Ctx w0 p s k w) (hlt : k < s.size) (hc : s[k] = 91) :
    Calls Tryz.prog 107 #[.pointer (some ⟨p, 0, none⟩)] w (APost p s k (pAtom (G + 1) (s.data.toList.drop k)) w) := by
  have c0 : w.cell? ⟨p, 0, none⟩ = some (.string s) := block_cell hctx.pa 0 _ rfl
  have c1 : w.cell? ⟨p, 1, none⟩ = some (.int .i64 (k : Int)) := block_cell hctx.pa 1 _ rfl
  have hle : k ≤ s.size := hctx.le
  have hp1 : p < w.heap.size := hctx.pa.lt
  have HX := Lib.hid hctx
  have HP := Lib.hid (atom_at G hlt (by rw [hc]; decide))
  have HD := Lib.hid (show Lib.hasPrefix (s.data.toList.drop k) [46] = false by rw [dot_at hlt, hc]; decide)
  have HB := Lib.hid (show Rs.bt (s.data.toList.drop k) 0 = 91 by rw [(atom_at G hlt (by rw [hc]; decide)).2.2.2, hc]; rfl)
  have HC := Lib.hid hc
  clear hc
  clear hctx
  go_enter Tryz.func107, Tryz.ntmps107
  go_wp2_with fail
  go_quiet (fail)
  generalize hrs : s.extract k s.size = rs
  have hsz : rs.size = s.size - k := by rw [← hrs]; simp
  have hrl : rs.data.toList = s.data.toList.drop k := by rw [← hrs]; exact ex_drop s k
  have HRS := Lib.hid (And.intro hsz hrl)
  clear hrs hsz hrl
  go_wp2_with fail
  go_at_call 80
  refine (take_no p s ⟨#[40, 63, 58]⟩ k _ (((At.start HX.out.pa).drw hp1 _).pa) hle HX.out.sz HP.out.2.1).mono ?_
  rintro e w1 ⟨rfl, hp1', hf1⟩
  have H0 := Lib.hid (((At.start HX.out.pa).drw hp1 _).go hp1 hf1 hp1')
  clear hp1' hf1 c0 c1
  go_wp2_with fail
  go_at_call 80
  refine (take_no p s ⟨#[40]⟩ k _ H0.out.pa hle HX.out.sz HP.out.2.2.1).mono ?_
  rintro e w2 ⟨rfl, hp1', hf1⟩
  have H1 := Lib.hid (H0.out.go hp1 hf1 hp1')
  clear hp1' hf1
  go_wp2_with fail
  go_at_call 80
  refine (take_no p s ⟨#[46]⟩ k _ H1.out.pa hle HX.out.sz HD.out).mono ?_
  rintro e w3 ⟨rfl, hp1', hf1⟩
  have H2 := Lib.hid (H1.out.go hp1 hf1 hp1')
  clear hp1' hf1
  have h0 : 0 < rs.size := by have := HRS.out.1; omega
  have hb0 : ((rs[0].toNat : Int) == 91) = true := by
    have h1 := HB.out
    rw [← HRS.out.2] at h1
    rw [← bt0 h0, h1]
    rfl
  go_wp2_with fail
  go_at_call 136
  have hc3 := HX.out.fr H2.out.fr H2.out.pa hle
  refine (read_calls rs w3 (hc3.vs.below hc3.bel).lv (by have := HRS.out.1; have := hc3.sz; omega)).mono ?_
  clear hc3
  rintro e W hpost
  unfold RdPost at hpost
  rw [HRS.out.2] at hpost
  cases hF : Rs.readF (s.data.toList.drop k) with
  | none =>
    obtain ⟨e1, e2, e3⟩ := Rs.read_none hF
    rw [e1, e2, e3] at hpost
    obtain ⟨v, rfl, hown, hbW⟩ := hpost
    obtain ⟨a, cap, rfl⟩ := own_form hown
    have H3 := Lib.hid (H2.out.bel hbW)
    have HO := Lib.hid (And.intro hown (show ([] : Rs.S).length < 4611686018427387904 by decide))
    have HF := Lib.hid hF
    have hs9 := HX.out.sz
    clear hown hbW hF e1 e2 e3
    have c1 := block_cell H3.out.pa 1 _ rfl
    have f1 := block_froz H3.out.pa 1
    have np1 : ¬ (p = w.heap.size) := by omega
    have np2 : ¬ (w.heap.size = p) := by omega
    have hr := H3.out.res
    have d0 := block_cell hr 0 _ rfl
    have d1 := block_cell hr 1 _ rfl
    have d2 := block_cell hr 2 _ rfl
    have d3 := block_cell hr 3 _ rfl
    have d4 := block_cell hr 4 _ rfl
    have d5 := block_cell hr 5 _ rfl
    have v0 := block_froz hr 0
    have v1 := block_froz hr 1
    have v2 := block_froz hr 2
    have v3 := block_froz hr 3
    have v4 := block_froz hr 4
    have v5 := block_froz hr 5
    clear hr
    go_wp2_with fail
    refine post_world ?_
    intro wE hwE
    obtain ⟨wT, hwT⟩ : ∃ q, q = W.setCell ⟨p, 1, none⟩ (.int .i64 ((k + (0) : Nat) : Int)) := ⟨_, rfl⟩
    have e9 : Value.int IntKind.i64 ((k : Int)) = .int .i64 ((k + (0) : Nat) : Int) := by simp
    rw [e9, ← hwT] at hwE
    have hT : At w wT p s (k + (0)) := by rw [hwT]; exact H3.out.adv hp1 _
    have hy := set_node (P := fun b => w.heap.size ≤ b ∧ b ≠ w.heap.size) HO.out.1 HO.out.2 (fun g hg => by have := H2.out.lt; omega)
    have hyT : RdT (fun b => w.heap.size ≤ b ∧ b ≠ w.heap.size) wT (.mk 2 a cap (([] : Rs.S)) 0 0 false none 0 []) := by
      rw [hwT]
      exact hy.fr (Fr.setCell (X := fun q => q = p) (Fr.refl _ _) (by exact rfl) _) (fun b hb _ e => by omega)
    have hD := six_done hT.res hT.fr hyT hwE
    have s0 : wE.cell? ⟨w.heap.size, 0, none⟩ = some (.int .u8 2) := block_cell hD.1 0 _ rfl
    have s1 : wE.cell? ⟨w.heap.size, 1, none⟩ = some (.slice a (([] : Rs.S)).length cap) := block_cell hD.1 1 _ rfl
    have s2 : wE.cell? ⟨w.heap.size, 2, none⟩ = some (.int .i64 0) := block_cell hD.1 2 _ rfl
    have s3 : wE.cell? ⟨w.heap.size, 3, none⟩ = some (.int .i64 0) := block_cell hD.1 3 _ rfl
    have s4 : wE.cell? ⟨w.heap.size, 4, none⟩ = some (.bool false) := block_cell hD.1 4 _ rfl
    have s5 : wE.cell? ⟨w.heap.size, 5, none⟩ = some (.slice none 0 0) := block_cell hD.1 5 _ rfl
    have HE := Lib.hid (And.intro hD.2 hT)
    clear hD hwE hwT hT hy hyT e9 d0 d1 d2 d3 d4 d5 v0 v1 v2 v3 v4 v5
    refine bodyPost_ret (v := .tuple #[.agg #[.int .u8 2, .slice a (([] : Rs.S)).length cap, .int .i64 0, .int .i64 0, .bool false, .slice none 0 0], .bool false]) (by simp [results, Tryz.results107, go_sem, s0, s1, s2, s3, s4, s5]) rfl ⟨⟨_, HE.out.1.1, .inr ⟨?_, rfl⟩⟩, HE.out.1.2.1⟩
    rw [HP.out.1, atom1, if_neg (by rw [HB.out]; decide), if_pos HB.out, HF.out]
    rfl
  | some q =>
    obtain ⟨l, n⟩ := q
    obtain ⟨e1, e2, e3⟩ := Rs.read_some hF
    rw [e1, e2, e3] at hpost
    obtain ⟨v, rfl, hown, hbW⟩ := hpost
    obtain ⟨a, cap, rfl⟩ := own_form hown
    have H3 := Lib.hid (H2.out.bel hbW)
    have hat : pAtom (G + 1) (s.data.toList.drop k) = some (.mk 2 l 0 0 false [], n) := by
      rw [HP.out.1, atom1, if_neg (by rw [HB.out]; decide), if_pos HB.out, hF]
      rfl
    have hn : k + n ≤ s.size := by
      have h1 := ((p_ok (G + 1)).2.2 _ _ _ (by rw [drop_cons s k hlt]; simp) hat).2.2.1
      rw [List.length_drop, len_d] at h1
      omega
    have hs9 := HX.out.sz
    have hll : l.length < 4611686018427387904 := by
      have h1 := ((p_ok (G + 1)).2.2 _ _ _ (by rw [drop_cons s k hlt]; simp) hat).1
      rw [look_shaped] at h1
      simp [shapedN] at h1
      have := Rs.right_len h1
      omega
    have HO := Lib.hid (And.intro hown hll)
    have HF := Lib.hid hat
    clear hll
    clear hown hbW hF e1 e2 e3 hat
    have c1 := block_cell H3.out.pa 1 _ rfl
    have f1 := block_froz H3.out.pa 1
    have np1 : ¬ (p = w.heap.size) := by omega
    have np2 : ¬ (w.heap.size = p) := by omega
    have hr := H3.out.res
    have d0 := block_cell hr 0 _ rfl
    have d1 := block_cell hr 1 _ rfl
    have d2 := block_cell hr 2 _ rfl
    have d3 := block_cell hr 3 _ rfl
    have d4 := block_cell hr 4 _ rfl
    have d5 := block_cell hr 5 _ rfl
    have v0 := block_froz hr 0
    have v1 := block_froz hr 1
    have v2 := block_froz hr 2
    have v3 := block_froz hr 3
    have v4 := block_froz hr 4
    have v5 := block_froz hr 5
    clear hr
    go_wp2_with fail
    refine post_world ?_
    intro wE hwE
    obtain ⟨wT, hwT⟩ : ∃ q, q = W.setCell ⟨p, 1, none⟩ (.int .i64 ((k + (n) : Nat) : Int)) := ⟨_, rfl⟩
    have e9 : Value.int IntKind.i64 ((k : Int) + (n : Int)) = .int .i64 ((k + (n) : Nat) : Int) := by simp
    rw [e9, ← hwT] at hwE
    have hT : At w wT p s (k + (n)) := by rw [hwT]; exact H3.out.adv hp1 _
    have hy := set_node (P := fun b => w.heap.size ≤ b ∧ b ≠ w.heap.size) HO.out.1 HO.out.2 (fun g hg => by have := H2.out.lt; omega)
    have hyT : RdT (fun b => w.heap.size ≤ b ∧ b ≠ w.heap.size) wT (.mk 2 a cap (l) 0 0 false none 0 []) := by
      rw [hwT]
      exact hy.fr (Fr.setCell (X := fun q => q = p) (Fr.refl _ _) (by exact rfl) _) (fun b hb _ e => by omega)
    have hD := six_done hT.res hT.fr hyT hwE
    have s0 : wE.cell? ⟨w.heap.size, 0, none⟩ = some (.int .u8 2) := block_cell hD.1 0 _ rfl
    have s1 : wE.cell? ⟨w.heap.size, 1, none⟩ = some (.slice a (l).length cap) := block_cell hD.1 1 _ rfl
    have s2 : wE.cell? ⟨w.heap.size, 2, none⟩ = some (.int .i64 0) := block_cell hD.1 2 _ rfl
    have s3 : wE.cell? ⟨w.heap.size, 3, none⟩ = some (.int .i64 0) := block_cell hD.1 3 _ rfl
    have s4 : wE.cell? ⟨w.heap.size, 4, none⟩ = some (.bool false) := block_cell hD.1 4 _ rfl
    have s5 : wE.cell? ⟨w.heap.size, 5, none⟩ = some (.slice none 0 0) := block_cell hD.1 5 _ rfl
    have HE := Lib.hid (And.intro hD.2 hT)
    clear hD hwE hwT hT hy hyT e9 d0 d1 d2 d3 d4 d5 v0 v1 v2 v3 v4 v5
    refine bodyPost_ret (v := .tuple #[.agg #[.int .u8 2, .slice a (l).length cap, .int .i64 0, .int .i64 0, .bool false, .slice none 0 0], .bool true]) (by simp [results, Tryz.results107, go_sem, s0, s1, s2, s3, s4, s5]) rfl ⟨⟨_, HE.out.1.1, .inl ⟨_, n, HF.out, rfl, rfl, ?_, hn⟩⟩, HE.out.1.2.1⟩
    exact (HE.out.1.2.2 p (by omega) HE.out.2.pa.lt).trans HE.out.2.pa
set_option maxRecDepth 100000 in
set_option maxHeartbeats 8000000 in
theorem atom_named (w0 : World) (p : Nat) (s : ByteArray) (G k : Nat) (w : World) (hctx : Ctx w0 p s k w) (hlt : k < s.size) (hc : s[k] = 92) (h2 : k + 1 < s.size) (hnb : Rs.namedB (Rs.bt (s.data.toList.drop k) 1) = true) :
    Calls Tryz.prog 107 #[.pointer (some ⟨p, 0, none⟩)] w (APost p s k (pAtom (G + 1) (s.data.toList.drop k)) w) := by
  have c0 : w.cell? ⟨p, 0, none⟩ = some (.string s) := block_cell hctx.pa 0 _ rfl
  have c1 : w.cell? ⟨p, 1, none⟩ = some (.int .i64 (k : Int)) := block_cell hctx.pa 1 _ rfl
  have hle : k ≤ s.size := hctx.le
  have hp1 : p < w.heap.size := hctx.pa.lt
  have HX := Lib.hid hctx
  have HP := Lib.hid (atom_at G hlt (by rw [hc]; decide))
  have HD := Lib.hid (show Lib.hasPrefix (s.data.toList.drop k) [46] = false by rw [dot_at hlt, hc]; decide)
  have HB := Lib.hid (show Rs.bt (s.data.toList.drop k) 0 = 92 by rw [(atom_at G hlt (by rw [hc]; decide)).2.2.2, hc]; rfl)
  have HN := Lib.hid hnb
  clear hc hnb
  clear hctx
  go_enter Tryz.func107, Tryz.ntmps107
  go_wp2_with fail
  go_quiet (fail)
  generalize hrs : s.extract k s.size = rs
  have hsz : rs.size = s.size - k := by rw [← hrs]; simp
  have hrl : rs.data.toList = s.data.toList.drop k := by rw [← hrs]; exact ex_drop s k
  have HRS := Lib.hid (And.intro hsz hrl)
  clear hrs hsz hrl
  go_wp2_with fail
  go_at_call 80
  refine (take_no p s ⟨#[40, 63, 58]⟩ k _ (((At.start HX.out.pa).drw hp1 _).pa) hle HX.out.sz HP.out.2.1).mono ?_
  rintro e w1 ⟨rfl, hp1', hf1⟩
  have H0 := Lib.hid (((At.start HX.out.pa).drw hp1 _).go hp1 hf1 hp1')
  clear hp1' hf1 c0 c1
  go_wp2_with fail
  go_at_call 80
  refine (take_no p s ⟨#[40]⟩ k _ H0.out.pa hle HX.out.sz HP.out.2.2.1).mono ?_
  rintro e w2 ⟨rfl, hp1', hf1⟩
  have H1 := Lib.hid (H0.out.go hp1 hf1 hp1')
  clear hp1' hf1
  go_wp2_with fail
  go_at_call 80
  refine (take_no p s ⟨#[46]⟩ k _ H1.out.pa hle HX.out.sz HD.out).mono ?_
  rintro e w3 ⟨rfl, hp1', hf1⟩
  have H2 := Lib.hid (H1.out.go hp1 hf1 hp1')
  clear hp1' hf1
  have h0 : 0 < rs.size := by have := HRS.out.1; omega
  have hb0 : (rs[0].toNat : Int) = 92 := by
    have h1 := HB.out
    rw [← HRS.out.2, bt0 h0] at h1
    exact h1
  have h1 : 1 < rs.size := by have := HRS.out.1; omega
  have hb1 : Rs.bt (s.data.toList.drop k) 1 = (rs[1].toNat : Int) := by rw [← HRS.out.2]; exact bt1 h1
  have HB1 := Lib.hid hb1
  clear hb1
  go_wp2_with fail
  go_at_call 137
  refine (named_calls _ w3).mono ?_
  rintro e W hpost
  rw [← HB1.out, HN.out] at hpost
  obtain ⟨v, rfl, hown, hbW⟩ := hpost
  obtain ⟨a, cap, rfl⟩ := own_form hown
  have H3 := Lib.hid (H2.out.bel hbW)
  have hll := namedS_len (Rs.bt (s.data.toList.drop k) 1)
  have HO := Lib.hid (And.intro hown hll)
  have hs9 := HX.out.sz
  obtain ⟨l, hl⟩ : ∃ q, q = Rs.namedS (Rs.bt (s.data.toList.drop k) 1) := ⟨_, rfl⟩
  rw [← hl] at HO ⊢
  have HL := Lib.hid hl
  clear hown hll hbW hl
  have c1 := block_cell H3.out.pa 1 _ rfl
  have f1 := block_froz H3.out.pa 1
  have np1 : ¬ (p = w.heap.size) := by omega
  have np2 : ¬ (w.heap.size = p) := by omega
  have hr := H3.out.res
  have d0 := block_cell hr 0 _ rfl
  have d1 := block_cell hr 1 _ rfl
  have d2 := block_cell hr 2 _ rfl
  have d3 := block_cell hr 3 _ rfl
  have d4 := block_cell hr 4 _ rfl
  have d5 := block_cell hr 5 _ rfl
  have v0 := block_froz hr 0
  have v1 := block_froz hr 1
  have v2 := block_froz hr 2
  have v3 := block_froz hr 3
  have v4 := block_froz hr 4
  have v5 := block_froz hr 5
  clear hr
  go_wp2_with fail
  refine post_world ?_
  intro wE hwE
  obtain ⟨wT, hwT⟩ : ∃ q, q = W.setCell ⟨p, 1, none⟩ (.int .i64 ((k + (2) : Nat) : Int)) := ⟨_, rfl⟩
  have e9 : Value.int IntKind.i64 ((k : Int) + 2) = .int .i64 ((k + (2) : Nat) : Int) := by simp
  rw [e9, ← hwT] at hwE
  have hT : At w wT p s (k + (2)) := by rw [hwT]; exact H3.out.adv hp1 _
  have hy := set_node (P := fun b => w.heap.size ≤ b ∧ b ≠ w.heap.size) HO.out.1 HO.out.2 (fun g hg => by have := H2.out.lt; omega)
  have hyT : RdT (fun b => w.heap.size ≤ b ∧ b ≠ w.heap.size) wT (.mk 2 a cap (l) 0 0 false none 0 []) := by
    rw [hwT]
    exact hy.fr (Fr.setCell (X := fun q => q = p) (Fr.refl _ _) (by exact rfl) _) (fun b hb _ e => by omega)
  have hD := six_done hT.res hT.fr hyT hwE
  have s0 : wE.cell? ⟨w.heap.size, 0, none⟩ = some (.int .u8 2) := block_cell hD.1 0 _ rfl
  have s1 : wE.cell? ⟨w.heap.size, 1, none⟩ = some (.slice a (l).length cap) := block_cell hD.1 1 _ rfl
  have s2 : wE.cell? ⟨w.heap.size, 2, none⟩ = some (.int .i64 0) := block_cell hD.1 2 _ rfl
  have s3 : wE.cell? ⟨w.heap.size, 3, none⟩ = some (.int .i64 0) := block_cell hD.1 3 _ rfl
  have s4 : wE.cell? ⟨w.heap.size, 4, none⟩ = some (.bool false) := block_cell hD.1 4 _ rfl
  have s5 : wE.cell? ⟨w.heap.size, 5, none⟩ = some (.slice none 0 0) := block_cell hD.1 5 _ rfl
  have HE := Lib.hid (And.intro hD.2 hT)
  clear hD hwE hwT hT hy hyT e9 d0 d1 d2 d3 d4 d5 v0 v1 v2 v3 v4 v5
  refine bodyPost_ret (v := .tuple #[.agg #[.int .u8 2, .slice a (l).length cap, .int .i64 0, .int .i64 0, .bool false, .slice none 0 0], .bool true]) (by simp [results, Tryz.results107, go_sem, s0, s1, s2, s3, s4, s5]) rfl ⟨⟨_, HE.out.1.1, .inl ⟨_, 2, ?_, rfl, rfl, ?_, by omega⟩⟩, HE.out.1.2.1⟩
  · rw [HP.out.1, atom1, if_neg (by rw [HB.out]; decide), if_neg (by rw [HB.out]; decide), if_pos HB.out, if_pos (show 1 < (s.data.toList.drop k).length by rw [List.length_drop, len_d]; omega), Rs.namedO_eq, if_pos HN.out]
    rw [← HL.out]
    rfl
  · exact (HE.out.1.2.2 p (by omega) HE.out.2.pa.lt).trans HE.out.2.pa
end Go.Proofs.YtimahlimmblgkaaGreatDoor.Sy
namespace Go.Proofs.YtimahlimmblgkaaGreatDoor.Sy
open Go Go.RowKit
set_option maxRecDepth 100000 in
set_option maxHeartbeats 8000000 in
theorem atom_esc1 (w0 : World) (p : Nat) (s : ByteArray) (G k : Nat) (w : World) (hctx : Ctx w0 p s k w) (hlt : k < s.size) (hc : s[k] = 92) (h2 : ¬ k + 1 < s.size) :
    Calls Tryz.prog 107 #[.pointer (some ⟨p, 0, none⟩)] w (APost p s k (pAtom (G + 1) (s.data.toList.drop k)) w) := by
  have c0 : w.cell? ⟨p, 0, none⟩ = some (.string s) := block_cell hctx.pa 0 _ rfl
  have c1 : w.cell? ⟨p, 1, none⟩ = some (.int .i64 (k : Int)) := block_cell hctx.pa 1 _ rfl
  have hle : k ≤ s.size := hctx.le
  have hp1 : p < w.heap.size := hctx.pa.lt
  have HX := Lib.hid hctx
  have HP := Lib.hid (atom_at G hlt (by rw [hc]; decide))
  have HD := Lib.hid (show Lib.hasPrefix (s.data.toList.drop k) [46] = false by rw [dot_at hlt, hc]; decide)
  have HB := Lib.hid (show Rs.bt (s.data.toList.drop k) 0 = 92 by rw [(atom_at G hlt (by rw [hc]; decide)).2.2.2, hc]; rfl)
  have HN := Lib.hid (show (if 1 < (s.data.toList.drop k).length then Rs.namedO (Rs.bt (s.data.toList.drop k) 1) else none) = none by rw [if_neg (by rw [List.length_drop, len_d]; omega)])
  clear hc
  clear hctx
  go_enter Tryz.func107, Tryz.ntmps107
  go_wp2_with fail
  go_quiet (fail)
  generalize hrs : s.extract k s.size = rs
  have hsz : rs.size = s.size - k := by rw [← hrs]; simp
  have hrl : rs.data.toList = s.data.toList.drop k := by rw [← hrs]; exact ex_drop s k
  have HRS := Lib.hid (And.intro hsz hrl)
  clear hrs hsz hrl
  go_wp2_with fail
  go_at_call 80
  refine (take_no p s ⟨#[40, 63, 58]⟩ k _ (((At.start HX.out.pa).drw hp1 _).pa) hle HX.out.sz HP.out.2.1).mono ?_
  rintro e w1 ⟨rfl, hp1', hf1⟩
  have H0 := Lib.hid (((At.start HX.out.pa).drw hp1 _).go hp1 hf1 hp1')
  clear hp1' hf1 c0 c1
  go_wp2_with fail
  go_at_call 80
  refine (take_no p s ⟨#[40]⟩ k _ H0.out.pa hle HX.out.sz HP.out.2.2.1).mono ?_
  rintro e w2 ⟨rfl, hp1', hf1⟩
  have H1 := Lib.hid (H0.out.go hp1 hf1 hp1')
  clear hp1' hf1
  go_wp2_with fail
  go_at_call 80
  refine (take_no p s ⟨#[46]⟩ k _ H1.out.pa hle HX.out.sz HD.out).mono ?_
  rintro e w3 ⟨rfl, hp1', hf1⟩
  have H2 := Lib.hid (H1.out.go hp1 hf1 hp1')
  clear hp1' hf1
  have h0 : 0 < rs.size := by have := HRS.out.1; omega
  have hb0 : (rs[0].toNat : Int) = 92 := by
    have h1 := HB.out
    rw [← HRS.out.2, bt0 h0] at h1
    exact h1
  have h1 : rs.size = 1 := by have := HRS.out.1; omega
  go_wp2_with fail
  have H3' := H2
  go_at_call 138
  have hc3 := HX.out.fr H3'.out.fr H3'.out.pa hle
  refine (escape_calls rs _ (hc3.vs.below hc3.bel).lv (by have := HRS.out.1; have := hc3.sz; omega)).mono ?_
  clear hc3
  rintro e W hpost
  unfold EscPost at hpost
  rw [HRS.out.2] at hpost
  cases hF : Rs.escS (s.data.toList.drop k) with
  | none =>
    obtain ⟨e1, e2, e3⟩ := esc_none hF
    rw [e1, e2, e3] at hpost
    obtain ⟨rfl, hbW⟩ := hpost
    have H3 := Lib.hid (H3'.out.bel hbW)
    have HF := Lib.hid hF
    have hs9 := HX.out.sz
    clear hbW hF e1 e2 e3
    have c1 := block_cell H3.out.pa 1 _ rfl
    have f1 := block_froz H3.out.pa 1
    have np1 : ¬ (p = w.heap.size) := by omega
    have np2 : ¬ (w.heap.size = p) := by omega
    have hr := H3.out.res
    have d0 := block_cell hr 0 _ rfl
    have d1 := block_cell hr 1 _ rfl
    have d2 := block_cell hr 2 _ rfl
    have d3 := block_cell hr 3 _ rfl
    have d4 := block_cell hr 4 _ rfl
    have d5 := block_cell hr 5 _ rfl
    have v0 := block_froz hr 0
    have v1 := block_froz hr 1
    have v2 := block_froz hr 2
    have v3 := block_froz hr 3
    have v4 := block_froz hr 4
    have v5 := block_froz hr 5
    clear hr
    go_wp2_with fail
    go_at_call 139
    have e9 : Value.int IntKind.i64 ((k : Int)) = .int .i64 ((k + (0) : Nat) : Int) := by simp
    rw [e9]
    refine at_world ?_
    intro wT hwT
    have hT : At w wT p s (k + (0)) := by rw [hwT]; exact H3.out.adv hp1 _
    clear hwT e9 d0 d1 d2 d3 d4 d5 v0 v1 v2 v3 v4 v5 c1 f1
    refine (one_calls _ wT).mono ?_
    rintro e wU ⟨y, he, hyt, hy, hbU⟩
    obtain ⟨ky, say, scy, sy, mny, mxy, lzy, nay, ncy, ly⟩ := y
    replace he : e = .returned (.agg #[.int .u8 ky, .slice say sy.length scy, .int .i64 mny, .int .i64 mxy, .bool lzy, .slice nay ly.length ncy]) := he
    subst he
    have H4 := Lib.hid (hT.bel hbU)
    have hr := H4.out.res
    have d0 := block_cell hr 0 _ rfl
    have d1 := block_cell hr 1 _ rfl
    have d2 := block_cell hr 2 _ rfl
    have d3 := block_cell hr 3 _ rfl
    have d4 := block_cell hr 4 _ rfl
    have d5 := block_cell hr 5 _ rfl
    have v0 := block_froz hr 0
    have v1 := block_froz hr 1
    have v2 := block_froz hr 2
    have v3 := block_froz hr 3
    have v4 := block_froz hr 4
    have v5 := block_froz hr 5
    clear hr
    have HY := Lib.hid (And.intro hyt (hT.new hy))
    clear hyt hy hbU hT
    go_wp2_with fail
    refine post_world ?_
    intro wE hwE
    have hD := six_done H4.out.res H4.out.fr HY.out.2 hwE
    have s0 : wE.cell? ⟨w.heap.size, 0, none⟩ = some (.int .u8 ky) := block_cell hD.1 0 _ rfl
    have s1 : wE.cell? ⟨w.heap.size, 1, none⟩ = some (.slice say sy.length scy) := block_cell hD.1 1 _ rfl
    have s2 : wE.cell? ⟨w.heap.size, 2, none⟩ = some (.int .i64 mny) := block_cell hD.1 2 _ rfl
    have s3 : wE.cell? ⟨w.heap.size, 3, none⟩ = some (.int .i64 mxy) := block_cell hD.1 3 _ rfl
    have s4 : wE.cell? ⟨w.heap.size, 4, none⟩ = some (.bool lzy) := block_cell hD.1 4 _ rfl
    have s5 : wE.cell? ⟨w.heap.size, 5, none⟩ = some (.slice nay ly.length ncy) := block_cell hD.1 5 _ rfl
    have HE := Lib.hid hD.2
    clear hD hwE d0 d1 d2 d3 d4 d5 v0 v1 v2 v3 v4 v5
    refine bodyPost_ret (v := .tuple #[.agg #[.int .u8 ky, .slice say sy.length scy, .int .i64 mny, .int .i64 mxy, .bool lzy, .slice nay ly.length ncy], .bool false]) (by simp [results, Tryz.results107, go_sem, s0, s1, s2, s3, s4, s5]) rfl ⟨⟨_, HE.out.1, .inr ⟨?_, rfl⟩⟩, HE.out.2.1⟩
    rw [HP.out.1, atom1, if_neg (by rw [HB.out]; decide), if_neg (by rw [HB.out]; decide), if_pos HB.out, HN.out, HF.out]
    rfl
  | some q =>
    obtain ⟨c, n⟩ := q
    obtain ⟨e1, e2, e3⟩ := esc_some hF
    rw [e1, e2, e3] at hpost
    obtain ⟨rfl, hbW⟩ := hpost
    have H3 := Lib.hid (H3'.out.bel hbW)
    have hat : pAtom (G + 1) (s.data.toList.drop k) = some (one c, n) := by
      rw [HP.out.1, atom1, if_neg (by rw [HB.out]; decide), if_neg (by rw [HB.out]; decide), if_pos HB.out, HN.out, hF]
      rfl
    have hn : k + n ≤ s.size := by
      have h1 := ((p_ok (G + 1)).2.2 _ _ _ (by rw [drop_cons s k hlt]; simp) hat).2.2.1
      rw [List.length_drop, len_d] at h1
      omega
    have hs9 := HX.out.sz
    have HF := Lib.hid hat
    clear hbW hF e1 e2 e3 hat
    have c1 := block_cell H3.out.pa 1 _ rfl
    have f1 := block_froz H3.out.pa 1
    have np1 : ¬ (p = w.heap.size) := by omega
    have np2 : ¬ (w.heap.size = p) := by omega
    have hr := H3.out.res
    have d0 := block_cell hr 0 _ rfl
    have d1 := block_cell hr 1 _ rfl
    have d2 := block_cell hr 2 _ rfl
    have d3 := block_cell hr 3 _ rfl
    have d4 := block_cell hr 4 _ rfl
    have d5 := block_cell hr 5 _ rfl
    have v0 := block_froz hr 0
    have v1 := block_froz hr 1
    have v2 := block_froz hr 2
    have v3 := block_froz hr 3
    have v4 := block_froz hr 4
    have v5 := block_froz hr 5
    clear hr
    go_wp2_with fail
    go_at_call 139
    have e9 : Value.int IntKind.i64 ((k : Int) + (n : Int)) = .int .i64 ((k + (n) : Nat) : Int) := by simp
    rw [e9]
    refine at_world ?_
    intro wT hwT
    have hT : At w wT p s (k + (n)) := by rw [hwT]; exact H3.out.adv hp1 _
    clear hwT e9 d0 d1 d2 d3 d4 d5 v0 v1 v2 v3 v4 v5 c1 f1
    refine (one_calls _ wT).mono ?_
    rintro e wU ⟨y, he, hyt, hy, hbU⟩
    obtain ⟨ky, say, scy, sy, mny, mxy, lzy, nay, ncy, ly⟩ := y
    replace he : e = .returned (.agg #[.int .u8 ky, .slice say sy.length scy, .int .i64 mny, .int .i64 mxy, .bool lzy, .slice nay ly.length ncy]) := he
    subst he
    have H4 := Lib.hid (hT.bel hbU)
    have hr := H4.out.res
    have d0 := block_cell hr 0 _ rfl
    have d1 := block_cell hr 1 _ rfl
    have d2 := block_cell hr 2 _ rfl
    have d3 := block_cell hr 3 _ rfl
    have d4 := block_cell hr 4 _ rfl
    have d5 := block_cell hr 5 _ rfl
    have v0 := block_froz hr 0
    have v1 := block_froz hr 1
    have v2 := block_froz hr 2
    have v3 := block_froz hr 3
    have v4 := block_froz hr 4
    have v5 := block_froz hr 5
    clear hr
    have HY := Lib.hid (And.intro hyt (hT.new hy))
    clear hyt hy hbU hT
    go_wp2_with fail
    refine post_world ?_
    intro wE hwE
    have hD := six_done H4.out.res H4.out.fr HY.out.2 hwE
    have s0 : wE.cell? ⟨w.heap.size, 0, none⟩ = some (.int .u8 ky) := block_cell hD.1 0 _ rfl
    have s1 : wE.cell? ⟨w.heap.size, 1, none⟩ = some (.slice say sy.length scy) := block_cell hD.1 1 _ rfl
    have s2 : wE.cell? ⟨w.heap.size, 2, none⟩ = some (.int .i64 mny) := block_cell hD.1 2 _ rfl
    have s3 : wE.cell? ⟨w.heap.size, 3, none⟩ = some (.int .i64 mxy) := block_cell hD.1 3 _ rfl
    have s4 : wE.cell? ⟨w.heap.size, 4, none⟩ = some (.bool lzy) := block_cell hD.1 4 _ rfl
    have s5 : wE.cell? ⟨w.heap.size, 5, none⟩ = some (.slice nay ly.length ncy) := block_cell hD.1 5 _ rfl
    have HE := Lib.hid hD.2
    clear hD hwE d0 d1 d2 d3 d4 d5 v0 v1 v2 v3 v4 v5
    refine bodyPost_ret (v := .tuple #[.agg #[.int .u8 ky, .slice say sy.length scy, .int .i64 mny, .int .i64 mxy, .bool lzy, .slice nay ly.length ncy], .bool true]) (by simp [results, Tryz.results107, go_sem, s0, s1, s2, s3, s4, s5]) rfl ⟨⟨_, HE.out.1, .inl ⟨_, n, HF.out, rfl, HY.out.1, ?_, hn⟩⟩, HE.out.2.1⟩
    exact (HE.out.2.2 p (by omega) H4.out.pa.lt).trans H4.out.pa
set_option maxRecDepth 100000 in
set_option maxHeartbeats 8000000 in
theorem atom_esc2 (w0 : World) (p : Nat) (s : ByteArray) (G k : Nat) (w : World) (hctx : Ctx w0 p s k w) (hlt : k < s.size) (hc : s[k] = 92) (h2 : k + 1 < s.size) (hnb : Rs.namedB (Rs.bt (s.data.toList.drop k) 1) = false) :
    Calls Tryz.prog 107 #[.pointer (some ⟨p, 0, none⟩)] w (APost p s k (pAtom (G + 1) (s.data.toList.drop k)) w) := by
  have c0 : w.cell? ⟨p, 0, none⟩ = some (.string s) := block_cell hctx.pa 0 _ rfl
  have c1 : w.cell? ⟨p, 1, none⟩ = some (.int .i64 (k : Int)) := block_cell hctx.pa 1 _ rfl
  have hle : k ≤ s.size := hctx.le
  have hp1 : p < w.heap.size := hctx.pa.lt
  have HX := Lib.hid hctx
  have HP := Lib.hid (atom_at G hlt (by rw [hc]; decide))
  have HD := Lib.hid (show Lib.hasPrefix (s.data.toList.drop k) [46] = false by rw [dot_at hlt, hc]; decide)
  have HB := Lib.hid (show Rs.bt (s.data.toList.drop k) 0 = 92 by rw [(atom_at G hlt (by rw [hc]; decide)).2.2.2, hc]; rfl)
  have HNB := Lib.hid hnb
  have HN := Lib.hid (show (if 1 < (s.data.toList.drop k).length then Rs.namedO (Rs.bt (s.data.toList.drop k) 1) else none) = none by rw [if_pos (by rw [List.length_drop, len_d]; omega), Rs.namedO_eq, if_neg (by rw [hnb]; decide)])
  clear hc hnb
  clear hctx
  go_enter Tryz.func107, Tryz.ntmps107
  go_wp2_with fail
  go_quiet (fail)
  generalize hrs : s.extract k s.size = rs
  have hsz : rs.size = s.size - k := by rw [← hrs]; simp
  have hrl : rs.data.toList = s.data.toList.drop k := by rw [← hrs]; exact ex_drop s k
  have HRS := Lib.hid (And.intro hsz hrl)
  clear hrs hsz hrl
  go_wp2_with fail
  go_at_call 80
  refine (take_no p s ⟨#[40, 63, 58]⟩ k _ (((At.start HX.out.pa).drw hp1 _).pa) hle HX.out.sz HP.out.2.1).mono ?_
  rintro e w1 ⟨rfl, hp1', hf1⟩
  have H0 := Lib.hid (((At.start HX.out.pa).drw hp1 _).go hp1 hf1 hp1')
  clear hp1' hf1 c0 c1
  go_wp2_with fail
  go_at_call 80
  refine (take_no p s ⟨#[40]⟩ k _ H0.out.pa hle HX.out.sz HP.out.2.2.1).mono ?_
  rintro e w2 ⟨rfl, hp1', hf1⟩
  have H1 := Lib.hid (H0.out.go hp1 hf1 hp1')
  clear hp1' hf1
  go_wp2_with fail
  go_at_call 80
  refine (take_no p s ⟨#[46]⟩ k _ H1.out.pa hle HX.out.sz HD.out).mono ?_
  rintro e w3 ⟨rfl, hp1', hf1⟩
  have H2 := Lib.hid (H1.out.go hp1 hf1 hp1')
  clear hp1' hf1
  have h0 : 0 < rs.size := by have := HRS.out.1; omega
  have hb0 : (rs[0].toNat : Int) = 92 := by
    have h1 := HB.out
    rw [← HRS.out.2, bt0 h0] at h1
    exact h1
  have h1 : 1 < rs.size := by have := HRS.out.1; omega
  have hb1 : Rs.bt (s.data.toList.drop k) 1 = (rs[1].toNat : Int) := by rw [← HRS.out.2]; exact bt1 h1
  have HB1 := Lib.hid hb1
  clear hb1
  go_wp2_with fail
  go_at_call 137
  refine (named_calls _ w3).mono ?_
  rintro e w4 hpost
  rw [← HB1.out, HNB.out] at hpost
  obtain ⟨v, rfl, hown, hbW⟩ := hpost
  have H3' := Lib.hid (H2.out.bel hbW)
  clear hown hbW
  go_wp2_with fail
  go_at_call 138
  have hc3 := HX.out.fr H3'.out.fr H3'.out.pa hle
  refine (escape_calls rs _ (hc3.vs.below hc3.bel).lv (by have := HRS.out.1; have := hc3.sz; omega)).mono ?_
  clear hc3
  rintro e W hpost
  unfold EscPost at hpost
  rw [HRS.out.2] at hpost
  cases hF : Rs.escS (s.data.toList.drop k) with
  | none =>
    obtain ⟨e1, e2, e3⟩ := esc_none hF
    rw [e1, e2, e3] at hpost
    obtain ⟨rfl, hbW⟩ := hpost
    have H3 := Lib.hid (H3'.out.bel hbW)
    have HF := Lib.hid hF
    have hs9 := HX.out.sz
    clear hbW hF e1 e2 e3
    have c1 := block_cell H3.out.pa 1 _ rfl
    have f1 := block_froz H3.out.pa 1
    have np1 : ¬ (p = w.heap.size) := by omega
    have np2 : ¬ (w.heap.size = p) := by omega
    have hr := H3.out.res
    have d0 := block_cell hr 0 _ rfl
    have d1 := block_cell hr 1 _ rfl
    have d2 := block_cell hr 2 _ rfl
    have d3 := block_cell hr 3 _ rfl
    have d4 := block_cell hr 4 _ rfl
    have d5 := block_cell hr 5 _ rfl
    have v0 := block_froz hr 0
    have v1 := block_froz hr 1
    have v2 := block_froz hr 2
    have v3 := block_froz hr 3
    have v4 := block_froz hr 4
    have v5 := block_froz hr 5
    clear hr
    go_wp2_with fail
    go_at_call 139
    have e9 : Value.int IntKind.i64 ((k : Int)) = .int .i64 ((k + (0) : Nat) : Int) := by simp
    rw [e9]
    refine at_world ?_
    intro wT hwT
    have hT : At w wT p s (k + (0)) := by rw [hwT]; exact H3.out.adv hp1 _
    clear hwT e9 d0 d1 d2 d3 d4 d5 v0 v1 v2 v3 v4 v5 c1 f1
    refine (one_calls _ wT).mono ?_
    rintro e wU ⟨y, he, hyt, hy, hbU⟩
    obtain ⟨ky, say, scy, sy, mny, mxy, lzy, nay, ncy, ly⟩ := y
    replace he : e = .returned (.agg #[.int .u8 ky, .slice say sy.length scy, .int .i64 mny, .int .i64 mxy, .bool lzy, .slice nay ly.length ncy]) := he
    subst he
    have H4 := Lib.hid (hT.bel hbU)
    have hr := H4.out.res
    have d0 := block_cell hr 0 _ rfl
    have d1 := block_cell hr 1 _ rfl
    have d2 := block_cell hr 2 _ rfl
    have d3 := block_cell hr 3 _ rfl
    have d4 := block_cell hr 4 _ rfl
    have d5 := block_cell hr 5 _ rfl
    have v0 := block_froz hr 0
    have v1 := block_froz hr 1
    have v2 := block_froz hr 2
    have v3 := block_froz hr 3
    have v4 := block_froz hr 4
    have v5 := block_froz hr 5
    clear hr
    have HY := Lib.hid (And.intro hyt (hT.new hy))
    clear hyt hy hbU hT
    go_wp2_with fail
    refine post_world ?_
    intro wE hwE
    have hD := six_done H4.out.res H4.out.fr HY.out.2 hwE
    have s0 : wE.cell? ⟨w.heap.size, 0, none⟩ = some (.int .u8 ky) := block_cell hD.1 0 _ rfl
    have s1 : wE.cell? ⟨w.heap.size, 1, none⟩ = some (.slice say sy.length scy) := block_cell hD.1 1 _ rfl
    have s2 : wE.cell? ⟨w.heap.size, 2, none⟩ = some (.int .i64 mny) := block_cell hD.1 2 _ rfl
    have s3 : wE.cell? ⟨w.heap.size, 3, none⟩ = some (.int .i64 mxy) := block_cell hD.1 3 _ rfl
    have s4 : wE.cell? ⟨w.heap.size, 4, none⟩ = some (.bool lzy) := block_cell hD.1 4 _ rfl
    have s5 : wE.cell? ⟨w.heap.size, 5, none⟩ = some (.slice nay ly.length ncy) := block_cell hD.1 5 _ rfl
    have HE := Lib.hid hD.2
    clear hD hwE d0 d1 d2 d3 d4 d5 v0 v1 v2 v3 v4 v5
    refine bodyPost_ret (v := .tuple #[.agg #[.int .u8 ky, .slice say sy.length scy, .int .i64 mny, .int .i64 mxy, .bool lzy, .slice nay ly.length ncy], .bool false]) (by simp [results, Tryz.results107, go_sem, s0, s1, s2, s3, s4, s5]) rfl ⟨⟨_, HE.out.1, .inr ⟨?_, rfl⟩⟩, HE.out.2.1⟩
    rw [HP.out.1, atom1, if_neg (by rw [HB.out]; decide), if_neg (by rw [HB.out]; decide), if_pos HB.out, HN.out, HF.out]
    rfl
  | some q =>
    obtain ⟨c, n⟩ := q
    obtain ⟨e1, e2, e3⟩ := esc_some hF
    rw [e1, e2, e3] at hpost
    obtain ⟨rfl, hbW⟩ := hpost
    have H3 := Lib.hid (H3'.out.bel hbW)
    have hat : pAtom (G + 1) (s.data.toList.drop k) = some (one c, n) := by
      rw [HP.out.1, atom1, if_neg (by rw [HB.out]; decide), if_neg (by rw [HB.out]; decide), if_pos HB.out, HN.out, hF]
      rfl
    have hn : k + n ≤ s.size := by
      have h1 := ((p_ok (G + 1)).2.2 _ _ _ (by rw [drop_cons s k hlt]; simp) hat).2.2.1
      rw [List.length_drop, len_d] at h1
      omega
    have hs9 := HX.out.sz
    have HF := Lib.hid hat
    clear hbW hF e1 e2 e3 hat
    have c1 := block_cell H3.out.pa 1 _ rfl
    have f1 := block_froz H3.out.pa 1
    have np1 : ¬ (p = w.heap.size) := by omega
    have np2 : ¬ (w.heap.size = p) := by omega
    have hr := H3.out.res
    have d0 := block_cell hr 0 _ rfl
    have d1 := block_cell hr 1 _ rfl
    have d2 := block_cell hr 2 _ rfl
    have d3 := block_cell hr 3 _ rfl
    have d4 := block_cell hr 4 _ rfl
    have d5 := block_cell hr 5 _ rfl
    have v0 := block_froz hr 0
    have v1 := block_froz hr 1
    have v2 := block_froz hr 2
    have v3 := block_froz hr 3
    have v4 := block_froz hr 4
    have v5 := block_froz hr 5
    clear hr
    go_wp2_with fail
    go_at_call 139
    have e9 : Value.int IntKind.i64 ((k : Int) + (n : Int)) = .int .i64 ((k + (n) : Nat) : Int) := by simp
    rw [e9]
    refine at_world ?_
    intro wT hwT
    have hT : At w wT p s (k + (n)) := by rw [hwT]; exact H3.out.adv hp1 _
    clear hwT e9 d0 d1 d2 d3 d4 d5 v0 v1 v2 v3 v4 v5 c1 f1
    refine (one_calls _ wT).mono ?_
    rintro e wU ⟨y, he, hyt, hy, hbU⟩
    obtain ⟨ky, say, scy, sy, mny, mxy, lzy, nay, ncy, ly⟩ := y
    replace he : e = .returned (.agg #[.int .u8 ky, .slice say sy.length scy, .int .i64 mny, .int .i64 mxy, .bool lzy, .slice nay ly.length ncy]) := he
    subst he
    have H4 := Lib.hid (hT.bel hbU)
    have hr := H4.out.res
    have d0 := block_cell hr 0 _ rfl
    have d1 := block_cell hr 1 _ rfl
    have d2 := block_cell hr 2 _ rfl
    have d3 := block_cell hr 3 _ rfl
    have d4 := block_cell hr 4 _ rfl
    have d5 := block_cell hr 5 _ rfl
    have v0 := block_froz hr 0
    have v1 := block_froz hr 1
    have v2 := block_froz hr 2
    have v3 := block_froz hr 3
    have v4 := block_froz hr 4
    have v5 := block_froz hr 5
    clear hr
    have HY := Lib.hid (And.intro hyt (hT.new hy))
    clear hyt hy hbU hT
    go_wp2_with fail
    refine post_world ?_
    intro wE hwE
    have hD := six_done H4.out.res H4.out.fr HY.out.2 hwE
    have s0 : wE.cell? ⟨w.heap.size, 0, none⟩ = some (.int .u8 ky) := block_cell hD.1 0 _ rfl
    have s1 : wE.cell? ⟨w.heap.size, 1, none⟩ = some (.slice say sy.length scy) := block_cell hD.1 1 _ rfl
    have s2 : wE.cell? ⟨w.heap.size, 2, none⟩ = some (.int .i64 mny) := block_cell hD.1 2 _ rfl
    have s3 : wE.cell? ⟨w.heap.size, 3, none⟩ = some (.int .i64 mxy) := block_cell hD.1 3 _ rfl
    have s4 : wE.cell? ⟨w.heap.size, 4, none⟩ = some (.bool lzy) := block_cell hD.1 4 _ rfl
    have s5 : wE.cell? ⟨w.heap.size, 5, none⟩ = some (.slice nay ly.length ncy) := block_cell hD.1 5 _ rfl
    have HE := Lib.hid hD.2
    clear hD hwE d0 d1 d2 d3 d4 d5 v0 v1 v2 v3 v4 v5
    refine bodyPost_ret (v := .tuple #[.agg #[.int .u8 ky, .slice say sy.length scy, .int .i64 mny, .int .i64 mxy, .bool lzy, .slice nay ly.length ncy], .bool true]) (by simp [results, Tryz.results107, go_sem, s0, s1, s2, s3, s4, s5]) rfl ⟨⟨_, HE.out.1, .inl ⟨_, n, HF.out, rfl, HY.out.1, ?_, hn⟩⟩, HE.out.2.1⟩
    exact (HE.out.2.2 p (by omega) H4.out.pa.lt).trans H4.out.pa
end Go.Proofs.YtimahlimmblgkaaGreatDoor.Sy
