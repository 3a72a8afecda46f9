/- Texts of the claim, put together: TrJ. -/
import Derived.Test.YtimahlimmblgkaaGreatDoorPTrH
namespace Go.Proofs.YtimahlimmblgkaaGreatDoor.Sy
open Go Go.RowKit
theorem ne_nat {a b : UInt8} (h : a ≠ b) : a.toNat ≠ b.toNat := fun e => h (UInt8.toNat_inj.1 e)
theorem dec_rs {rs s : ByteArray} {k : Nat} (h : rs.data.toList = s.data.toList.drop k) : Lib.decodeGo rs = Rs.decS (s.data.toList.drop k) := by
  rw [← Rs.dec_go]
  congr 1
  exact ByteArray.ext (Array.toList_inj.1 (h.trans (ex_drop s k).symm))
set_option maxRecDepth 100000 in
set_option maxHeartbeats 8000000 in
theorem atom_bad (w0 : World) (p : Nat) (s : ByteArray) (G k : Nat) (w : World) (hctx : Ctx w0 p s k w) (hlt : k < s.size) (h40 : s[k] ≠ 40) (h46 : s[k] ≠ 46) (h91 : s[k] ≠ 91) (h92 : s[k] ≠ 92) (hok : Rs.decS (s.data.toList.drop k) = (65533, 1) ∧ k + 1 ≤ s.size) :
    Calls Tryz.prog 107 #[.pointer (some ⟨p, 0, none⟩)] w (APost p s k (pAtom (G + 1) (s.data.toList.drop k)) w) := by
  have c0 : w.cell? ⟨p, 0, none⟩ = some (.string s) := block_cell hctx.pa 0 _ rfl
  have c1 : w.cell? ⟨p, 1, none⟩ = some (.int .i64 (k : Int)) := block_cell hctx.pa 1 _ rfl
  have hle : k ≤ s.size := hctx.le
  have hp1 : p < w.heap.size := hctx.pa.lt
  have HX := Lib.hid hctx
  have HP := Lib.hid (atom_at G hlt h40)
  have HD := Lib.hid (show Lib.hasPrefix (s.data.toList.drop k) [46] = false by rw [dot_at hlt]; exact decide_eq_false h46)
  have HB := Lib.hid (show (Rs.bt (s.data.toList.drop k) 0 ≠ 46 ∧ Rs.bt (s.data.toList.drop k) 0 ≠ 91) ∧ Rs.bt (s.data.toList.drop k) 0 ≠ 92 by
    rw [(atom_at G hlt h40).2.2.2]
    have b1 := ne_nat h46
    have b2 := ne_nat h91
    have b3 := ne_nat h92
    have e1 : (46 : UInt8).toNat = 46 := rfl
    have e2 : (91 : UInt8).toNat = 91 := rfl
    have e3 : (92 : UInt8).toNat = 92 := rfl
    omega)
  have HO := Lib.hid hok
  clear h40 h46 h91 h92 hok
  clear hctx
  go_enter Tryz.func107, Tryz.ntmps107
  go_wp2_with fail
  go_quiet (fail)
  generalize hrs : s.extract k s.size = rs
  have hsz : rs.size = s.size - k := by rw [← hrs]; simp
  have hrl : rs.data.toList = s.data.toList.drop k := by rw [← hrs]; exact ex_drop s k
  have HRS := Lib.hid (And.intro hsz hrl)
  clear hrs hsz hrl
  go_wp2_with fail
  go_at_call 80
  refine (take_no p s ⟨#[40, 63, 58]⟩ k _ (((At.start HX.out.pa).drw hp1 _).pa) hle HX.out.sz HP.out.2.1).mono ?_
  rintro e w1 ⟨rfl, hp1', hf1⟩
  have H0 := Lib.hid (((At.start HX.out.pa).drw hp1 _).go hp1 hf1 hp1')
  clear hp1' hf1 c0 c1
  go_wp2_with fail
  go_at_call 80
  refine (take_no p s ⟨#[40]⟩ k _ H0.out.pa hle HX.out.sz HP.out.2.2.1).mono ?_
  rintro e w2 ⟨rfl, hp1', hf1⟩
  have H1 := Lib.hid (H0.out.go hp1 hf1 hp1')
  clear hp1' hf1
  go_wp2_with fail
  go_at_call 80
  refine (take_no p s ⟨#[46]⟩ k _ H1.out.pa hle HX.out.sz HD.out).mono ?_
  rintro e w3 ⟨rfl, hp1', hf1⟩
  have H2 := Lib.hid (H1.out.go hp1 hf1 hp1')
  clear hp1' hf1
  have h0 : 0 < rs.size := by have := HRS.out.1; omega
  have hb91 : ((rs[0].toNat : Int) == 91) = false := by
    have h1 := HB.out.1.2
    rw [← HRS.out.2, bt0 h0] at h1
    exact beq_eq_false_iff_ne.2 h1
  have hb92 : ((rs[0].toNat : Int) == 92) = false := by
    have h1 := HB.out.2
    rw [← HRS.out.2, bt0 h0] at h1
    exact beq_eq_false_iff_ne.2 h1
  go_wp2_with fail
  go_at_call 99
  have hc3 := HX.out.fr H2.out.fr H2.out.pa hle
  refine (Tryz.utf8_DecodeRuneInString rs _ (hc3.vs.below hc3.bel).lv.tab).mono ?_
  clear hc3
  rintro e W hpost
  rw [dec_rs HRS.out.2, HO.out.1] at hpost
  obtain ⟨rfl, hbW⟩ := hpost
  have H3 := Lib.hid (H2.out.bel hbW)
  have hs9 := HX.out.sz
  have hn : k + (1) ≤ s.size := HO.out.2
  clear hbW
  have c1 := block_cell H3.out.pa 1 _ rfl
  have f1 := block_froz H3.out.pa 1
  have np1 : ¬ (p = w.heap.size) := by omega
  have np2 : ¬ (w.heap.size = p) := by omega
  have hr := H3.out.res
  have d0 := block_cell hr 0 _ rfl
  have d1 := block_cell hr 1 _ rfl
  have d2 := block_cell hr 2 _ rfl
  have d3 := block_cell hr 3 _ rfl
  have d4 := block_cell hr 4 _ rfl
  have d5 := block_cell hr 5 _ rfl
  have v0 := block_froz hr 0
  have v1 := block_froz hr 1
  have v2 := block_froz hr 2
  have v3 := block_froz hr 3
  have v4 := block_froz hr 4
  have v5 := block_froz hr 5
  clear hr
  go_wp2_with fail
  go_at_call 139
  have e9 : Value.int IntKind.i64 ((k : Int) + 1) = .int .i64 ((k + (1) : Nat) : Int) := by simp
  rw [e9]
  refine at_world ?_
  intro wT hwT
  have hT : At w wT p s (k + (1)) := by rw [hwT]; exact H3.out.adv hp1 _
  clear hwT e9 d0 d1 d2 d3 d4 d5 v0 v1 v2 v3 v4 v5 c1 f1
  refine (one_calls _ wT).mono ?_
  rintro e wU ⟨y, he, hyt, hy, hbU⟩
  obtain ⟨ky, say, scy, sy, mny, mxy, lzy, nay, ncy, ly⟩ := y
  replace he : e = .returned (.agg #[.int .u8 ky, .slice say sy.length scy, .int .i64 mny, .int .i64 mxy, .bool lzy, .slice nay ly.length ncy]) := he
  subst he
  have H4 := Lib.hid (hT.bel hbU)
  have hr := H4.out.res
  have d0 := block_cell hr 0 _ rfl
  have d1 := block_cell hr 1 _ rfl
  have d2 := block_cell hr 2 _ rfl
  have d3 := block_cell hr 3 _ rfl
  have d4 := block_cell hr 4 _ rfl
  have d5 := block_cell hr 5 _ rfl
  have v0 := block_froz hr 0
  have v1 := block_froz hr 1
  have v2 := block_froz hr 2
  have v3 := block_froz hr 3
  have v4 := block_froz hr 4
  have v5 := block_froz hr 5
  clear hr
  have HY := Lib.hid (And.intro hyt (hT.new hy))
  clear hyt hy hbU hT
  go_wp2_with fail
  refine post_world ?_
  intro wE hwE
  have hD := six_done H4.out.res H4.out.fr HY.out.2 hwE
  have s0 : wE.cell? ⟨w.heap.size, 0, none⟩ = some (.int .u8 ky) := block_cell hD.1 0 _ rfl
  have s1 : wE.cell? ⟨w.heap.size, 1, none⟩ = some (.slice say sy.length scy) := block_cell hD.1 1 _ rfl
  have s2 : wE.cell? ⟨w.heap.size, 2, none⟩ = some (.int .i64 mny) := block_cell hD.1 2 _ rfl
  have s3 : wE.cell? ⟨w.heap.size, 3, none⟩ = some (.int .i64 mxy) := block_cell hD.1 3 _ rfl
  have s4 : wE.cell? ⟨w.heap.size, 4, none⟩ = some (.bool lzy) := block_cell hD.1 4 _ rfl
  have s5 : wE.cell? ⟨w.heap.size, 5, none⟩ = some (.slice nay ly.length ncy) := block_cell hD.1 5 _ rfl
  have HE := Lib.hid hD.2
  clear hD hwE d0 d1 d2 d3 d4 d5 v0 v1 v2 v3 v4 v5
  refine bodyPost_ret (v := .tuple #[.agg #[.int .u8 ky, .slice say sy.length scy, .int .i64 mny, .int .i64 mxy, .bool lzy, .slice nay ly.length ncy], .bool false]) (by simp [results, Tryz.results107, go_sem, s0, s1, s2, s3, s4, s5]) rfl ⟨⟨_, HE.out.1, .inr ⟨?_, rfl⟩⟩, HE.out.2.1⟩
  rw [HP.out.1, atom1, if_neg HB.out.1.1, if_neg HB.out.1.2, if_neg HB.out.2, HO.out.1, if_neg (by simp)]
set_option maxRecDepth 100000 in
set_option maxHeartbeats 8000000 in
theorem atom_fffd (w0 : World) (p : Nat) (s : ByteArray) (G k : Nat) (w : World) (hctx : Ctx w0 p s k w) (hlt : k < s.size) (h40 : s[k] ≠ 40) (h46 : s[k] ≠ 46) (h91 : s[k] ≠ 91) (h92 : s[k] ≠ 92) (n : Nat) (hok : Rs.decS (s.data.toList.drop k) = (65533, n) ∧ k + n ≤ s.size ∧ True ∧ 1 < n) :
    Calls Tryz.prog 107 #[.pointer (some ⟨p, 0, none⟩)] w (APost p s k (pAtom (G + 1) (s.data.toList.drop k)) w) := by
  have c0 : w.cell? ⟨p, 0, none⟩ = some (.string s) := block_cell hctx.pa 0 _ rfl
  have c1 : w.cell? ⟨p, 1, none⟩ = some (.int .i64 (k : Int)) := block_cell hctx.pa 1 _ rfl
  have hle : k ≤ s.size := hctx.le
  have hp1 : p < w.heap.size := hctx.pa.lt
  have HX := Lib.hid hctx
  have HP := Lib.hid (atom_at G hlt h40)
  have HD := Lib.hid (show Lib.hasPrefix (s.data.toList.drop k) [46] = false by rw [dot_at hlt]; exact decide_eq_false h46)
  have HB := Lib.hid (show (Rs.bt (s.data.toList.drop k) 0 ≠ 46 ∧ Rs.bt (s.data.toList.drop k) 0 ≠ 91) ∧ Rs.bt (s.data.toList.drop k) 0 ≠ 92 by
    rw [(atom_at G hlt h40).2.2.2]
    have b1 := ne_nat h46
    have b2 := ne_nat h91
    have b3 := ne_nat h92
    have e1 : (46 : UInt8).toNat = 46 := rfl
    have e2 : (91 : UInt8).toNat = 91 := rfl
    have e3 : (92 : UInt8).toNat = 92 := rfl
    omega)
  have HO := Lib.hid hok
  clear h40 h46 h91 h92 hok
  clear hctx
  go_enter Tryz.func107, Tryz.ntmps107
  go_wp2_with fail
  go_quiet (fail)
  generalize hrs : s.extract k s.size = rs
  have hsz : rs.size = s.size - k := by rw [← hrs]; simp
  have hrl : rs.data.toList = s.data.toList.drop k := by rw [← hrs]; exact ex_drop s k
  have HRS := Lib.hid (And.intro hsz hrl)
  clear hrs hsz hrl
  go_wp2_with fail
  go_at_call 80
  refine (take_no p s ⟨#[40, 63, 58]⟩ k _ (((At.start HX.out.pa).drw hp1 _).pa) hle HX.out.sz HP.out.2.1).mono ?_
  rintro e w1 ⟨rfl, hp1', hf1⟩
  have H0 := Lib.hid (((At.start HX.out.pa).drw hp1 _).go hp1 hf1 hp1')
  clear hp1' hf1 c0 c1
  go_wp2_with fail
  go_at_call 80
  refine (take_no p s ⟨#[40]⟩ k _ H0.out.pa hle HX.out.sz HP.out.2.2.1).mono ?_
  rintro e w2 ⟨rfl, hp1', hf1⟩
  have H1 := Lib.hid (H0.out.go hp1 hf1 hp1')
  clear hp1' hf1
  go_wp2_with fail
  go_at_call 80
  refine (take_no p s ⟨#[46]⟩ k _ H1.out.pa hle HX.out.sz HD.out).mono ?_
  rintro e w3 ⟨rfl, hp1', hf1⟩
  have H2 := Lib.hid (H1.out.go hp1 hf1 hp1')
  clear hp1' hf1
  have h0 : 0 < rs.size := by have := HRS.out.1; omega
  have hb91 : ((rs[0].toNat : Int) == 91) = false := by
    have h1 := HB.out.1.2
    rw [← HRS.out.2, bt0 h0] at h1
    exact beq_eq_false_iff_ne.2 h1
  have hb92 : ((rs[0].toNat : Int) == 92) = false := by
    have h1 := HB.out.2
    rw [← HRS.out.2, bt0 h0] at h1
    exact beq_eq_false_iff_ne.2 h1
  go_wp2_with fail
  go_at_call 99
  have hc3 := HX.out.fr H2.out.fr H2.out.pa hle
  refine (Tryz.utf8_DecodeRuneInString rs _ (hc3.vs.below hc3.bel).lv.tab).mono ?_
  clear hc3
  rintro e W hpost
  rw [dec_rs HRS.out.2, HO.out.1] at hpost
  obtain ⟨rfl, hbW⟩ := hpost
  have H3 := Lib.hid (H2.out.bel hbW)
  have hs9 := HX.out.sz
  have hn : k + (n) ≤ s.size := HO.out.2.1
  have hn1 : (1 : Int) < (n : Int) := by have := HO.out.2.2.2; omega
  clear hbW
  have c1 := block_cell H3.out.pa 1 _ rfl
  have f1 := block_froz H3.out.pa 1
  have np1 : ¬ (p = w.heap.size) := by omega
  have np2 : ¬ (w.heap.size = p) := by omega
  have hr := H3.out.res
  have d0 := block_cell hr 0 _ rfl
  have d1 := block_cell hr 1 _ rfl
  have d2 := block_cell hr 2 _ rfl
  have d3 := block_cell hr 3 _ rfl
  have d4 := block_cell hr 4 _ rfl
  have d5 := block_cell hr 5 _ rfl
  have v0 := block_froz hr 0
  have v1 := block_froz hr 1
  have v2 := block_froz hr 2
  have v3 := block_froz hr 3
  have v4 := block_froz hr 4
  have v5 := block_froz hr 5
  clear hr
  go_wp2_with fail
  go_at_call 139
  have e9 : Value.int IntKind.i64 ((k : Int) + (n : Int)) = .int .i64 ((k + (n) : Nat) : Int) := by simp
  rw [e9]
  refine at_world ?_
  intro wT hwT
  have hT : At w wT p s (k + (n)) := by rw [hwT]; exact H3.out.adv hp1 _
  clear hwT e9 d0 d1 d2 d3 d4 d5 v0 v1 v2 v3 v4 v5 c1 f1
  refine (one_calls _ wT).mono ?_
  rintro e wU ⟨y, he, hyt, hy, hbU⟩
  obtain ⟨ky, say, scy, sy, mny, mxy, lzy, nay, ncy, ly⟩ := y
  replace he : e = .returned (.agg #[.int .u8 ky, .slice say sy.length scy, .int .i64 mny, .int .i64 mxy, .bool lzy, .slice nay ly.length ncy]) := he
  subst he
  have H4 := Lib.hid (hT.bel hbU)
  have hr := H4.out.res
  have d0 := block_cell hr 0 _ rfl
  have d1 := block_cell hr 1 _ rfl
  have d2 := block_cell hr 2 _ rfl
  have d3 := block_cell hr 3 _ rfl
  have d4 := block_cell hr 4 _ rfl
  have d5 := block_cell hr 5 _ rfl
  have v0 := block_froz hr 0
  have v1 := block_froz hr 1
  have v2 := block_froz hr 2
  have v3 := block_froz hr 3
  have v4 := block_froz hr 4
  have v5 := block_froz hr 5
  clear hr
  have HY := Lib.hid (And.intro hyt (hT.new hy))
  clear hyt hy hbU hT
  clear d0 d1 d2 d3 d4 d5 v0 v1 v2 v3 v4 v5
  go_wp2_with fail
  go_at_call 106
  refine (contains_calls 65533 (by first | exact HO.out.2.2.1 | decide) _).mono ?_
  rintro e w6 ⟨rfl, hb6⟩
  have HY := Lib.hid (And.intro HY.out.1 (HY.out.2.bel hb6))
  have H4 := Lib.hid (H4.out.bel hb6)
  clear hb6
  rw [show isMeta 65533 = false by first | exact HO.out.2.2.2.2 | decide]
  have hr := H4.out.res
  have d0 := block_cell hr 0 _ rfl
  have d1 := block_cell hr 1 _ rfl
  have d2 := block_cell hr 2 _ rfl
  have d3 := block_cell hr 3 _ rfl
  have d4 := block_cell hr 4 _ rfl
  have d5 := block_cell hr 5 _ rfl
  have v0 := block_froz hr 0
  have v1 := block_froz hr 1
  have v2 := block_froz hr 2
  have v3 := block_froz hr 3
  have v4 := block_froz hr 4
  have v5 := block_froz hr 5
  clear hr
  go_wp2_with fail
  refine post_world ?_
  intro wE hwE
  have hD := six_done H4.out.res H4.out.fr HY.out.2 hwE
  have s0 : wE.cell? ⟨w.heap.size, 0, none⟩ = some (.int .u8 ky) := block_cell hD.1 0 _ rfl
  have s1 : wE.cell? ⟨w.heap.size, 1, none⟩ = some (.slice say sy.length scy) := block_cell hD.1 1 _ rfl
  have s2 : wE.cell? ⟨w.heap.size, 2, none⟩ = some (.int .i64 mny) := block_cell hD.1 2 _ rfl
  have s3 : wE.cell? ⟨w.heap.size, 3, none⟩ = some (.int .i64 mxy) := block_cell hD.1 3 _ rfl
  have s4 : wE.cell? ⟨w.heap.size, 4, none⟩ = some (.bool lzy) := block_cell hD.1 4 _ rfl
  have s5 : wE.cell? ⟨w.heap.size, 5, none⟩ = some (.slice nay ly.length ncy) := block_cell hD.1 5 _ rfl
  have HE := Lib.hid hD.2
  clear hD hwE d0 d1 d2 d3 d4 d5 v0 v1 v2 v3 v4 v5
  refine bodyPost_ret (v := .tuple #[.agg #[.int .u8 ky, .slice say sy.length scy, .int .i64 mny, .int .i64 mxy, .bool lzy, .slice nay ly.length ncy], .bool true]) (by simp [results, Tryz.results107, go_sem, s0, s1, s2, s3, s4, s5]) rfl ⟨⟨_, HE.out.1, .inl ⟨_, n, ?_, rfl, HY.out.1, ?_, hn⟩⟩, HE.out.2.1⟩
  · rw [HP.out.1, atom1, if_neg HB.out.1.1, if_neg HB.out.1.2, if_neg HB.out.2, HO.out.1, if_pos ⟨.inr HO.out.2.2.2, show isMeta (65533 : Int) = false by decide⟩]
    try rfl
  · exact (HE.out.2.2 p (by omega) H4.out.pa.lt).trans H4.out.pa
set_option maxRecDepth 100000 in
set_option maxHeartbeats 8000000 in
theorem atom_meta (w0 : World) (p : Nat) (s : ByteArray) (G k : Nat) (w : World) (hctx : Ctx w0 p s k w) (hlt : k < s.size) (h40 : s[k] ≠ 40) (h46 : s[k] ≠ 46) (h91 : s[k] ≠ 91) (h92 : s[k] ≠ 92) (c n : Nat) (hok : Rs.decS (s.data.toList.drop k) = (c, n) ∧ k + n ≤ s.size ∧ Rs.pt (c : Int) = true ∧ c ≠ 65533 ∧ isMeta (c : Int) = true) :
    Calls Tryz.prog 107 #[.pointer (some ⟨p, 0, none⟩)] w (APost p s k (pAtom (G + 1) (s.data.toList.drop k)) w) := by
  have c0 : w.cell? ⟨p, 0, none⟩ = some (.string s) := block_cell hctx.pa 0 _ rfl
  have c1 : w.cell? ⟨p, 1, none⟩ = some (.int .i64 (k : Int)) := block_cell hctx.pa 1 _ rfl
  have hle : k ≤ s.size := hctx.le
  have hp1 : p < w.heap.size := hctx.pa.lt
  have HX := Lib.hid hctx
  have HP := Lib.hid (atom_at G hlt h40)
  have HD := Lib.hid (show Lib.hasPrefix (s.data.toList.drop k) [46] = false by rw [dot_at hlt]; exact decide_eq_false h46)
  have HB := Lib.hid (show (Rs.bt (s.data.toList.drop k) 0 ≠ 46 ∧ Rs.bt (s.data.toList.drop k) 0 ≠ 91) ∧ Rs.bt (s.data.toList.drop k) 0 ≠ 92 by
    rw [(atom_at G hlt h40).2.2.2]
    have b1 := ne_nat h46
    have b2 := ne_nat h91
    have b3 := ne_nat h92
    have e1 : (46 : UInt8).toNat = 46 := rfl
    have e2 : (91 : UInt8).toNat = 91 := rfl
    have e3 : (92 : UInt8).toNat = 92 := rfl
    omega)
  have HO := Lib.hid hok
  clear h40 h46 h91 h92 hok
  clear hctx
  go_enter Tryz.func107, Tryz.ntmps107
  go_wp2_with fail
  go_quiet (fail)
  generalize hrs : s.extract k s.size = rs
  have hsz : rs.size = s.size - k := by rw [← hrs]; simp
  have hrl : rs.data.toList = s.data.toList.drop k := by rw [← hrs]; exact ex_drop s k
  have HRS := Lib.hid (And.intro hsz hrl)
  clear hrs hsz hrl
  go_wp2_with fail
  go_at_call 80
  refine (take_no p s ⟨#[40, 63, 58]⟩ k _ (((At.start HX.out.pa).drw hp1 _).pa) hle HX.out.sz HP.out.2.1).mono ?_
  rintro e w1 ⟨rfl, hp1', hf1⟩
  have H0 := Lib.hid (((At.start HX.out.pa).drw hp1 _).go hp1 hf1 hp1')
  clear hp1' hf1 c0 c1
  go_wp2_with fail
  go_at_call 80
  refine (take_no p s ⟨#[40]⟩ k _ H0.out.pa hle HX.out.sz HP.out.2.2.1).mono ?_
  rintro e w2 ⟨rfl, hp1', hf1⟩
  have H1 := Lib.hid (H0.out.go hp1 hf1 hp1')
  clear hp1' hf1
  go_wp2_with fail
  go_at_call 80
  refine (take_no p s ⟨#[46]⟩ k _ H1.out.pa hle HX.out.sz HD.out).mono ?_
  rintro e w3 ⟨rfl, hp1', hf1⟩
  have H2 := Lib.hid (H1.out.go hp1 hf1 hp1')
  clear hp1' hf1
  have h0 : 0 < rs.size := by have := HRS.out.1; omega
  have hb91 : ((rs[0].toNat : Int) == 91) = false := by
    have h1 := HB.out.1.2
    rw [← HRS.out.2, bt0 h0] at h1
    exact beq_eq_false_iff_ne.2 h1
  have hb92 : ((rs[0].toNat : Int) == 92) = false := by
    have h1 := HB.out.2
    rw [← HRS.out.2, bt0 h0] at h1
    exact beq_eq_false_iff_ne.2 h1
  go_wp2_with fail
  go_at_call 99
  have hc3 := HX.out.fr H2.out.fr H2.out.pa hle
  refine (Tryz.utf8_DecodeRuneInString rs _ (hc3.vs.below hc3.bel).lv.tab).mono ?_
  clear hc3
  rintro e W hpost
  rw [dec_rs HRS.out.2, HO.out.1] at hpost
  obtain ⟨rfl, hbW⟩ := hpost
  have H3 := Lib.hid (H2.out.bel hbW)
  have hs9 := HX.out.sz
  have hn : k + (n) ≤ s.size := HO.out.2.1
  have hcp := (Rs.pt_iff _).1 HO.out.2.2.1
  have hc0 : (c : Int) ≤ 1114111 := by omega
  have hce : ((c : Int) == 65533) = false := beq_eq_false_iff_ne.2 (by have := HO.out.2.2.2.1; omega)
  have hce2 : ¬ ((c : Int) = 65533) := by have := HO.out.2.2.2.1; omega
  have hce3 : ¬ (c = 65533) := HO.out.2.2.2.1
  clear hcp
  clear hbW
  have c1 := block_cell H3.out.pa 1 _ rfl
  have f1 := block_froz H3.out.pa 1
  have np1 : ¬ (p = w.heap.size) := by omega
  have np2 : ¬ (w.heap.size = p) := by omega
  have hr := H3.out.res
  have d0 := block_cell hr 0 _ rfl
  have d1 := block_cell hr 1 _ rfl
  have d2 := block_cell hr 2 _ rfl
  have d3 := block_cell hr 3 _ rfl
  have d4 := block_cell hr 4 _ rfl
  have d5 := block_cell hr 5 _ rfl
  have v0 := block_froz hr 0
  have v1 := block_froz hr 1
  have v2 := block_froz hr 2
  have v3 := block_froz hr 3
  have v4 := block_froz hr 4
  have v5 := block_froz hr 5
  clear hr
  go_wp2_with fail
  go_at_call 139
  have e9 : Value.int IntKind.i64 ((k : Int) + (n : Int)) = .int .i64 ((k + (n) : Nat) : Int) := by simp
  rw [e9]
  refine at_world ?_
  intro wT hwT
  have hT : At w wT p s (k + (n)) := by rw [hwT]; exact H3.out.adv hp1 _
  clear hwT e9 d0 d1 d2 d3 d4 d5 v0 v1 v2 v3 v4 v5 c1 f1
  refine (one_calls _ wT).mono ?_
  rintro e wU ⟨y, he, hyt, hy, hbU⟩
  obtain ⟨ky, say, scy, sy, mny, mxy, lzy, nay, ncy, ly⟩ := y
  replace he : e = .returned (.agg #[.int .u8 ky, .slice say sy.length scy, .int .i64 mny, .int .i64 mxy, .bool lzy, .slice nay ly.length ncy]) := he
  subst he
  have H4 := Lib.hid (hT.bel hbU)
  have hr := H4.out.res
  have d0 := block_cell hr 0 _ rfl
  have d1 := block_cell hr 1 _ rfl
  have d2 := block_cell hr 2 _ rfl
  have d3 := block_cell hr 3 _ rfl
  have d4 := block_cell hr 4 _ rfl
  have d5 := block_cell hr 5 _ rfl
  have v0 := block_froz hr 0
  have v1 := block_froz hr 1
  have v2 := block_froz hr 2
  have v3 := block_froz hr 3
  have v4 := block_froz hr 4
  have v5 := block_froz hr 5
  clear hr
  have HY := Lib.hid (And.intro hyt (hT.new hy))
  clear hyt hy hbU hT
  clear d0 d1 d2 d3 d4 d5 v0 v1 v2 v3 v4 v5
  go_wp2_with fail
  go_at_call 106
  refine (contains_calls (c : Int) (by first | exact HO.out.2.2.1 | decide) _).mono ?_
  rintro e w6 ⟨rfl, hb6⟩
  have HY := Lib.hid (And.intro HY.out.1 (HY.out.2.bel hb6))
  have H4 := Lib.hid (H4.out.bel hb6)
  clear hb6
  rw [show isMeta (c : Int) = true by first | exact HO.out.2.2.2.2 | decide]
  have hr := H4.out.res
  have d0 := block_cell hr 0 _ rfl
  have d1 := block_cell hr 1 _ rfl
  have d2 := block_cell hr 2 _ rfl
  have d3 := block_cell hr 3 _ rfl
  have d4 := block_cell hr 4 _ rfl
  have d5 := block_cell hr 5 _ rfl
  have v0 := block_froz hr 0
  have v1 := block_froz hr 1
  have v2 := block_froz hr 2
  have v3 := block_froz hr 3
  have v4 := block_froz hr 4
  have v5 := block_froz hr 5
  clear hr
  go_wp2_with fail
  refine post_world ?_
  intro wE hwE
  have hD := six_done H4.out.res H4.out.fr HY.out.2 hwE
  have s0 : wE.cell? ⟨w.heap.size, 0, none⟩ = some (.int .u8 ky) := block_cell hD.1 0 _ rfl
  have s1 : wE.cell? ⟨w.heap.size, 1, none⟩ = some (.slice say sy.length scy) := block_cell hD.1 1 _ rfl
  have s2 : wE.cell? ⟨w.heap.size, 2, none⟩ = some (.int .i64 mny) := block_cell hD.1 2 _ rfl
  have s3 : wE.cell? ⟨w.heap.size, 3, none⟩ = some (.int .i64 mxy) := block_cell hD.1 3 _ rfl
  have s4 : wE.cell? ⟨w.heap.size, 4, none⟩ = some (.bool lzy) := block_cell hD.1 4 _ rfl
  have s5 : wE.cell? ⟨w.heap.size, 5, none⟩ = some (.slice nay ly.length ncy) := block_cell hD.1 5 _ rfl
  have HE := Lib.hid hD.2
  clear hD hwE d0 d1 d2 d3 d4 d5 v0 v1 v2 v3 v4 v5
  refine bodyPost_ret (v := .tuple #[.agg #[.int .u8 ky, .slice say sy.length scy, .int .i64 mny, .int .i64 mxy, .bool lzy, .slice nay ly.length ncy], .bool false]) (by simp [results, Tryz.results107, go_sem, s0, s1, s2, s3, s4, s5]) rfl ⟨⟨_, HE.out.1, .inr ⟨?_, rfl⟩⟩, HE.out.2.1⟩
  rw [HP.out.1, atom1, if_neg HB.out.1.1, if_neg HB.out.1.2, if_neg HB.out.2, HO.out.1, if_neg (fun h => by have h2 := h.2; rw [HO.out.2.2.2.2] at h2; cases h2)]
set_option maxRecDepth 100000 in
set_option maxHeartbeats 8000000 in
theorem atom_char (w0 : World) (p : Nat) (s : ByteArray) (G k : Nat) (w : World) (hctx : Ctx w0 p s k w) (hlt : k < s.size) (h40 : s[k] ≠ 40) (h46 : s[k] ≠ 46) (h91 : s[k] ≠ 91) (h92 : s[k] ≠ 92) (c n : Nat) (hok : Rs.decS (s.data.toList.drop k) = (c, n) ∧ k + n ≤ s.size ∧ Rs.pt (c : Int) = true ∧ c ≠ 65533 ∧ isMeta (c : Int) = false) :
    Calls Tryz.prog 107 #[.pointer (some ⟨p, 0, none⟩)] w (APost p s k (pAtom (G + 1) (s.data.toList.drop k)) w) := by
  have c0 : w.cell? ⟨p, 0, none⟩ = some (.string s) := block_cell hctx.pa 0 _ rfl
  have c1 : w.cell? ⟨p, 1, none⟩ = some (.int .i64 (k : Int)) := block_cell hctx.pa 1 _ rfl
  have hle : k ≤ s.size := hctx.le
  have hp1 : p < w.heap.size := hctx.pa.lt
  have HX := Lib.hid hctx
  have HP := Lib.hid (atom_at G hlt h40)
  have HD := Lib.hid (show Lib.hasPrefix (s.data.toList.drop k) [46] = false by rw [dot_at hlt]; exact decide_eq_false h46)
  have HB := Lib.hid (show (Rs.bt (s.data.toList.drop k) 0 ≠ 46 ∧ Rs.bt (s.data.toList.drop k) 0 ≠ 91) ∧ Rs.bt (s.data.toList.drop k) 0 ≠ 92 by
    rw [(atom_at G hlt h40).2.2.2]
    have b1 := ne_nat h46
    have b2 := ne_nat h91
    have b3 := ne_nat h92
    have e1 : (46 : UInt8).toNat = 46 := rfl
    have e2 : (91 : UInt8).toNat = 91 := rfl
    have e3 : (92 : UInt8).toNat = 92 := rfl
    omega)
  have HO := Lib.hid hok
  clear h40 h46 h91 h92 hok
  clear hctx
  go_enter Tryz.func107, Tryz.ntmps107
  go_wp2_with fail
  go_quiet (fail)
  generalize hrs : s.extract k s.size = rs
  have hsz : rs.size = s.size - k := by rw [← hrs]; simp
  have hrl : rs.data.toList = s.data.toList.drop k := by rw [← hrs]; exact ex_drop s k
  have HRS := Lib.hid (And.intro hsz hrl)
  clear hrs hsz hrl
  go_wp2_with fail
  go_at_call 80
  refine (take_no p s ⟨#[40, 63, 58]⟩ k _ (((At.start HX.out.pa).drw hp1 _).pa) hle HX.out.sz HP.out.2.1).mono ?_
  rintro e w1 ⟨rfl, hp1', hf1⟩
  have H0 := Lib.hid (((At.start HX.out.pa).drw hp1 _).go hp1 hf1 hp1')
  clear hp1' hf1 c0 c1
  go_wp2_with fail
  go_at_call 80
  refine (take_no p s ⟨#[40]⟩ k _ H0.out.pa hle HX.out.sz HP.out.2.2.1).mono ?_
  rintro e w2 ⟨rfl, hp1', hf1⟩
  have H1 := Lib.hid (H0.out.go hp1 hf1 hp1')
  clear hp1' hf1
  go_wp2_with fail
  go_at_call 80
  refine (take_no p s ⟨#[46]⟩ k _ H1.out.pa hle HX.out.sz HD.out).mono ?_
  rintro e w3 ⟨rfl, hp1', hf1⟩
  have H2 := Lib.hid (H1.out.go hp1 hf1 hp1')
  clear hp1' hf1
  have h0 : 0 < rs.size := by have := HRS.out.1; omega
  have hb91 : ((rs[0].toNat : Int) == 91) = false := by
    have h1 := HB.out.1.2
    rw [← HRS.out.2, bt0 h0] at h1
    exact beq_eq_false_iff_ne.2 h1
  have hb92 : ((rs[0].toNat : Int) == 92) = false := by
    have h1 := HB.out.2
    rw [← HRS.out.2, bt0 h0] at h1
    exact beq_eq_false_iff_ne.2 h1
  go_wp2_with fail
  go_at_call 99
  have hc3 := HX.out.fr H2.out.fr H2.out.pa hle
  refine (Tryz.utf8_DecodeRuneInString rs _ (hc3.vs.below hc3.bel).lv.tab).mono ?_
  clear hc3
  rintro e W hpost
  rw [dec_rs HRS.out.2, HO.out.1] at hpost
  obtain ⟨rfl, hbW⟩ := hpost
  have H3 := Lib.hid (H2.out.bel hbW)
  have hs9 := HX.out.sz
  have hn : k + (n) ≤ s.size := HO.out.2.1
  have hcp := (Rs.pt_iff _).1 HO.out.2.2.1
  have hc0 : (c : Int) ≤ 1114111 := by omega
  have hce : ((c : Int) == 65533) = false := beq_eq_false_iff_ne.2 (by have := HO.out.2.2.2.1; omega)
  have hce2 : ¬ ((c : Int) = 65533) := by have := HO.out.2.2.2.1; omega
  have hce3 : ¬ (c = 65533) := HO.out.2.2.2.1
  clear hcp
  clear hbW
  have c1 := block_cell H3.out.pa 1 _ rfl
  have f1 := block_froz H3.out.pa 1
  have np1 : ¬ (p = w.heap.size) := by omega
  have np2 : ¬ (w.heap.size = p) := by omega
  have hr := H3.out.res
  have d0 := block_cell hr 0 _ rfl
  have d1 := block_cell hr 1 _ rfl
  have d2 := block_cell hr 2 _ rfl
  have d3 := block_cell hr 3 _ rfl
  have d4 := block_cell hr 4 _ rfl
  have d5 := block_cell hr 5 _ rfl
  have v0 := block_froz hr 0
  have v1 := block_froz hr 1
  have v2 := block_froz hr 2
  have v3 := block_froz hr 3
  have v4 := block_froz hr 4
  have v5 := block_froz hr 5
  clear hr
  go_wp2_with fail
  go_at_call 139
  have e9 : Value.int IntKind.i64 ((k : Int) + (n : Int)) = .int .i64 ((k + (n) : Nat) : Int) := by simp
  rw [e9]
  refine at_world ?_
  intro wT hwT
  have hT : At w wT p s (k + (n)) := by rw [hwT]; exact H3.out.adv hp1 _
  clear hwT e9 d0 d1 d2 d3 d4 d5 v0 v1 v2 v3 v4 v5 c1 f1
  refine (one_calls _ wT).mono ?_
  rintro e wU ⟨y, he, hyt, hy, hbU⟩
  obtain ⟨ky, say, scy, sy, mny, mxy, lzy, nay, ncy, ly⟩ := y
  replace he : e = .returned (.agg #[.int .u8 ky, .slice say sy.length scy, .int .i64 mny, .int .i64 mxy, .bool lzy, .slice nay ly.length ncy]) := he
  subst he
  have H4 := Lib.hid (hT.bel hbU)
  have hr := H4.out.res
  have d0 := block_cell hr 0 _ rfl
  have d1 := block_cell hr 1 _ rfl
  have d2 := block_cell hr 2 _ rfl
  have d3 := block_cell hr 3 _ rfl
  have d4 := block_cell hr 4 _ rfl
  have d5 := block_cell hr 5 _ rfl
  have v0 := block_froz hr 0
  have v1 := block_froz hr 1
  have v2 := block_froz hr 2
  have v3 := block_froz hr 3
  have v4 := block_froz hr 4
  have v5 := block_froz hr 5
  clear hr
  have HY := Lib.hid (And.intro hyt (hT.new hy))
  clear hyt hy hbU hT
  clear d0 d1 d2 d3 d4 d5 v0 v1 v2 v3 v4 v5
  go_wp2_with fail
  go_at_call 106
  refine (contains_calls (c : Int) (by first | exact HO.out.2.2.1 | decide) _).mono ?_
  rintro e w6 ⟨rfl, hb6⟩
  have HY := Lib.hid (And.intro HY.out.1 (HY.out.2.bel hb6))
  have H4 := Lib.hid (H4.out.bel hb6)
  clear hb6
  rw [show isMeta (c : Int) = false by first | exact HO.out.2.2.2.2 | decide]
  have hr := H4.out.res
  have d0 := block_cell hr 0 _ rfl
  have d1 := block_cell hr 1 _ rfl
  have d2 := block_cell hr 2 _ rfl
  have d3 := block_cell hr 3 _ rfl
  have d4 := block_cell hr 4 _ rfl
  have d5 := block_cell hr 5 _ rfl
  have v0 := block_froz hr 0
  have v1 := block_froz hr 1
  have v2 := block_froz hr 2
  have v3 := block_froz hr 3
  have v4 := block_froz hr 4
  have v5 := block_froz hr 5
  clear hr
  go_wp2_with fail
  refine post_world ?_
  intro wE hwE
  have hD := six_done H4.out.res H4.out.fr HY.out.2 hwE
  have s0 : wE.cell? ⟨w.heap.size, 0, none⟩ = some (.int .u8 ky) := block_cell hD.1 0 _ rfl
  have s1 : wE.cell? ⟨w.heap.size, 1, none⟩ = some (.slice say sy.length scy) := block_cell hD.1 1 _ rfl
  have s2 : wE.cell? ⟨w.heap.size, 2, none⟩ = some (.int .i64 mny) := block_cell hD.1 2 _ rfl
  have s3 : wE.cell? ⟨w.heap.size, 3, none⟩ = some (.int .i64 mxy) := block_cell hD.1 3 _ rfl
  have s4 : wE.cell? ⟨w.heap.size, 4, none⟩ = some (.bool lzy) := block_cell hD.1 4 _ rfl
  have s5 : wE.cell? ⟨w.heap.size, 5, none⟩ = some (.slice nay ly.length ncy) := block_cell hD.1 5 _ rfl
  have HE := Lib.hid hD.2
  clear hD hwE d0 d1 d2 d3 d4 d5 v0 v1 v2 v3 v4 v5
  refine bodyPost_ret (v := .tuple #[.agg #[.int .u8 ky, .slice say sy.length scy, .int .i64 mny, .int .i64 mxy, .bool lzy, .slice nay ly.length ncy], .bool true]) (by simp [results, Tryz.results107, go_sem, s0, s1, s2, s3, s4, s5]) rfl ⟨⟨_, HE.out.1, .inl ⟨_, n, ?_, rfl, HY.out.1, ?_, hn⟩⟩, HE.out.2.1⟩
  · rw [HP.out.1, atom1, if_neg HB.out.1.1, if_neg HB.out.1.2, if_neg HB.out.2, HO.out.1, if_pos ⟨.inl HO.out.2.2.2.1, HO.out.2.2.2.2⟩]
    try rfl
  · exact (HE.out.2.2 p (by omega) H4.out.pa.lt).trans H4.out.pa
theorem atom_of_alt (w0 : World) (p : Nat) (s : ByteArray) (F : Nat) (hA : ∀ f, f < F → AltH w0 p s f) : AtomH w0 p s F := by
  intro k w hctx hlt hF
  obtain ⟨G, rfl⟩ : ∃ G, F = G + 1 := ⟨F - 1, by omega⟩
  have hR := drop_cons s k hlt
  by_cases h3 : (s.data.toList.drop k).take 3 = [40, 63, 58]
  · exact atom_nc w0 p s G k w (hA G (by omega)) hctx (by omega) h3
  by_cases h1 : (s.data.toList.drop k).take 1 = [40]
  · exact atom_grp w0 p s G k w (hA G (by omega)) hctx (by omega) h3 h1
  have h40 : s[k] ≠ 40 := fun e => h1 (by rw [hR, e]; rfl)
  by_cases h46 : s[k] = 46
  · exact atom_dot w0 p s G k w hctx hlt h46
  by_cases h91 : s[k] = 91
  · exact atom_cls w0 p s G k w hctx hlt h91
  by_cases h92 : s[k] = 92
  · by_cases h2 : k + 1 < s.size
    · cases hn : Rs.namedB (Rs.bt (s.data.toList.drop k) 1) with
      | true => exact atom_named w0 p s G k w hctx hlt h92 h2 hn
      | false => exact atom_esc2 w0 p s G k w hctx hlt h92 h2 hn
    · exact atom_esc1 w0 p s G k w hctx hlt h92 h2
  obtain ⟨o1, o2, o3⟩ := Rs.decS_ok (t := s.data.toList.drop k) (by rw [hR]; simp)
  obtain ⟨c, n, hd⟩ : ∃ c n, Rs.decS (s.data.toList.drop k) = (c, n) := ⟨_, _, rfl⟩
  rw [hd] at o1 o2 o3
  dsimp only at o1 o2 o3
  rw [List.length_drop, len_d] at o3
  by_cases hc : c = 65533
  · subst hc
    by_cases hn : n = 1
    · subst hn
      exact atom_bad w0 p s G k w hctx hlt h40 h46 h91 h92 ⟨hd, by omega⟩
    · exact atom_fffd w0 p s G k w hctx hlt h40 h46 h91 h92 n ⟨hd, by omega, trivial, by omega⟩
  · cases hm : isMeta (c : Int) with
    | true => exact atom_meta w0 p s G k w hctx hlt h40 h46 h91 h92 c n ⟨hd, by omega, o1, hc, hm⟩
    | false => exact atom_char w0 p s G k w hctx hlt h40 h46 h91 h92 c n ⟨hd, by omega, o1, hc, hm⟩
/-- the parser's three functions, whatever the fuel -/
theorem parse_fns (w0 : World) (p : Nat) (s : ByteArray) : ∀ F, AltH w0 p s F ∧ CatH w0 p s F ∧ AtomH w0 p s F := by
  intro F
  induction F using Nat.strongRecOn with
  | _ F ih => exact ⟨alt_of_cat w0 p s F (fun f hf => (ih f hf).2.1), cat_of_atom w0 p s F (fun f hf => (ih f hf).2.2), atom_of_alt w0 p s F (fun f hf => (ih f hf).1)⟩
end Go.Proofs.YtimahlimmblgkaaGreatDoor.Sy
