/- Texts of the claim, put together: TrE, TrF, TrG. -/
import Derived.Test.YtimahlimmblgkaaGreatDoorPTrD
import Derived.WalkMore
import Derived.Deep.RegionWith
namespace Go.Proofs.YtimahlimmblgkaaGreatDoor.Sy
open Go Go.RowKit
theorem Ctx.drw {w0 w : World} {p k : Nat} {s : ByteArray} (h : Ctx w0 p s k w) (n : Nat) : Ctx w0 p s k (w.drewN n) :=
  h.fr (Fr.drwN (Fr.refl _ _) n) (h.pa.drewN n) h.le
theorem AccOK.drw {w wr : World} {p : Nat} {v : Value} {acc : List L} (h : AccOK w wr p v acc) (hp : p < w.heap.size) (n : Nat) : AccOK w (wr.drewN n) p v acc := h.chg hp (Fr.drwN (Fr.refl _ _) n)
theorem pCat_nil {G : Nat} {acc : List T} : pCat (G + 1) [] acc = some (join 3 acc, 0) := by rw [pCat]
theorem pCat_end {G : Nat} {c : UInt8} {cs : B} {acc : List T} (h : c = 124 ∨ c = 41) : pCat (G + 1) (c :: cs) acc = some (join 3 acc, 0) := by rw [pCat, if_pos h]
theorem pCat_no {G : Nat} {c : UInt8} {cs : B} {acc : List T} (h : ¬ (c = 124 ∨ c = 41)) (ha : pAtom G (c :: cs) = none) : pCat (G + 1) (c :: cs) acc = none := by rw [pCat, if_neg h, ha]
theorem pCat_noq {G : Nat} {c : UInt8} {cs : B} {acc : List T} {n : T} {k : Nat} (h : ¬ (c = 124 ∨ c = 41)) (ha : pAtom G (c :: cs) = some (n, k)) (hq : quantifier n ((c :: cs).drop k) = none) : pCat (G + 1) (c :: cs) acc = none := by rw [pCat, if_neg h, ha]; dsimp only; rw [hq]
theorem pCat_go {G : Nat} {c : UInt8} {cs : B} {acc : List T} {n m : T} {k j : Nat} (h : ¬ (c = 124 ∨ c = 41)) (ha : pAtom G (c :: cs) = some (n, k)) (hq : quantifier n ((c :: cs).drop k) = some (m, j)) :
    pCat (G + 1) (c :: cs) acc = (pCat G ((c :: cs).drop (k + j)) (acc ++ [m])).map (fun p => (p.1, k + j + p.2)) := by rw [pCat, if_neg h, ha]; dsimp only; rw [hq]
theorem drop_cons (s : ByteArray) (k : Nat) (h : k < s.size) : s.data.toList.drop k = s[k] :: s.data.toList.drop (k + 1) := by
  rw [List.drop_eq_getElem_cons (by simpa using h)]
  rfl
theorem fr_tmp {X : Nat → Prop} {wr w3 wT : World} {g : Nat} (h : Fr X wr w3) (hg : wr.heap.size ≤ g) (hs : Fr (fun k => k = g) w3 wT) : Fr X wr wT :=
  ((h.mono (Y := fun q => X q ∨ q = g) (fun _ _ e => .inl e)).trans (hs.mono (fun _ _ e => .inr e))).mono (fun k hk e => by
    rcases e with e | e
    · exact e
    · omega)
/-- at the head of cat's loop -/
def CHead (w0 w : World) (p : Nat) (s : ByteArray) (k F : Nat) (G : Nat) (s4 : Value) (wr : World) : Prop :=
  ∃ (k' : Nat) (acc : List L), k ≤ k' ∧ Ctx w0 p s k' wr ∧ 3 * (s.size - k') + 2 ≤ G ∧ G ≤ F ∧ acc.length ≤ k' ∧ AccOK w wr p s4 acc ∧
    pCat F (s.data.toList.drop k) [] = (pCat G (s.data.toList.drop k') (treeL acc)).map (fun q => (q.1, k' - k + q.2))
set_option maxRecDepth 100000 in
set_option maxHeartbeats 8000000 in
theorem cat_of_atom (w0 : World) (p : Nat) (s : ByteArray) (F : Nat) (hC : ∀ f, f < F → AtomH w0 p s f) : CatH w0 p s F := by
  intro k w hctx hF
  have HC := Lib.hid hC
  have HX := Lib.hid hctx
  have HFF := Lib.hid hF
  clear hC hctx hF
  go_enter Tryz.func79, Tryz.ntmps79
  go_wp2_with fail
  go_step3
  go_wp2_with fail
  go_step3
  go_wp2_with fail
  go_loopg [4] F (fun G s4 wr => CHead w0 w p s k F G s4 wr)
  case atStart =>
    have hc := HX.out
    exact ⟨k, [], Nat.le_refl _, ⟨hc.vs, hc.bel.alloc hc.bel.size _, hc.ge, pa_al hc.pa _, hc.le, hc.sz⟩, HFF.out, Nat.le_refl _, Nat.zero_le _, ⟨⟨rfl, .inl ⟨rfl, rfl⟩⟩, fun _ h => (by cases h), Fr.of_bel ((Below.refl _ _).alloc (Nat.le_refl _) _), heap_alloc_new w _⟩, by
        rw [Nat.sub_self]
        show _ = Option.map (fun q => (q.1, 0 + q.2)) (pCat F (s.data.toList.drop k) [])
        cases pCat F (s.data.toList.drop k) [] <;> simp⟩
  case round =>
    obtain ⟨k', acc, hkk, hc, hG, hGF, hal, hacc, heq⟩ := hrel
    obtain ⟨G, rfl⟩ : ∃ G, gk = G + 1 := ⟨gk - 1, by omega⟩
    obtain ⟨na, nc, rfl⟩ := own_form hacc.own
    have HR := Lib.hid hacc
    have HE := Lib.hid heq
    have HK := Lib.hid hc
    have HN := Lib.hid (And.intro hkk (And.intro hG (And.intro hGF hal)))
    have hp1 : p < w.heap.size := HX.out.pa.lt
    have c0 : wr.cell? ⟨p, 0, none⟩ = some (.string s) := block_cell hc.pa 0 _ rfl
    have c1 : wr.cell? ⟨p, 1, none⟩ = some (.int .i64 (k' : Int)) := block_cell hc.pa 1 _ rfl
    clear hacc heq hc hkk hG hGF hal
    by_cases hlt : k' < s.size
    · have HD0 := Lib.hid (drop_cons s k' hlt)
      by_cases h1 : s[k'] = 124
      · have h124 : ((s[k'].toNat : Int) == 124) = true := by rw [h1]; rfl
        have H1 := Lib.hid h1
        clear h1
        go_wp2_with fail
        go_quiet (fail)
        go_wp2_with fail
        go_quiet (fail)
        go_wp2_with fail
        go_at_call 81
        refine ((HR.out.drw hp1 _).join 3 (by decide) (by have := HN.out.2.2.2; have := HK.out.le; have := HK.out.sz; omega)).2.mono ?_
        rintro e wJ ⟨x, he, hxt, hx, hbJ⟩
        obtain ⟨kx, sax, scx, sx, mnx, mxx, lzx, nax, ncx, lx⟩ := x
        replace he : e = .returned (.agg #[.int .u8 kx, .slice sax sx.length scx, .int .i64 mnx, .int .i64 mxx, .bool lzx, .slice nax lx.length ncx]) := he
        subst he
        have hr := (hbJ.block _ HR.out.lt).trans HR.out.res
        have d0 := block_cell hr 0 _ rfl
        have d1 := block_cell hr 1 _ rfl
        have d2 := block_cell hr 2 _ rfl
        have d3 := block_cell hr 3 _ rfl
        have d4 := block_cell hr 4 _ rfl
        have d5 := block_cell hr 5 _ rfl
        have v0 := block_froz hr 0
        have v1 := block_froz hr 1
        have v2 := block_froz hr 2
        have v3 := block_froz hr 3
        have v4 := block_froz hr 4
        have v5 := block_froz hr 5
        have hbW := (show Below wr.heap.size wr wJ from ⟨hbJ.os, hbJ.tape, hbJ.output, hbJ.size, hbJ.block⟩)
        have HJ := Lib.hid (And.intro hr (And.intro hxt (And.intro hx hbW)))
        clear hr hxt hx hbJ hbW
        go_wp2_with fail
        try rw [Exit.noGoto_ret]
        refine post_world ?_
        intro wE hwE
        have hD := six_done HJ.out.1 (HR.out.fr.trans (Fr.of_bel HJ.out.2.2.2)) HJ.out.2.2.1 hwE
        have s0 := block_cell hD.1 0 _ rfl
        have s1 := block_cell hD.1 1 _ rfl
        have s2 := block_cell hD.1 2 _ rfl
        have s3 := block_cell hD.1 3 _ rfl
        have s4 := block_cell hD.1 4 _ rfl
        have s5 := block_cell hD.1 5 _ rfl
        have HD := Lib.hid hD.2
        clear hD hwE d0 d1 d2 d3 d4 d5 v0 v1 v2 v3 v4 v5
        refine bodyPost_ret (v := .tuple #[.agg #[.int .u8 kx, .slice sax sx.length scx, .int .i64 mnx, .int .i64 mxx, .bool lzx, .slice nax lx.length ncx], .bool true]) (by simp [results, Tryz.results79, go_sem, s0, s1, s2, s3, s4, s5]) rfl ⟨⟨_, HD.out.1, .inl ⟨_, k' - k, ?_, rfl, HJ.out.2.1, ?_, ?_⟩⟩, HD.out.2.1⟩
        · rw [HE.out, HD0.out, pCat_end (.inl H1.out)]
          rfl
        · have e1 : k + (k' - k) = k' := by have := HN.out.1; omega
          rw [e1]
          exact (HD.out.2.2 p (by omega) (pa_bel HK.out.pa HJ.out.2.2.2).lt).trans (pa_bel HK.out.pa HJ.out.2.2.2)
        · have := HN.out.1; have := HK.out.le; omega
      · have h124 : ((s[k'].toNat : Int) == 124) = false := by
          refine beq_eq_false_iff_ne.2 (fun e => h1 ?_)
          exact UInt8.toNat_inj.1 (by have : (124 : UInt8).toNat = 124 := rfl; omega)
        by_cases h2 : s[k'] = 41
        · have h41 : ((s[k'].toNat : Int) == 41) = true := by rw [h2]; rfl
          have H1 := Lib.hid h2
          clear h1 h2
          go_wp2_with fail
          go_quiet (fail)
          go_wp2_with fail
          go_quiet (fail)
          go_wp2_with fail
          go_at_call 81
          refine ((HR.out.drw hp1 _).join 3 (by decide) (by have := HN.out.2.2.2; have := HK.out.le; have := HK.out.sz; omega)).2.mono ?_
          rintro e wJ ⟨x, he, hxt, hx, hbJ⟩
          obtain ⟨kx, sax, scx, sx, mnx, mxx, lzx, nax, ncx, lx⟩ := x
          replace he : e = .returned (.agg #[.int .u8 kx, .slice sax sx.length scx, .int .i64 mnx, .int .i64 mxx, .bool lzx, .slice nax lx.length ncx]) := he
          subst he
          have hr := (hbJ.block _ HR.out.lt).trans HR.out.res
          have d0 := block_cell hr 0 _ rfl
          have d1 := block_cell hr 1 _ rfl
          have d2 := block_cell hr 2 _ rfl
          have d3 := block_cell hr 3 _ rfl
          have d4 := block_cell hr 4 _ rfl
          have d5 := block_cell hr 5 _ rfl
          have v0 := block_froz hr 0
          have v1 := block_froz hr 1
          have v2 := block_froz hr 2
          have v3 := block_froz hr 3
          have v4 := block_froz hr 4
          have v5 := block_froz hr 5
          have hbW := (show Below wr.heap.size wr wJ from ⟨hbJ.os, hbJ.tape, hbJ.output, hbJ.size, hbJ.block⟩)
          have HJ := Lib.hid (And.intro hr (And.intro hxt (And.intro hx hbW)))
          clear hr hxt hx hbJ hbW
          go_wp2_with fail
          try rw [Exit.noGoto_ret]
          refine post_world ?_
          intro wE hwE
          have hD := six_done HJ.out.1 (HR.out.fr.trans (Fr.of_bel HJ.out.2.2.2)) HJ.out.2.2.1 hwE
          have s0 := block_cell hD.1 0 _ rfl
          have s1 := block_cell hD.1 1 _ rfl
          have s2 := block_cell hD.1 2 _ rfl
          have s3 := block_cell hD.1 3 _ rfl
          have s4 := block_cell hD.1 4 _ rfl
          have s5 := block_cell hD.1 5 _ rfl
          have HD := Lib.hid hD.2
          clear hD hwE d0 d1 d2 d3 d4 d5 v0 v1 v2 v3 v4 v5
          refine bodyPost_ret (v := .tuple #[.agg #[.int .u8 kx, .slice sax sx.length scx, .int .i64 mnx, .int .i64 mxx, .bool lzx, .slice nax lx.length ncx], .bool true]) (by simp [results, Tryz.results79, go_sem, s0, s1, s2, s3, s4, s5]) rfl ⟨⟨_, HD.out.1, .inl ⟨_, k' - k, ?_, rfl, HJ.out.2.1, ?_, ?_⟩⟩, HD.out.2.1⟩
          · rw [HE.out, HD0.out, pCat_end (.inr H1.out)]
            rfl
          · have e1 : k + (k' - k) = k' := by have := HN.out.1; omega
            rw [e1]
            exact (HD.out.2.2 p (by omega) (pa_bel HK.out.pa HJ.out.2.2.2).lt).trans (pa_bel HK.out.pa HJ.out.2.2.2)
          · have := HN.out.1; have := HK.out.le; omega
        · have h41 : ((s[k'].toNat : Int) == 41) = false := by
            refine beq_eq_false_iff_ne.2 (fun e => h2 ?_)
            exact UInt8.toNat_inj.1 (by have : (41 : UInt8).toNat = 41 := rfl; omega)
          have H1 := Lib.hid (show ¬ (s[k'] = 124 ∨ s[k'] = 41) from fun e => e.elim h1 h2)
          clear h1 h2
          go_wp2_with fail
          go_quiet (fail)
          go_wp2_with fail
          go_quiet (fail)
          go_wp2_with fail
          go_at_call 107
          refine (HC.out G (by have := HN.out.2.2.1; omega) k' _ (HK.out.drw _) hlt (by have := HN.out.2.1; omega)).mono ?_
          rintro e W ⟨⟨y, hy, hcase⟩, hfW0⟩
          have hfW : Fr (fun q => q = p) wr W := ⟨hfW0.os, hfW0.tape, hfW0.output, hfW0.size, hfW0.block⟩
          replace hy : RdT (fun b => wr.heap.size ≤ b) W y := hy
          have hr : W.heap[w.heap.size]? = some zeroN := (HR.out.chg hp1 hfW).res
          have hra : ∀ o, (W.alloc o).heap[w.heap.size]? = some zeroN := fun o => (((Below.refl W.heap.size W).alloc (Nat.le_refl _) o).block _ (isT_of hr).lt).trans hr
          have HW := Lib.hid (And.intro hr (And.intro hfW (And.intro hy hra)))
          clear hr hfW hfW0 hy hra c0 c1
          obtain ⟨ky, say, scy, sy, mny, mxy, lzy, nay, ncy, ly⟩ := y
          rcases hcase with ⟨m, j, ho, he, hym, hpa, hj⟩ | ⟨ho, he⟩
          · replace he : e = .returned (.tuple #[.agg #[.int .u8 ky, .slice say sy.length scy, .int .i64 mny, .int .i64 mxy, .bool lzy, .slice nay ly.length ncy], .bool true]) := he
            subst he
            have hok := (p_ok G).2.2 _ _ _ (by rw [HD0.out]; simp) ho
            have HO := Lib.hid (And.intro ho (And.intro hym (And.intro hpa (And.intro hj hok))))
            clear ho hym hpa hj hok
            go_wp2_with fail
            go_at_call 108
            have hWC := (HK.out.fr HW.out.2.1 HO.out.2.2.1 HO.out.2.2.2.1)
            refine (quantifier_calls (P := fun b => wr.heap.size ≤ b ∧ b ≠ W.heap.size) hWC.vs p s (k' + j) (.mk ky say scy sy mny mxy lzy nay ncy ly) _ (hWC.bel.alloc hWC.bel.size _) hWC.ge (pa_al hWC.pa _) hWC.le hWC.sz ((HW.out.2.2.1.mono (fun b hb hl => ⟨hb, by omega⟩)).bel ((Below.refl _ _).alloc (Nat.le_refl _) _)) (fun b hb e => by have := HR.out.lt; omega)).mono ?_
            rintro e w3 ⟨⟨z, hz0, hcz⟩, hf3⟩
            clear hWC
            have hz : RdT (fun b => wr.heap.size ≤ b ∧ b ≠ W.heap.size) w3 z := hz0.mono (fun b hb _ => by
              rcases hb with hb | hb
              · exact hb
              · simp at hb; have := HW.out.2.1.size; omega)
            have hF3 : Fr (fun q => q = p) wr w3 := (HW.out.2.1.trans (Fr.of_bel ((Below.refl _ _).alloc (Nat.le_refl _) _))).trans hf3
            have hg := HW.out.2.1.size
            have hl := HR.out.lt
            have hy3 : w3.heap[W.heap.size]? = some (.cells #[.int .u8 ky, .slice say sy.length scy, .int .i64 mny, .int .i64 mxy, .bool lzy, .slice nay ly.length ncy] 27 (0, 0)) := (hf3.block _ (by simp) (by omega)).trans (heap_alloc_new W _)
            have hr3 := (HR.out.chg hp1 hF3).res
            have e0 := block_cell hy3 0 _ rfl
            have e1 := block_cell hy3 1 _ rfl
            have e2 := block_cell hy3 2 _ rfl
            have e3 := block_cell hy3 3 _ rfl
            have e4 := block_cell hy3 4 _ rfl
            have e5 := block_cell hy3 5 _ rfl
            have g0 := block_froz hy3 0
            have g1 := block_froz hy3 1
            have g2 := block_froz hy3 2
            have g3 := block_froz hy3 3
            have g4 := block_froz hy3 4
            have g5 := block_froz hy3 5
            have r0 := block_cell hr3 0 _ rfl
            have r1 := block_cell hr3 1 _ rfl
            have r2 := block_cell hr3 2 _ rfl
            have r3 := block_cell hr3 3 _ rfl
            have r4 := block_cell hr3 4 _ rfl
            have r5 := block_cell hr3 5 _ rfl
            have q0 := block_froz hr3 0
            have q1 := block_froz hr3 1
            have q2 := block_froz hr3 2
            have q3 := block_froz hr3 3
            have q4 := block_froz hr3 4
            have q5 := block_froz hr3 5
            have n1 : ¬ (w.heap.size = W.heap.size) := by omega
            have n2 : ¬ (W.heap.size = w.heap.size) := by omega
            have H3 := Lib.hid (And.intro hz (And.intro hF3 (And.intro hg (And.intro hl (And.intro hr3 hy3)))))
            clear hz hz0 hF3 hg hl hr3 hy3 hf3
            obtain ⟨kz, saz, scz, sz, mnz, mxz, lzz, naz, ncz, lz⟩ := z
            rcases hcz with ⟨m', j', ho', he, hzm, hpa'⟩ | ⟨ho', he⟩
            · replace he : e = .returned (.tuple #[.agg #[.int .u8 kz, .slice saz sz.length scz, .int .i64 mnz, .int .i64 mxz, .bool lzz, .slice naz lz.length ncz], .bool true]) := he
              subst he
              have hj' := (quantifier_ok (by have h1 := HO.out.2.1; have h2 := HO.out.2.2.2.2.1; rw [← h1] at h2; exact h2) ho').2.1
              have HQ := Lib.hid (And.intro ho' (And.intro hzm (And.intro hpa' hj')))
              clear ho' hzm hpa' hj'
              go_wp2_with (at_builtin; refine wpList_app rfl _ _ 25 27 6 80 _ rfl Tryz.underlying25 infoNode rfl (by decide) (by decide) (w.heap.size + 1) _ acc.length (nFlat acc) rfl ((HR.out.chg hp1 (fr_tmp H3.out.2.1 H3.out.2.2.1 six_fr)).al hp1 _).own ⟨w3.heap.size, 0, none⟩ 1 1 [.int .u8 kz, .slice saz sz.length scz, .int .i64 mnz, .int .i64 mxz, .bool lzz, .slice naz lz.length ncz] rfl rfl (cells_new _ #[.int .u8 kz, .slice saz sz.length scz, .int .i64 mnz, .int .i64 mxz, .bool lzz, .slice naz lz.length ncz] _ _ (by simp)) (cs_one (.mk kz saz scz sz mnz mxz lzz naz ncz lz)) (by have := HN.out.2.2.2; have := HK.out.le; have := HK.out.sz; omega) (by have := H3.out.2.2.2.1; have := H3.out.2.1.size; simp; omega) ?_; intro v' w' hown hgrow hblk hbel; have HV := Lib.hid (And.intro hown (And.intro hgrow (And.intro hblk hbel))); clear hown hgrow hblk hbel)
              obtain ⟨wT, hwT⟩ : ∃ q, q = ((((((w3.setCell ⟨W.heap.size, 0, none⟩ (.int .u8 kz)).setCell ⟨W.heap.size, 1, none⟩ (.slice saz sz.length scz)).setCell ⟨W.heap.size, 2, none⟩ (.int .i64 mnz)).setCell ⟨W.heap.size, 3, none⟩ (.int .i64 mxz)).setCell ⟨W.heap.size, 4, none⟩ (.bool lzz)).setCell ⟨W.heap.size, 5, none⟩ (.slice naz lz.length ncz)) := ⟨_, rfl⟩
              have hfT : Fr (fun k => k = W.heap.size) w3 wT := by rw [hwT]; exact six_fr
              have hV := HV.out
              rw [← hwT] at hV
              have hA0 := HR.out.chg hp1 (fr_tmp H3.out.2.1 H3.out.2.2.1 hfT)
              have hzT : RdT (fun b => (w.heap.size ≤ b ∧ b ≠ w.heap.size) ∧ (Value.slice na acc.length nc).ownBlock ≠ some b) wT (.mk kz saz scz sz mnz mxz lzz naz ncz lz) :=
                HR.out.new ((H3.out.1.fr hfT (fun b hb _ => hb.2)).mono (fun b hb _ => hb.1))
              have hA := (hA0.al hp1 _).app (hzT.bel ((Below.refl _ _).alloc (Nat.le_refl _) _)) hV.1 hV.2.1 hV.2.2.1
              have hpT : Pa wT p s (k' + j + j') := (hfT.block _ HQ.out.2.2.1.lt (by have := HR.out.lt; have := H3.out.2.2.1; omega)).trans HQ.out.2.2.1
              have hpV := pa_grown (pa_al hpT _) hV.2.1 (fun e => by have := own_ge HR.out.own _ e; omega)
              have hjj : k' + j + j' ≤ s.size := by
                have h1 := HQ.out.2.2.2
                have h2 := HO.out.2.2.2.1
                rw [List.length_drop, len_d] at h1
                omega
              have HA := Lib.hid (And.intro hA (And.intro hpV hjj))
              clear hA hA0 hzT hpT hpV hjj hV hfT hwT
              go_roundg G
              case measure => omega
              case rel =>
                have hjj := HA.out.2.2
                have h1 := HO.out.2.2.2.2.2.1
                refine ⟨k' + j + j', acc ++ [.mk kz saz scz sz mnz mxz lzz naz ncz lz], by have := HN.out.1; omega, HX.out.fr HA.out.1.fr HA.out.2.1 hjj, by have := HN.out.2.1; omega, by have := HN.out.2.2.1; omega, by have := HN.out.2.2.2; simp; omega, HA.out.1, ?_⟩
                have ha := HO.out.1
                have hq := HQ.out.1
                rw [HO.out.2.1, ← List.drop_drop] at hq
                rw [HD0.out] at ha hq
                rw [HE.out, HD0.out, pCat_go H1.out ha hq, ← HD0.out, Option.map_map, List.drop_drop, treeL_append, ← Nat.add_assoc]
                have e1 : treeL [.mk kz saz scz sz mnz mxz lzz naz ncz lz] = [m'] := by rw [← HQ.out.2.1]; rfl
                rw [e1]
                congr 1
                funext q
                have := HN.out.1
                simp only [Function.comp_apply, Prod.mk.injEq, true_and]
                omega
            · replace he : e = .returned (.tuple #[.agg #[.int .u8 kz, .slice saz sz.length scz, .int .i64 mnz, .int .i64 mxz, .bool lzz, .slice naz lz.length ncz], .bool false]) := he
              subst he
              have HQ := Lib.hid ho'
              clear ho'
              go_wp2_with fail
              try rw [Exit.noGoto_ret]
              refine post_world ?_
              intro wE hwE
              obtain ⟨wT, hwT⟩ : ∃ q, q = ((((((w3.setCell ⟨W.heap.size, 0, none⟩ (.int .u8 kz)).setCell ⟨W.heap.size, 1, none⟩ (.slice saz sz.length scz)).setCell ⟨W.heap.size, 2, none⟩ (.int .i64 mnz)).setCell ⟨W.heap.size, 3, none⟩ (.int .i64 mxz)).setCell ⟨W.heap.size, 4, none⟩ (.bool lzz)).setCell ⟨W.heap.size, 5, none⟩ (.slice naz lz.length ncz)) := ⟨_, rfl⟩
              rw [← hwT] at hwE
              have hfT : Fr (fun k => k = W.heap.size) w3 wT := by rw [hwT]; exact six_fr
              have hA := HR.out.chg hp1 (fr_tmp H3.out.2.1 H3.out.2.2.1 hfT)
              have hD := six_done hA.res hA.fr ((H3.out.1.fr hfT (fun b hb _ => hb.2)).mono (fun b hb _ => ⟨by have := H3.out.2.2.2.1; omega, by have := H3.out.2.2.2.1; omega⟩)) hwE
              have s0 := block_cell hD.1 0 _ rfl
              have s1 := block_cell hD.1 1 _ rfl
              have s2 := block_cell hD.1 2 _ rfl
              have s3 := block_cell hD.1 3 _ rfl
              have s4 := block_cell hD.1 4 _ rfl
              have s5 := block_cell hD.1 5 _ rfl
              have HD := Lib.hid hD.2
              clear hD hwE hwT hfT hA
              refine bodyPost_ret (v := .tuple #[.agg #[.int .u8 kz, .slice saz sz.length scz, .int .i64 mnz, .int .i64 mxz, .bool lzz, .slice naz lz.length ncz], .bool false]) (by simp [results, Tryz.results79, go_sem, s0, s1, s2, s3, s4, s5]) rfl ⟨⟨_, HD.out.1, .inr ⟨?_, rfl⟩⟩, HD.out.2.1⟩
              have ha := HO.out.1
              have hq := HQ.out
              rw [HO.out.2.1, ← List.drop_drop] at hq
              rw [HD0.out] at ha hq
              rw [HE.out, HD0.out, pCat_noq H1.out ha hq]
              rfl
          · replace he : e = .returned (.tuple #[.agg #[.int .u8 ky, .slice say sy.length scy, .int .i64 mny, .int .i64 mxy, .bool lzy, .slice nay ly.length ncy], .bool false]) := he
            subst he
            have HO := Lib.hid ho
            clear ho
            have hra := HW.out.2.2.2
            have d0 : ∀ o, (W.alloc o).cell? ⟨w.heap.size, 0, none⟩ = some (.int .u8 0) := fun o => block_cell (hra o) 0 _ rfl
            have d1 : ∀ o, (W.alloc o).cell? ⟨w.heap.size, 1, none⟩ = some (.slice none 0 0) := fun o => block_cell (hra o) 1 _ rfl
            have d2 : ∀ o, (W.alloc o).cell? ⟨w.heap.size, 2, none⟩ = some (.int .i64 0) := fun o => block_cell (hra o) 2 _ rfl
            have d3 : ∀ o, (W.alloc o).cell? ⟨w.heap.size, 3, none⟩ = some (.int .i64 0) := fun o => block_cell (hra o) 3 _ rfl
            have d4 : ∀ o, (W.alloc o).cell? ⟨w.heap.size, 4, none⟩ = some (.bool false) := fun o => block_cell (hra o) 4 _ rfl
            have d5 : ∀ o, (W.alloc o).cell? ⟨w.heap.size, 5, none⟩ = some (.slice none 0 0) := fun o => block_cell (hra o) 5 _ rfl
            have v0 : ∀ o, (W.alloc o).frozen? ⟨w.heap.size, 0, none⟩ = false := fun o => block_froz (hra o) 0
            have v1 : ∀ o, (W.alloc o).frozen? ⟨w.heap.size, 1, none⟩ = false := fun o => block_froz (hra o) 1
            have v2 : ∀ o, (W.alloc o).frozen? ⟨w.heap.size, 2, none⟩ = false := fun o => block_froz (hra o) 2
            have v3 : ∀ o, (W.alloc o).frozen? ⟨w.heap.size, 3, none⟩ = false := fun o => block_froz (hra o) 3
            have v4 : ∀ o, (W.alloc o).frozen? ⟨w.heap.size, 4, none⟩ = false := fun o => block_froz (hra o) 4
            have v5 : ∀ o, (W.alloc o).frozen? ⟨w.heap.size, 5, none⟩ = false := fun o => block_froz (hra o) 5
            clear hra
            go_wp2_with fail
            try rw [Exit.noGoto_ret]
            refine post_world ?_
            intro wE hwE
            have hD := six_done (HW.out.2.2.2 _) (((HR.out.chg hp1 HW.out.2.1).al hp1 _).fr) (((HR.out.new HW.out.2.2.1).bel ((Below.refl _ _).alloc (Nat.le_refl _) _)).mono (fun b hb _ => hb.1)) hwE
            have s0 := block_cell hD.1 0 _ rfl
            have s1 := block_cell hD.1 1 _ rfl
            have s2 := block_cell hD.1 2 _ rfl
            have s3 := block_cell hD.1 3 _ rfl
            have s4 := block_cell hD.1 4 _ rfl
            have s5 := block_cell hD.1 5 _ rfl
            have HD := Lib.hid hD.2
            clear hD hwE d0 d1 d2 d3 d4 d5 v0 v1 v2 v3 v4 v5
            refine bodyPost_ret (v := .tuple #[.agg #[.int .u8 ky, .slice say sy.length scy, .int .i64 mny, .int .i64 mxy, .bool lzy, .slice nay ly.length ncy], .bool false]) (by simp [results, Tryz.results79, go_sem, s0, s1, s2, s3, s4, s5]) rfl ⟨⟨_, HD.out.1, .inr ⟨?_, rfl⟩⟩, HD.out.2.1⟩
            have ha := HO.out
            rw [HD0.out] at ha
            rw [HE.out, HD0.out, pCat_no H1.out ha]
            rfl
    · have HZ := Lib.hid hlt
      go_wp2_with fail
      go_quiet (fail)
      go_wp2_with fail
      go_at_call 81
      refine ((HR.out.drw hp1 _).join 3 (by decide) (by have := HN.out.2.2.2; have := HK.out.le; have := HK.out.sz; omega)).2.mono ?_
      rintro e wJ ⟨x, he, hxt, hx, hbJ⟩
      obtain ⟨kx, sax, scx, sx, mnx, mxx, lzx, nax, ncx, lx⟩ := x
      replace he : e = .returned (.agg #[.int .u8 kx, .slice sax sx.length scx, .int .i64 mnx, .int .i64 mxx, .bool lzx, .slice nax lx.length ncx]) := he
      subst he
      have hr := (hbJ.block _ HR.out.lt).trans HR.out.res
      have d0 := block_cell hr 0 _ rfl
      have d1 := block_cell hr 1 _ rfl
      have d2 := block_cell hr 2 _ rfl
      have d3 := block_cell hr 3 _ rfl
      have d4 := block_cell hr 4 _ rfl
      have d5 := block_cell hr 5 _ rfl
      have v0 := block_froz hr 0
      have v1 := block_froz hr 1
      have v2 := block_froz hr 2
      have v3 := block_froz hr 3
      have v4 := block_froz hr 4
      have v5 := block_froz hr 5
      have hbW := (show Below wr.heap.size wr wJ from ⟨hbJ.os, hbJ.tape, hbJ.output, hbJ.size, hbJ.block⟩)
      have HJ := Lib.hid (And.intro hr (And.intro hxt (And.intro hx hbW)))
      clear hr hxt hx hbJ hbW
      go_wp2_with fail
      try rw [Exit.noGoto_ret]
      refine post_world ?_
      intro wE hwE
      have hD := six_done HJ.out.1 (HR.out.fr.trans (Fr.of_bel HJ.out.2.2.2)) HJ.out.2.2.1 hwE
      have s0 := block_cell hD.1 0 _ rfl
      have s1 := block_cell hD.1 1 _ rfl
      have s2 := block_cell hD.1 2 _ rfl
      have s3 := block_cell hD.1 3 _ rfl
      have s4 := block_cell hD.1 4 _ rfl
      have s5 := block_cell hD.1 5 _ rfl
      have HD := Lib.hid hD.2
      clear hD hwE d0 d1 d2 d3 d4 d5 v0 v1 v2 v3 v4 v5
      refine bodyPost_ret (v := .tuple #[.agg #[.int .u8 kx, .slice sax sx.length scx, .int .i64 mnx, .int .i64 mxx, .bool lzx, .slice nax lx.length ncx], .bool true]) (by simp [results, Tryz.results79, go_sem, s0, s1, s2, s3, s4, s5]) rfl ⟨⟨_, HD.out.1, .inl ⟨_, k' - k, ?_, rfl, HJ.out.2.1, ?_, ?_⟩⟩, HD.out.2.1⟩
      · rw [HE.out, List.drop_eq_nil_of_le (show s.data.toList.length ≤ k' by rw [len_d]; omega), pCat_nil]
        rfl
      · have e1 : k + (k' - k) = k' := by have := HN.out.1; omega
        rw [e1]
        exact (HD.out.2.2 p (by omega) (pa_bel HK.out.pa HJ.out.2.2.2).lt).trans (pa_bel HK.out.pa HJ.out.2.2.2)
      · have := HN.out.1; have := HK.out.le; omega
end Go.Proofs.YtimahlimmblgkaaGreatDoor.Sy
namespace Go.Proofs.YtimahlimmblgkaaGreatDoor.Sy
open Go Go.RowKit
theorem hasPre_take (p s : B) : Lib.hasPrefix s p = decide (s.take p.length = p) := by
  unfold Lib.hasPrefix
  rw [Bool.eq_iff_iff, List.isPrefixOf_iff_prefix, List.prefix_iff_eq_take, decide_eq_true_iff]
  exact eq_comm
/-- where atom stands: the parser at k, the result's cells as they were made -/
structure At (w wi : World) (p : Nat) (s : ByteArray) (k : Nat) : Prop where
  pa : Pa wi p s k
  fr : Fr (fun q => q = p) w wi
  res : wi.heap[w.heap.size]? = some zeroN
theorem At.go {w wi wj : World} {p k k' : Nat} {s : ByteArray} (h : At w wi p s k) (hp : p < w.heap.size) (hf : Fr (fun q => q = p) wi wj) (hpa : Pa wj p s k') : At w wj p s k' :=
  ⟨hpa, h.fr.trans hf, (hf.block _ (isT_of h.res).lt (by omega)).trans h.res⟩
theorem At.lt {w wi : World} {p k : Nat} {s : ByteArray} (h : At w wi p s k) : w.heap.size < wi.heap.size := (isT_of h.res).lt
theorem At.bel {w wi wj : World} {p k : Nat} {s : ByteArray} (h : At w wi p s k) (hb : Below wi.heap.size wi wj) : At w wj p s k :=
  ⟨pa_bel h.pa hb, h.fr.trans (Fr.of_bel hb), (hb.block _ h.lt).trans h.res⟩
theorem At.al {w wi : World} {p k : Nat} {s : ByteArray} (h : At w wi p s k) (o : Obj) : At w (wi.alloc o) p s k := h.bel ((Below.refl _ _).alloc (Nat.le_refl _) _)
theorem At.drw {w wi : World} {p k : Nat} {s : ByteArray} (h : At w wi p s k) (hp : p < w.heap.size) (n : Nat) : At w (wi.drewN n) p s k := h.go hp (Fr.drwN (Fr.refl _ _) n) (h.pa.drewN n)
theorem At.new {w wi W : World} {p k : Nat} {s : ByteArray} {y : L} (h : At w wi p s k) (hy : RdT (fun b => wi.heap.size ≤ b) W y) : RdT (fun b => w.heap.size ≤ b ∧ b ≠ w.heap.size) W y :=
  hy.mono (fun b hb _ => by have := h.lt; omega)
theorem At.drew {w wi : World} {p k : Nat} {s : ByteArray} (h : At w wi p s k) : At w wi.drew p s k := ⟨h.pa, ⟨h.fr.os, h.fr.tape, h.fr.output, h.fr.size, h.fr.block⟩, h.res⟩
theorem At.start {w : World} {p k : Nat} {s : ByteArray} (h : Pa w p s k) : At w (w.alloc (.cells #[.int .u8 0, .slice none 0 0, .int .i64 0, .int .i64 0, .bool false, .slice none 0 0] 27)) p s k :=
  ⟨pa_al h _, Fr.of_bel ((Below.refl _ _).alloc (Nat.le_refl _) _), heap_alloc_new w _⟩
theorem pAtom_nc0 {G : Nat} {R : B} (h : R.take 3 = [40, 63, 58]) (ha : pAlt G (R.drop 3) [] = none) : pAtom (G + 1) R = none := by rw [pAtom, if_pos h, ha]
theorem pAtom_nc {G : Nat} {R : B} (h : R.take 3 = [40, 63, 58]) {n : T} {k : Nat} (ha : pAlt G (R.drop 3) [] = some (n, k)) : pAtom (G + 1) R = if R[k + 3]? = some 41 then some (n, k + 4) else none := by rw [pAtom, if_pos h, ha]
theorem pAtom_grp0 {G : Nat} {R : B} (h0 : R.take 3 ≠ [40, 63, 58]) (h : R.take 1 = [40]) (ha : pAlt G (R.drop 1) [] = none) : pAtom (G + 1) R = none := by rw [pAtom, if_neg h0, if_pos h, ha]
theorem pAtom_grp {G : Nat} {R : B} (h0 : R.take 3 ≠ [40, 63, 58]) (h : R.take 1 = [40]) {n : T} {k : Nat} (ha : pAlt G (R.drop 1) [] = some (n, k)) : pAtom (G + 1) R = if R[k + 1]? = some 41 then some (.mk 6 [] 0 0 false [n], k + 2) else none := by rw [pAtom, if_neg h0, if_pos h, ha]
theorem pAtom_one {G : Nat} {R : B} (h0 : R.take 3 ≠ [40, 63, 58]) (h : R.take 1 ≠ [40]) : pAtom (G + 1) R = atom1 R := by rw [pAtom, if_neg h0, if_neg h]
theorem six_doneD {w wT wE : World} {p : Nat} {ky : Int} {say : Option Addr} {scy : Nat} {sy : Rs.S} {mny mxy : Int} {lzy : Bool} {nay : Option Addr} {ncy : Nat} {ly : List L} (hr : wT.heap[w.heap.size]? = some zeroN) (hf : Fr (fun q => q = p) w wT)
    (hy : RdT (fun b => w.heap.size ≤ b ∧ b ≠ w.heap.size) wT (.mk ky say scy sy mny mxy lzy nay ncy ly))
    (hE : wE = ((((((wT.setCell ⟨w.heap.size, 0, none⟩ (.int .u8 ky)).setCell ⟨w.heap.size, 1, none⟩ (.slice say sy.length scy)).setCell ⟨w.heap.size, 2, none⟩ (.int .i64 mny)).setCell ⟨w.heap.size, 3, none⟩ (.int .i64 mxy)).setCell ⟨w.heap.size, 4, none⟩ (.bool lzy)).setCell ⟨w.heap.size, 5, none⟩ (.slice nay ly.length ncy)).drew) :
    wE.heap[w.heap.size]? = some (.cells #[.int .u8 ky, .slice say sy.length scy, .int .i64 mny, .int .i64 mxy, .bool lzy, .slice nay ly.length ncy] 27 (0, 0)) ∧ RdT (fun b => w.heap.size ≤ b) wE (.mk ky say scy sy mny mxy lzy nay ncy ly) ∧
    Fr (fun q => q = p) w wE ∧ ∀ i, i ≠ w.heap.size → i < wT.heap.size → wE.heap[i]? = wT.heap[i]? := by
  obtain ⟨wF, hF⟩ : ∃ q, q = ((((((wT.setCell ⟨w.heap.size, 0, none⟩ (.int .u8 ky)).setCell ⟨w.heap.size, 1, none⟩ (.slice say sy.length scy)).setCell ⟨w.heap.size, 2, none⟩ (.int .i64 mny)).setCell ⟨w.heap.size, 3, none⟩ (.int .i64 mxy)).setCell ⟨w.heap.size, 4, none⟩ (.bool lzy)).setCell ⟨w.heap.size, 5, none⟩ (.slice nay ly.length ncy)) := ⟨_, rfl⟩
  rw [← hF] at hE
  have h := six_done hr hf hy hF
  subst hE
  exact ⟨h.1, h.2.1.chg (w' := wF.drew) (fun _ _ _ => rfl) (Nat.le_refl _) (fun _ h _ => h), ⟨h.2.2.1.os, h.2.2.1.tape, h.2.2.1.output, h.2.2.1.size, h.2.2.1.block⟩, h.2.2.2⟩
set_option maxRecDepth 100000 in
set_option maxHeartbeats 8000000 in
theorem atom_nc (w0 : World) (p : Nat) (s : ByteArray) (G k : Nat) (w : World) (hA : AltH w0 p s G) (hctx : Ctx w0 p s k w) (hG : 3 * (s.size - k) ≤ G) (h3 : (s.data.toList.drop k).take 3 = [40, 63, 58]) :
    Calls Tryz.prog 107 #[.pointer (some ⟨p, 0, none⟩)] w (APost p s k (pAtom (G + 1) (s.data.toList.drop k)) w) := by
  have hk3 : k + 3 ≤ s.size := by
    have := congrArg List.length h3
    simp at this
    omega
  have c0 : w.cell? ⟨p, 0, none⟩ = some (.string s) := block_cell hctx.pa 0 _ rfl
  have c1 : w.cell? ⟨p, 1, none⟩ = some (.int .i64 (k : Int)) := block_cell hctx.pa 1 _ rfl
  have hle : k ≤ s.size := hctx.le
  have hp1 : p < w.heap.size := hctx.pa.lt
  have HP := Lib.hid (show Lib.hasPrefix (s.data.toList.drop k) [40, 63, 58] = true by rw [hasPre_take]; exact decide_eq_true h3)
  have HA := Lib.hid hA
  have HX := Lib.hid hctx
  have H3 := Lib.hid (And.intro h3 hG)
  clear hA hctx h3 hG
  go_enter Tryz.func107, Tryz.ntmps107
  go_wp2_with fail
  go_quiet (fail)
  go_wp2_with fail
  go_at_call 80
  refine (take_yes p s ⟨#[40, 63, 58]⟩ k _ (((At.start HX.out.pa).drw hp1 _).pa) hk3 HX.out.sz HP.out).mono ?_
  rintro e w1 ⟨rfl, hp1', hf1⟩
  have H1 := Lib.hid (((At.start HX.out.pa).drw hp1 _).go hp1 hf1 hp1')
  clear hp1' hf1
  go_wp2_with fail
  go_at_call 52
  refine (HA.out (k + 3) w1 (HX.out.fr H1.out.fr H1.out.pa hk3) (by have := H3.out.2; omega)).mono ?_
  rintro e W ⟨⟨y, hy, hcase⟩, hfW⟩
  have hra : ∀ o, (W.alloc o).heap[w.heap.size]? = some zeroN := fun o => ((((Below.refl W.heap.size W).alloc (Nat.le_refl _) o).block _ (Nat.lt_of_lt_of_le H1.out.lt hfW.size)).trans (hfW.block _ H1.out.lt (by omega))).trans H1.out.res
  have HW := Lib.hid (And.intro hfW (And.intro (H1.out.new hy) hra))
  clear hfW hy
  obtain ⟨ky, say, scy, sy, mny, mxy, lzy, nay, ncy, ly⟩ := y
  rcases hcase with ⟨m, j, ho, he, hym, hpa, hj⟩ | ⟨ho, he⟩
  · replace he : e = .returned (.tuple #[.agg #[.int .u8 ky, .slice say sy.length scy, .int .i64 mny, .int .i64 mxy, .bool lzy, .slice nay ly.length ncy], .bool true]) := he
    subst he
    have HO := Lib.hid (And.intro ho (And.intro hym (And.intro hj ((H1.out.go hp1 HW.out.1 hpa).al (.cells #[.int .u8 ky, .slice say sy.length scy, .int .i64 mny, .int .i64 mxy, .bool lzy, .slice nay ly.length ncy] 27)))))
    clear ho hym hpa hj hra
    go_wp2_with fail
    have e0 : (W.alloc (.cells #[.int .u8 ky, .slice say sy.length scy, .int .i64 mny, .int .i64 mxy, .bool lzy, .slice nay ly.length ncy] 27)).heap[W.heap.size]? = some (.cells #[.int .u8 ky, .slice say sy.length scy, .int .i64 mny, .int .i64 mxy, .bool lzy, .slice nay ly.length ncy] 27 (0, 0)) := heap_alloc_new W _
    have hWg : w.heap.size < W.heap.size := Nat.lt_of_lt_of_le H1.out.lt HW.out.1.size
    by_cases hz : (s.data.toList.drop (k + 3 + j)).head? = some 41
    · have HZ := Lib.hid hz
      clear hz
      go_region_with (
        go_at_call 80
        refine (take_yes p s ⟨#[41]⟩ (k + 3 + j) _ HO.out.2.2.2.drew.pa (by have := hd_lt HZ.out; show k + 3 + j + 1 ≤ s.size; omega) HX.out.sz (by rw [hasPre_one]; exact decide_eq_true HZ.out)).mono ?_
        rintro e w2 ⟨rfl, hp2, hf2⟩
        have H2 := Lib.hid (HO.out.2.2.2.drew.go hp1 hf2 hp2)
        have HY := Lib.hid ((HW.out.2.1.bel ((Below.refl _ _).alloc (Nat.le_refl _) _)).fr (show Fr (fun q => q = p) (W.alloc (.cells #[.int .u8 ky, .slice say sy.length scy, .int .i64 mny, .int .i64 mxy, .bool lzy, .slice nay ly.length ncy] 27)) w2 from ⟨hf2.os, hf2.tape, hf2.output, hf2.size, hf2.block⟩) (fun b hb _ e => by omega))
        have hz2 : w2.heap[W.heap.size]? = some (.cells #[.int .u8 ky, .slice say sy.length scy, .int .i64 mny, .int .i64 mxy, .bool lzy, .slice nay ly.length ncy] 27 (0, 0)) := (hf2.block _ (by simp) (by omega)).trans e0
        have z0 := block_cell hz2 0 _ rfl
        have z1 := block_cell hz2 1 _ rfl
        have z2 := block_cell hz2 2 _ rfl
        have z3 := block_cell hz2 3 _ rfl
        have z4 := block_cell hz2 4 _ rfl
        have z5 := block_cell hz2 5 _ rfl
        have d0 := block_cell H2.out.res 0 _ rfl
        have d1 := block_cell H2.out.res 1 _ rfl
        have d2 := block_cell H2.out.res 2 _ rfl
        have d3 := block_cell H2.out.res 3 _ rfl
        have d4 := block_cell H2.out.res 4 _ rfl
        have d5 := block_cell H2.out.res 5 _ rfl
        have v0 := block_froz H2.out.res 0
        have v1 := block_froz H2.out.res 1
        have v2 := block_froz H2.out.res 2
        have v3 := block_froz H2.out.res 3
        have v4 := block_froz H2.out.res 4
        have v5 := block_froz H2.out.res 5
        clear hp2 hf2 hz2)
      all_goals
        go_wp2_with fail
        refine post_world ?_
        intro wE hwE
        have hD := six_done H2.out.res H2.out.fr HY.out hwE
        have s0 := block_cell hD.1 0 _ rfl
        have s1 := block_cell hD.1 1 _ rfl
        have s2 := block_cell hD.1 2 _ rfl
        have s3 := block_cell hD.1 3 _ rfl
        have s4 := block_cell hD.1 4 _ rfl
        have s5 := block_cell hD.1 5 _ rfl
        have HD := Lib.hid hD.2
        clear hD hwE d0 d1 d2 d3 d4 d5 v0 v1 v2 v3 v4 v5 z0 z1 z2 z3 z4 z5
        refine bodyPost_ret (v := .tuple #[.agg #[.int .u8 ky, .slice say sy.length scy, .int .i64 mny, .int .i64 mxy, .bool lzy, .slice nay ly.length ncy], .bool true]) (by simp [results, Tryz.results107, go_sem, s0, s1, s2, s3, s4, s5]) rfl ⟨⟨_, HD.out.1, .inl ⟨m, j + 4, ?_, rfl, HO.out.2.1, ?_, ?_⟩⟩, HD.out.2.1⟩
        · rw [pAtom_nc H3.out.1 (by rw [List.drop_drop]; exact HO.out.1), if_pos (by rw [← hd_at, show k + (j + 3) = k + 3 + j by omega]; exact HZ.out)]
        · rw [show k + (j + 4) = k + 3 + j + 1 by omega]
          exact (HD.out.2.2 p (by omega) H2.out.pa.lt).trans H2.out.pa
        · have := hd_lt HZ.out; omega
    · have HZ := Lib.hid hz
      clear hz
      go_region_with (
        go_at_call 80
        refine (take_no p s ⟨#[41]⟩ (k + 3 + j) _ HO.out.2.2.2.drew.pa HO.out.2.2.1 HX.out.sz (by rw [hasPre_one]; exact decide_eq_false HZ.out)).mono ?_
        rintro e w2 ⟨rfl, hp2, hf2⟩
        have H2 := Lib.hid (HO.out.2.2.2.drew.go hp1 hf2 hp2)
        have HY := Lib.hid ((HW.out.2.1.bel ((Below.refl _ _).alloc (Nat.le_refl _) _)).fr (show Fr (fun q => q = p) (W.alloc (.cells #[.int .u8 ky, .slice say sy.length scy, .int .i64 mny, .int .i64 mxy, .bool lzy, .slice nay ly.length ncy] 27)) w2 from ⟨hf2.os, hf2.tape, hf2.output, hf2.size, hf2.block⟩) (fun b hb _ e => by omega))
        have hz2 : w2.heap[W.heap.size]? = some (.cells #[.int .u8 ky, .slice say sy.length scy, .int .i64 mny, .int .i64 mxy, .bool lzy, .slice nay ly.length ncy] 27 (0, 0)) := (hf2.block _ (by simp) (by omega)).trans e0
        have z0 := block_cell hz2 0 _ rfl
        have z1 := block_cell hz2 1 _ rfl
        have z2 := block_cell hz2 2 _ rfl
        have z3 := block_cell hz2 3 _ rfl
        have z4 := block_cell hz2 4 _ rfl
        have z5 := block_cell hz2 5 _ rfl
        have d0 := block_cell H2.out.res 0 _ rfl
        have d1 := block_cell H2.out.res 1 _ rfl
        have d2 := block_cell H2.out.res 2 _ rfl
        have d3 := block_cell H2.out.res 3 _ rfl
        have d4 := block_cell H2.out.res 4 _ rfl
        have d5 := block_cell H2.out.res 5 _ rfl
        have v0 := block_froz H2.out.res 0
        have v1 := block_froz H2.out.res 1
        have v2 := block_froz H2.out.res 2
        have v3 := block_froz H2.out.res 3
        have v4 := block_froz H2.out.res 4
        have v5 := block_froz H2.out.res 5
        clear hp2 hf2 hz2)
      all_goals
        go_wp2_with fail
        refine post_world ?_
        intro wE hwE
        have hD := six_done H2.out.res H2.out.fr HY.out hwE
        have s0 := block_cell hD.1 0 _ rfl
        have s1 := block_cell hD.1 1 _ rfl
        have s2 := block_cell hD.1 2 _ rfl
        have s3 := block_cell hD.1 3 _ rfl
        have s4 := block_cell hD.1 4 _ rfl
        have s5 := block_cell hD.1 5 _ rfl
        have HD := Lib.hid hD.2
        clear hD hwE d0 d1 d2 d3 d4 d5 v0 v1 v2 v3 v4 v5 z0 z1 z2 z3 z4 z5
        refine bodyPost_ret (v := .tuple #[.agg #[.int .u8 ky, .slice say sy.length scy, .int .i64 mny, .int .i64 mxy, .bool lzy, .slice nay ly.length ncy], .bool false]) (by simp [results, Tryz.results107, go_sem, s0, s1, s2, s3, s4, s5]) rfl ⟨⟨_, HD.out.1, .inr ⟨?_, rfl⟩⟩, HD.out.2.1⟩
        rw [pAtom_nc H3.out.1 (by rw [List.drop_drop]; exact HO.out.1), if_neg (by rw [← hd_at, show k + (j + 3) = k + 3 + j by omega]; exact HZ.out)]
  · replace he : e = .returned (.tuple #[.agg #[.int .u8 ky, .slice say sy.length scy, .int .i64 mny, .int .i64 mxy, .bool lzy, .slice nay ly.length ncy], .bool false]) := he
    subst he
    have HO := Lib.hid ho
    clear ho
    have d0 : ∀ o, (W.alloc o).cell? ⟨w.heap.size, 0, none⟩ = some (.int .u8 0) := fun o => block_cell (hra o) 0 _ rfl
    have d1 : ∀ o, (W.alloc o).cell? ⟨w.heap.size, 1, none⟩ = some (.slice none 0 0) := fun o => block_cell (hra o) 1 _ rfl
    have d2 : ∀ o, (W.alloc o).cell? ⟨w.heap.size, 2, none⟩ = some (.int .i64 0) := fun o => block_cell (hra o) 2 _ rfl
    have d3 : ∀ o, (W.alloc o).cell? ⟨w.heap.size, 3, none⟩ = some (.int .i64 0) := fun o => block_cell (hra o) 3 _ rfl
    have d4 : ∀ o, (W.alloc o).cell? ⟨w.heap.size, 4, none⟩ = some (.bool false) := fun o => block_cell (hra o) 4 _ rfl
    have d5 : ∀ o, (W.alloc o).cell? ⟨w.heap.size, 5, none⟩ = some (.slice none 0 0) := fun o => block_cell (hra o) 5 _ rfl
    have v0 : ∀ o, (W.alloc o).frozen? ⟨w.heap.size, 0, none⟩ = false := fun o => block_froz (hra o) 0
    have v1 : ∀ o, (W.alloc o).frozen? ⟨w.heap.size, 1, none⟩ = false := fun o => block_froz (hra o) 1
    have v2 : ∀ o, (W.alloc o).frozen? ⟨w.heap.size, 2, none⟩ = false := fun o => block_froz (hra o) 2
    have v3 : ∀ o, (W.alloc o).frozen? ⟨w.heap.size, 3, none⟩ = false := fun o => block_froz (hra o) 3
    have v4 : ∀ o, (W.alloc o).frozen? ⟨w.heap.size, 4, none⟩ = false := fun o => block_froz (hra o) 4
    have v5 : ∀ o, (W.alloc o).frozen? ⟨w.heap.size, 5, none⟩ = false := fun o => block_froz (hra o) 5
    clear hra
    go_wp2_with fail
    go_region
    go_wp2_with fail
    refine post_world ?_
    intro wE hwE
    have hD := six_doneD (HW.out.2.2 _) ((H1.out.fr.trans HW.out.1).trans (Fr.of_bel ((Below.refl _ _).alloc (Nat.le_refl _) _))) (HW.out.2.1.bel ((Below.refl _ _).alloc (Nat.le_refl _) _)) hwE
    have s0 := block_cell hD.1 0 _ rfl
    have s1 := block_cell hD.1 1 _ rfl
    have s2 := block_cell hD.1 2 _ rfl
    have s3 := block_cell hD.1 3 _ rfl
    have s4 := block_cell hD.1 4 _ rfl
    have s5 := block_cell hD.1 5 _ rfl
    have HD := Lib.hid hD.2
    clear hD hwE d0 d1 d2 d3 d4 d5 v0 v1 v2 v3 v4 v5
    refine bodyPost_ret (v := .tuple #[.agg #[.int .u8 ky, .slice say sy.length scy, .int .i64 mny, .int .i64 mxy, .bool lzy, .slice nay ly.length ncy], .bool false]) (by simp [results, Tryz.results107, go_sem, s0, s1, s2, s3, s4, s5]) rfl ⟨⟨_, HD.out.1, .inr ⟨pAtom_nc0 H3.out.1 (by rw [List.drop_drop]; exact HO.out), rfl⟩⟩, HD.out.2.1⟩
end Go.Proofs.YtimahlimmblgkaaGreatDoor.Sy
namespace Go.Proofs.YtimahlimmblgkaaGreatDoor.Sy
open Go Go.RowKit
/-- a node over one part that lies in a block of its own -/
theorem one_node {P : Nat → Prop} {wT : World} {b1 : Nat} {y : L} {T : TypeId} {k mn mx : Int} {lz : Bool} (hk : 0 ≤ k ∧ k ≤ 255) (hmn : i64 mn) (hmx : i64 mx) (hb : wT.heap[b1]? = some (.cells y.cs.toArray T (0, 0))) (hP : P b1) (hy : RdT P wT y) :
    RdT P wT (.mk k none 0 [] mn mx lz (some ⟨b1, 0, none⟩) 1 [y]) := by
  have hlt := (isT_of hb).lt
  refine RdT.node hk hmn hmx (fun _ => ⟨b1, 0, rfl, hlt, fun j u hu => ?_⟩) (by simp) (fun q e => by cases e; exact ⟨rfl, hlt⟩) (fun q e => by cases e; exact hP) (fun x hx => by rw [List.mem_singleton.1 hx]; exact hy)
  rw [Nat.zero_add]
  exact block_cell hb j u (by simpa [nFlat] using hu)
set_option maxRecDepth 100000 in
set_option maxHeartbeats 8000000 in
theorem atom_grp (w0 : World) (p : Nat) (s : ByteArray) (G k : Nat) (w : World) (hA : AltH w0 p s G) (hctx : Ctx w0 p s k w) (hG : 3 * (s.size - k) ≤ G) (h3 : (s.data.toList.drop k).take 3 ≠ [40, 63, 58]) (h1 : (s.data.toList.drop k).take 1 = [40]) :
    Calls Tryz.prog 107 #[.pointer (some ⟨p, 0, none⟩)] w (APost p s k (pAtom (G + 1) (s.data.toList.drop k)) w) := by
  have hk3 : k + 1 ≤ s.size := by
    have := congrArg List.length h1
    simp at this
    omega
  have c0 : w.cell? ⟨p, 0, none⟩ = some (.string s) := block_cell hctx.pa 0 _ rfl
  have c1 : w.cell? ⟨p, 1, none⟩ = some (.int .i64 (k : Int)) := block_cell hctx.pa 1 _ rfl
  have hle : k ≤ s.size := hctx.le
  have hp1 : p < w.heap.size := hctx.pa.lt
  have HP := Lib.hid (show Lib.hasPrefix (s.data.toList.drop k) [40, 63, 58] = false by rw [hasPre_take]; exact decide_eq_false h3)
  have HP1 := Lib.hid (show Lib.hasPrefix (s.data.toList.drop k) [40] = true by rw [hasPre_take]; exact decide_eq_true h1)
  have HA := Lib.hid hA
  have HX := Lib.hid hctx
  have H3 := Lib.hid (And.intro h3 (And.intro h1 hG))
  clear hA hctx h3 h1 hG
  go_enter Tryz.func107, Tryz.ntmps107
  go_wp2_with fail
  go_quiet (fail)
  go_wp2_with fail
  go_at_call 80
  refine (take_no p s ⟨#[40, 63, 58]⟩ k _ (((At.start HX.out.pa).drw hp1 _).pa) hle HX.out.sz HP.out).mono ?_
  rintro e w1 ⟨rfl, hp1', hf1⟩
  have H0 := Lib.hid (((At.start HX.out.pa).drw hp1 _).go hp1 hf1 hp1')
  clear hp1' hf1
  go_wp2_with fail
  go_at_call 80
  refine (take_yes p s ⟨#[40]⟩ k _ H0.out.pa hk3 HX.out.sz HP1.out).mono ?_
  rintro e w2 ⟨rfl, hp1', hf1⟩
  have H1 := Lib.hid (H0.out.go hp1 hf1 hp1')
  clear hp1' hf1
  go_wp2_with fail
  go_at_call 52
  refine (HA.out (k + 1) w2 (HX.out.fr H1.out.fr H1.out.pa hk3) (by have := H3.out.2.2; omega)).mono ?_
  rintro e W ⟨⟨y, hy, hcase⟩, hfW⟩
  have hra : ∀ o, (W.alloc o).heap[w.heap.size]? = some zeroN := fun o => ((((Below.refl W.heap.size W).alloc (Nat.le_refl _) o).block _ (Nat.lt_of_lt_of_le H1.out.lt hfW.size)).trans (hfW.block _ H1.out.lt (by omega))).trans H1.out.res
  have HW := Lib.hid (And.intro hfW (And.intro (H1.out.new hy) hra))
  clear hfW hy
  obtain ⟨ky, say, scy, sy, mny, mxy, lzy, nay, ncy, ly⟩ := y
  rcases hcase with ⟨m, j, ho, he, hym, hpa, hj⟩ | ⟨ho, he⟩
  · replace he : e = .returned (.tuple #[.agg #[.int .u8 ky, .slice say sy.length scy, .int .i64 mny, .int .i64 mxy, .bool lzy, .slice nay ly.length ncy], .bool true]) := he
    subst he
    have HO := Lib.hid (And.intro ho (And.intro hym (And.intro hj ((H1.out.go hp1 HW.out.1 hpa).al (.cells #[.int .u8 ky, .slice say sy.length scy, .int .i64 mny, .int .i64 mxy, .bool lzy, .slice nay ly.length ncy] 27)))))
    clear ho hym hpa hj hra
    go_wp2_with fail
    have e0 : (W.alloc (.cells #[.int .u8 ky, .slice say sy.length scy, .int .i64 mny, .int .i64 mxy, .bool lzy, .slice nay ly.length ncy] 27)).heap[W.heap.size]? = some (.cells #[.int .u8 ky, .slice say sy.length scy, .int .i64 mny, .int .i64 mxy, .bool lzy, .slice nay ly.length ncy] 27 (0, 0)) := heap_alloc_new W _
    have hWg : w.heap.size < W.heap.size := Nat.lt_of_lt_of_le H1.out.lt HW.out.1.size
    by_cases hz : (s.data.toList.drop (k + 1 + j)).head? = some 41
    · have HZ := Lib.hid hz
      clear hz
      go_region_with (
        go_at_call 80
        refine at_world ?_
        intro W5 hW5
        have hbW5 : Below (W.alloc (.cells #[.int .u8 ky, .slice say sy.length scy, .int .i64 mny, .int .i64 mxy, .bool lzy, .slice nay ly.length ncy] 27)).heap.size (W.alloc (.cells #[.int .u8 ky, .slice say sy.length scy, .int .i64 mny, .int .i64 mxy, .bool lzy, .slice nay ly.length ncy] 27)) W5 := by
          rw [hW5]
          repeat (first | (with_reducible exact Below.refl _ _) | (with_reducible refine Below.drew ?_) | (with_reducible refine Below.alloc ?_ (by first | exact Nat.le_refl _ | simp) _))
        have H5 : At w W5 p s (k + 1 + j) := HO.out.2.2.2.bel hbW5
        have e5 : W5.heap[W.heap.size]? = some (.cells #[.int .u8 ky, .slice say sy.length scy, .int .i64 mny, .int .i64 mxy, .bool lzy, .slice nay ly.length ncy] 27 (0, 0)) := (hbW5.block _ (by simp)).trans e0
        have y5 := (HW.out.2.1.bel ((Below.refl _ _).alloc (Nat.le_refl _) (.cells #[.int .u8 ky, .slice say sy.length scy, .int .i64 mny, .int .i64 mxy, .bool lzy, .slice nay ly.length ncy] 27))).bel hbW5
        refine (take_yes p s ⟨#[41]⟩ (k + 1 + j) W5 H5.pa (by have := hd_lt HZ.out; show k + 1 + j + 1 ≤ s.size; omega) HX.out.sz (by rw [hasPre_one]; exact decide_eq_true HZ.out)).mono ?_
        rintro e w5 ⟨rfl, hp5, hf5⟩
        have H6 := Lib.hid (H5.go hp1 hf5 hp5)
        have HF5 := Lib.hid hf5
        have HY := Lib.hid (y5.fr hf5 (fun b hb _ e => by omega))
        have HW5 := Lib.hid hW5
        have hz5 : w5.heap[W.heap.size]? = some (.cells #[.int .u8 ky, .slice say sy.length scy, .int .i64 mny, .int .i64 mxy, .bool lzy, .slice nay ly.length ncy] 27 (0, 0)) := (hf5.block _ (isT_of e5).lt (by omega)).trans e5
        have hr5 := H6.out.res
        have hra : ∀ o, (w5.alloc o).heap[w.heap.size]? = some zeroN := fun o => (H6.out.al o).res
        have z0 := block_cell hz5 0 _ rfl
        have z1 := block_cell hz5 1 _ rfl
        have z2 := block_cell hz5 2 _ rfl
        have z3 := block_cell hz5 3 _ rfl
        have z4 := block_cell hz5 4 _ rfl
        have z5 := block_cell hz5 5 _ rfl
        have d0 := block_cell hr5 0 _ rfl
        have d1 := block_cell hr5 1 _ rfl
        have d2 := block_cell hr5 2 _ rfl
        have d3 := block_cell hr5 3 _ rfl
        have d4 := block_cell hr5 4 _ rfl
        have d5 := block_cell hr5 5 _ rfl
        have v0 := block_froz hr5 0
        have v1 := block_froz hr5 1
        have v2 := block_froz hr5 2
        have v3 := block_froz hr5 3
        have v4 := block_froz hr5 4
        have v5 := block_froz hr5 5
        have dd0 : ∀ o, (w5.alloc o).cell? ⟨w.heap.size, 0, none⟩ = some (.int .u8 0) := fun o => block_cell (hra o) 0 _ rfl
        have dd1 : ∀ o, (w5.alloc o).cell? ⟨w.heap.size, 1, none⟩ = some (.slice none 0 0) := fun o => block_cell (hra o) 1 _ rfl
        have dd2 : ∀ o, (w5.alloc o).cell? ⟨w.heap.size, 2, none⟩ = some (.int .i64 0) := fun o => block_cell (hra o) 2 _ rfl
        have dd3 : ∀ o, (w5.alloc o).cell? ⟨w.heap.size, 3, none⟩ = some (.int .i64 0) := fun o => block_cell (hra o) 3 _ rfl
        have dd4 : ∀ o, (w5.alloc o).cell? ⟨w.heap.size, 4, none⟩ = some (.bool false) := fun o => block_cell (hra o) 4 _ rfl
        have dd5 : ∀ o, (w5.alloc o).cell? ⟨w.heap.size, 5, none⟩ = some (.slice none 0 0) := fun o => block_cell (hra o) 5 _ rfl
        have vv0 : ∀ o, (w5.alloc o).frozen? ⟨w.heap.size, 0, none⟩ = false := fun o => block_froz (hra o) 0
        have vv1 : ∀ o, (w5.alloc o).frozen? ⟨w.heap.size, 1, none⟩ = false := fun o => block_froz (hra o) 1
        have vv2 : ∀ o, (w5.alloc o).frozen? ⟨w.heap.size, 2, none⟩ = false := fun o => block_froz (hra o) 2
        have vv3 : ∀ o, (w5.alloc o).frozen? ⟨w.heap.size, 3, none⟩ = false := fun o => block_froz (hra o) 3
        have vv4 : ∀ o, (w5.alloc o).frozen? ⟨w.heap.size, 4, none⟩ = false := fun o => block_froz (hra o) 4
        have vv5 : ∀ o, (w5.alloc o).frozen? ⟨w.heap.size, 5, none⟩ = false := fun o => block_froz (hra o) 5
        clear hp5 hf5 hz5 hr5 hra H5 e5 hW5 y5 hbW5)
      all_goals (go_wp2_with fail)
      all_goals (refine post_world ?_)
      all_goals (intro wE hwE)
      · have hb1 : w5.heap[W.heap.size + 1]? = some (.cells #[.int .u8 ky, .slice say sy.length scy, .int .i64 mny, .int .i64 mxy, .bool lzy, .slice nay ly.length ncy] 27 (0, 0)) := by
          refine (HF5.out.block _ ?_ (by omega)).trans ?_
          · rw [HW5.out]; simp
          · rw [HW5.out]
            exact alloc_at _ (by simp) _
        have hD := six_done (wT := w5) (ly := [.mk ky say scy sy mny mxy lzy nay ncy ly]) (sy := []) H6.out.res H6.out.fr (one_node (b1 := W.heap.size + 1) (y := .mk ky say scy sy mny mxy lzy nay ncy ly) (T := 27) (by decide) ⟨by decide, by decide⟩ ⟨by decide, by decide⟩ (hb1) ⟨by omega, by omega⟩ HY.out) hwE
        have s0 : wE.cell? ⟨w.heap.size, 0, none⟩ = some (.int .u8 6) := block_cell hD.1 0 _ rfl
        have s1 : wE.cell? ⟨w.heap.size, 1, none⟩ = some (.slice none 0 0) := block_cell hD.1 1 _ rfl
        have s2 : wE.cell? ⟨w.heap.size, 2, none⟩ = some (.int .i64 0) := block_cell hD.1 2 _ rfl
        have s3 : wE.cell? ⟨w.heap.size, 3, none⟩ = some (.int .i64 0) := block_cell hD.1 3 _ rfl
        have s4 : wE.cell? ⟨w.heap.size, 4, none⟩ = some (.bool false) := block_cell hD.1 4 _ rfl
        have s5 : wE.cell? ⟨w.heap.size, 5, none⟩ = some (.slice (some ⟨W.heap.size + 1, 0, none⟩) 1 1) := block_cell hD.1 5 _ rfl
        have HD := Lib.hid hD.2
        clear hD hwE d0 d1 d2 d3 d4 d5 v0 v1 v2 v3 v4 v5 z0 z1 z2 z3 z4 z5 dd0 dd1 dd2 dd3 dd4 dd5 vv0 vv1 vv2 vv3 vv4 vv5
        refine bodyPost_ret (v := .tuple #[.agg #[.int .u8 6, .slice none 0 0, .int .i64 0, .int .i64 0, .bool false, .slice (some ⟨W.heap.size + 1, 0, none⟩) 1 1], .bool true]) (by simp [results, Tryz.results107, go_sem, s0, s1, s2, s3, s4, s5]) rfl ⟨⟨_, HD.out.1, .inl ⟨.mk 6 [] 0 0 false [m], j + 2, ?_, rfl, ?_, ?_, ?_⟩⟩, HD.out.2.1⟩
        · rw [pAtom_grp H3.out.1 H3.out.2.1 (by rw [List.drop_drop]; exact HO.out.1), if_pos (by rw [← hd_at, show k + (j + 1) = k + 1 + j by omega]; exact HZ.out)]
        · have := HO.out.2.1
          rw [← this]
          rfl
        · rw [show k + (j + 2) = k + 1 + j + 1 by omega]
          exact (HD.out.2.2 p (by omega) H6.out.pa.lt).trans H6.out.pa
        · have := hd_lt HZ.out; omega
      · have hD := six_done (wT := w5.alloc (.cells #[.int .u8 ky, .slice say sy.length scy, .int .i64 mny, .int .i64 mxy, .bool lzy, .slice nay ly.length ncy] 27)) (ly := [.mk ky say scy sy mny mxy lzy nay ncy ly]) (sy := []) (H6.out.al (.cells #[.int .u8 ky, .slice say sy.length scy, .int .i64 mny, .int .i64 mxy, .bool lzy, .slice nay ly.length ncy] 27)).res (H6.out.al (.cells #[.int .u8 ky, .slice say sy.length scy, .int .i64 mny, .int .i64 mxy, .bool lzy, .slice nay ly.length ncy] 27)).fr (one_node (b1 := w5.heap.size) (y := .mk ky say scy sy mny mxy lzy nay ncy ly) (T := 27) (by decide) ⟨by decide, by decide⟩ ⟨by decide, by decide⟩ (heap_alloc_new w5 _) ⟨by have := H6.out.lt; omega, by have := H6.out.lt; omega⟩ (HY.out.bel ((Below.refl _ _).alloc (Nat.le_refl _) _))) hwE
        have s0 : wE.cell? ⟨w.heap.size, 0, none⟩ = some (.int .u8 6) := block_cell hD.1 0 _ rfl
        have s1 : wE.cell? ⟨w.heap.size, 1, none⟩ = some (.slice none 0 0) := block_cell hD.1 1 _ rfl
        have s2 : wE.cell? ⟨w.heap.size, 2, none⟩ = some (.int .i64 0) := block_cell hD.1 2 _ rfl
        have s3 : wE.cell? ⟨w.heap.size, 3, none⟩ = some (.int .i64 0) := block_cell hD.1 3 _ rfl
        have s4 : wE.cell? ⟨w.heap.size, 4, none⟩ = some (.bool false) := block_cell hD.1 4 _ rfl
        have s5 : wE.cell? ⟨w.heap.size, 5, none⟩ = some (.slice (some ⟨w5.heap.size, 0, none⟩) 1 1) := block_cell hD.1 5 _ rfl
        have HD := Lib.hid hD.2
        clear hD hwE d0 d1 d2 d3 d4 d5 v0 v1 v2 v3 v4 v5 z0 z1 z2 z3 z4 z5 dd0 dd1 dd2 dd3 dd4 dd5 vv0 vv1 vv2 vv3 vv4 vv5
        refine bodyPost_ret (v := .tuple #[.agg #[.int .u8 6, .slice none 0 0, .int .i64 0, .int .i64 0, .bool false, .slice (some ⟨w5.heap.size, 0, none⟩) 1 1], .bool true]) (by simp [results, Tryz.results107, go_sem, s0, s1, s2, s3, s4, s5]) rfl ⟨⟨_, HD.out.1, .inl ⟨.mk 6 [] 0 0 false [m], j + 2, ?_, rfl, ?_, ?_, ?_⟩⟩, HD.out.2.1⟩
        · rw [pAtom_grp H3.out.1 H3.out.2.1 (by rw [List.drop_drop]; exact HO.out.1), if_pos (by rw [← hd_at, show k + (j + 1) = k + 1 + j by omega]; exact HZ.out)]
        · have := HO.out.2.1
          rw [← this]
          rfl
        · rw [show k + (j + 2) = k + 1 + j + 1 by omega]
          exact (HD.out.2.2 p (by omega) (H6.out.al (.cells #[.int .u8 ky, .slice say sy.length scy, .int .i64 mny, .int .i64 mxy, .bool lzy, .slice nay ly.length ncy] 27)).pa.lt).trans (H6.out.al (.cells #[.int .u8 ky, .slice say sy.length scy, .int .i64 mny, .int .i64 mxy, .bool lzy, .slice nay ly.length ncy] 27)).pa
        · have := hd_lt HZ.out; omega
      · have hD := six_done (wT := w5.alloc (.cells #[.int .u8 ky, .slice say sy.length scy, .int .i64 mny, .int .i64 mxy, .bool lzy, .slice nay ly.length ncy] 27)) (ly := [.mk ky say scy sy mny mxy lzy nay ncy ly]) (sy := []) (H6.out.al (.cells #[.int .u8 ky, .slice say sy.length scy, .int .i64 mny, .int .i64 mxy, .bool lzy, .slice nay ly.length ncy] 27)).res (H6.out.al (.cells #[.int .u8 ky, .slice say sy.length scy, .int .i64 mny, .int .i64 mxy, .bool lzy, .slice nay ly.length ncy] 27)).fr (one_node (b1 := w5.heap.size) (y := .mk ky say scy sy mny mxy lzy nay ncy ly) (T := 27) (by decide) ⟨by decide, by decide⟩ ⟨by decide, by decide⟩ (heap_alloc_new w5 _) ⟨by have := H6.out.lt; omega, by have := H6.out.lt; omega⟩ (HY.out.bel ((Below.refl _ _).alloc (Nat.le_refl _) _))) hwE
        have s0 : wE.cell? ⟨w.heap.size, 0, none⟩ = some (.int .u8 6) := block_cell hD.1 0 _ rfl
        have s1 : wE.cell? ⟨w.heap.size, 1, none⟩ = some (.slice none 0 0) := block_cell hD.1 1 _ rfl
        have s2 : wE.cell? ⟨w.heap.size, 2, none⟩ = some (.int .i64 0) := block_cell hD.1 2 _ rfl
        have s3 : wE.cell? ⟨w.heap.size, 3, none⟩ = some (.int .i64 0) := block_cell hD.1 3 _ rfl
        have s4 : wE.cell? ⟨w.heap.size, 4, none⟩ = some (.bool false) := block_cell hD.1 4 _ rfl
        have s5 : wE.cell? ⟨w.heap.size, 5, none⟩ = some (.slice (some ⟨w5.heap.size, 0, none⟩) 1 1) := block_cell hD.1 5 _ rfl
        have HD := Lib.hid hD.2
        clear hD hwE d0 d1 d2 d3 d4 d5 v0 v1 v2 v3 v4 v5 z0 z1 z2 z3 z4 z5 dd0 dd1 dd2 dd3 dd4 dd5 vv0 vv1 vv2 vv3 vv4 vv5
        refine bodyPost_ret (v := .tuple #[.agg #[.int .u8 6, .slice none 0 0, .int .i64 0, .int .i64 0, .bool false, .slice (some ⟨w5.heap.size, 0, none⟩) 1 1], .bool true]) (by simp [results, Tryz.results107, go_sem, s0, s1, s2, s3, s4, s5]) rfl ⟨⟨_, HD.out.1, .inl ⟨.mk 6 [] 0 0 false [m], j + 2, ?_, rfl, ?_, ?_, ?_⟩⟩, HD.out.2.1⟩
        · rw [pAtom_grp H3.out.1 H3.out.2.1 (by rw [List.drop_drop]; exact HO.out.1), if_pos (by rw [← hd_at, show k + (j + 1) = k + 1 + j by omega]; exact HZ.out)]
        · have := HO.out.2.1
          rw [← this]
          rfl
        · rw [show k + (j + 2) = k + 1 + j + 1 by omega]
          exact (HD.out.2.2 p (by omega) (H6.out.al (.cells #[.int .u8 ky, .slice say sy.length scy, .int .i64 mny, .int .i64 mxy, .bool lzy, .slice nay ly.length ncy] 27)).pa.lt).trans (H6.out.al (.cells #[.int .u8 ky, .slice say sy.length scy, .int .i64 mny, .int .i64 mxy, .bool lzy, .slice nay ly.length ncy] 27)).pa
        · have := hd_lt HZ.out; omega
    · have HZ := Lib.hid hz
      clear hz
      go_region_with (
        go_at_call 80
        refine at_world ?_
        intro W5 hW5
        have hbW5 : Below (W.alloc (.cells #[.int .u8 ky, .slice say sy.length scy, .int .i64 mny, .int .i64 mxy, .bool lzy, .slice nay ly.length ncy] 27)).heap.size (W.alloc (.cells #[.int .u8 ky, .slice say sy.length scy, .int .i64 mny, .int .i64 mxy, .bool lzy, .slice nay ly.length ncy] 27)) W5 := by
          rw [hW5]
          repeat (first | (with_reducible exact Below.refl _ _) | (with_reducible refine Below.drew ?_) | (with_reducible refine Below.alloc ?_ (by first | exact Nat.le_refl _ | simp) _))
        have H5 : At w W5 p s (k + 1 + j) := HO.out.2.2.2.bel hbW5
        have e5 : W5.heap[W.heap.size]? = some (.cells #[.int .u8 ky, .slice say sy.length scy, .int .i64 mny, .int .i64 mxy, .bool lzy, .slice nay ly.length ncy] 27 (0, 0)) := (hbW5.block _ (by simp)).trans e0
        have y5 := (HW.out.2.1.bel ((Below.refl _ _).alloc (Nat.le_refl _) (.cells #[.int .u8 ky, .slice say sy.length scy, .int .i64 mny, .int .i64 mxy, .bool lzy, .slice nay ly.length ncy] 27))).bel hbW5
        refine (take_no p s ⟨#[41]⟩ (k + 1 + j) W5 H5.pa HO.out.2.2.1 HX.out.sz (by rw [hasPre_one]; exact decide_eq_false HZ.out)).mono ?_
        rintro e w5 ⟨rfl, hp5, hf5⟩
        have H6 := Lib.hid (H5.go hp1 hf5 hp5)
        have HF5 := Lib.hid hf5
        have HY := Lib.hid (y5.fr hf5 (fun b hb _ e => by omega))
        have HW5 := Lib.hid hW5
        have hz5 : w5.heap[W.heap.size]? = some (.cells #[.int .u8 ky, .slice say sy.length scy, .int .i64 mny, .int .i64 mxy, .bool lzy, .slice nay ly.length ncy] 27 (0, 0)) := (hf5.block _ (isT_of e5).lt (by omega)).trans e5
        have hr5 := H6.out.res
        have hra : ∀ o, (w5.alloc o).heap[w.heap.size]? = some zeroN := fun o => (H6.out.al o).res
        have z0 := block_cell hz5 0 _ rfl
        have z1 := block_cell hz5 1 _ rfl
        have z2 := block_cell hz5 2 _ rfl
        have z3 := block_cell hz5 3 _ rfl
        have z4 := block_cell hz5 4 _ rfl
        have z5 := block_cell hz5 5 _ rfl
        have d0 := block_cell hr5 0 _ rfl
        have d1 := block_cell hr5 1 _ rfl
        have d2 := block_cell hr5 2 _ rfl
        have d3 := block_cell hr5 3 _ rfl
        have d4 := block_cell hr5 4 _ rfl
        have d5 := block_cell hr5 5 _ rfl
        have v0 := block_froz hr5 0
        have v1 := block_froz hr5 1
        have v2 := block_froz hr5 2
        have v3 := block_froz hr5 3
        have v4 := block_froz hr5 4
        have v5 := block_froz hr5 5
        have dd0 : ∀ o, (w5.alloc o).cell? ⟨w.heap.size, 0, none⟩ = some (.int .u8 0) := fun o => block_cell (hra o) 0 _ rfl
        have dd1 : ∀ o, (w5.alloc o).cell? ⟨w.heap.size, 1, none⟩ = some (.slice none 0 0) := fun o => block_cell (hra o) 1 _ rfl
        have dd2 : ∀ o, (w5.alloc o).cell? ⟨w.heap.size, 2, none⟩ = some (.int .i64 0) := fun o => block_cell (hra o) 2 _ rfl
        have dd3 : ∀ o, (w5.alloc o).cell? ⟨w.heap.size, 3, none⟩ = some (.int .i64 0) := fun o => block_cell (hra o) 3 _ rfl
        have dd4 : ∀ o, (w5.alloc o).cell? ⟨w.heap.size, 4, none⟩ = some (.bool false) := fun o => block_cell (hra o) 4 _ rfl
        have dd5 : ∀ o, (w5.alloc o).cell? ⟨w.heap.size, 5, none⟩ = some (.slice none 0 0) := fun o => block_cell (hra o) 5 _ rfl
        have vv0 : ∀ o, (w5.alloc o).frozen? ⟨w.heap.size, 0, none⟩ = false := fun o => block_froz (hra o) 0
        have vv1 : ∀ o, (w5.alloc o).frozen? ⟨w.heap.size, 1, none⟩ = false := fun o => block_froz (hra o) 1
        have vv2 : ∀ o, (w5.alloc o).frozen? ⟨w.heap.size, 2, none⟩ = false := fun o => block_froz (hra o) 2
        have vv3 : ∀ o, (w5.alloc o).frozen? ⟨w.heap.size, 3, none⟩ = false := fun o => block_froz (hra o) 3
        have vv4 : ∀ o, (w5.alloc o).frozen? ⟨w.heap.size, 4, none⟩ = false := fun o => block_froz (hra o) 4
        have vv5 : ∀ o, (w5.alloc o).frozen? ⟨w.heap.size, 5, none⟩ = false := fun o => block_froz (hra o) 5
        clear hp5 hf5 hz5 hr5 hra H5 e5 hW5 y5 hbW5)
      all_goals (go_wp2_with fail)
      all_goals (refine post_world ?_)
      all_goals (intro wE hwE)
      · have hb1 : w5.heap[W.heap.size + 1]? = some (.cells #[.int .u8 ky, .slice say sy.length scy, .int .i64 mny, .int .i64 mxy, .bool lzy, .slice nay ly.length ncy] 27 (0, 0)) := by
          refine (HF5.out.block _ ?_ (by omega)).trans ?_
          · rw [HW5.out]; simp
          · rw [HW5.out]
            exact alloc_at _ (by simp) _
        have hD := six_done (wT := w5) (ly := [.mk ky say scy sy mny mxy lzy nay ncy ly]) (sy := []) H6.out.res H6.out.fr (one_node (b1 := W.heap.size + 1) (y := .mk ky say scy sy mny mxy lzy nay ncy ly) (T := 27) (by decide) ⟨by decide, by decide⟩ ⟨by decide, by decide⟩ (hb1) ⟨by omega, by omega⟩ HY.out) hwE
        have s0 : wE.cell? ⟨w.heap.size, 0, none⟩ = some (.int .u8 6) := block_cell hD.1 0 _ rfl
        have s1 : wE.cell? ⟨w.heap.size, 1, none⟩ = some (.slice none 0 0) := block_cell hD.1 1 _ rfl
        have s2 : wE.cell? ⟨w.heap.size, 2, none⟩ = some (.int .i64 0) := block_cell hD.1 2 _ rfl
        have s3 : wE.cell? ⟨w.heap.size, 3, none⟩ = some (.int .i64 0) := block_cell hD.1 3 _ rfl
        have s4 : wE.cell? ⟨w.heap.size, 4, none⟩ = some (.bool false) := block_cell hD.1 4 _ rfl
        have s5 : wE.cell? ⟨w.heap.size, 5, none⟩ = some (.slice (some ⟨W.heap.size + 1, 0, none⟩) 1 1) := block_cell hD.1 5 _ rfl
        have HD := Lib.hid hD.2
        clear hD hwE d0 d1 d2 d3 d4 d5 v0 v1 v2 v3 v4 v5 z0 z1 z2 z3 z4 z5 dd0 dd1 dd2 dd3 dd4 dd5 vv0 vv1 vv2 vv3 vv4 vv5
        refine bodyPost_ret (v := .tuple #[.agg #[.int .u8 6, .slice none 0 0, .int .i64 0, .int .i64 0, .bool false, .slice (some ⟨W.heap.size + 1, 0, none⟩) 1 1], .bool false]) (by simp [results, Tryz.results107, go_sem, s0, s1, s2, s3, s4, s5]) rfl ⟨⟨_, HD.out.1, .inr ⟨?_, rfl⟩⟩, HD.out.2.1⟩
        rw [pAtom_grp H3.out.1 H3.out.2.1 (by rw [List.drop_drop]; exact HO.out.1), if_neg (by rw [← hd_at, show k + (j + 1) = k + 1 + j by omega]; exact HZ.out)]
      · have hD := six_done (wT := w5.alloc (.cells #[.int .u8 ky, .slice say sy.length scy, .int .i64 mny, .int .i64 mxy, .bool lzy, .slice nay ly.length ncy] 27)) (ly := [.mk ky say scy sy mny mxy lzy nay ncy ly]) (sy := []) (H6.out.al (.cells #[.int .u8 ky, .slice say sy.length scy, .int .i64 mny, .int .i64 mxy, .bool lzy, .slice nay ly.length ncy] 27)).res (H6.out.al (.cells #[.int .u8 ky, .slice say sy.length scy, .int .i64 mny, .int .i64 mxy, .bool lzy, .slice nay ly.length ncy] 27)).fr (one_node (b1 := w5.heap.size) (y := .mk ky say scy sy mny mxy lzy nay ncy ly) (T := 27) (by decide) ⟨by decide, by decide⟩ ⟨by decide, by decide⟩ (heap_alloc_new w5 _) ⟨by have := H6.out.lt; omega, by have := H6.out.lt; omega⟩ (HY.out.bel ((Below.refl _ _).alloc (Nat.le_refl _) _))) hwE
        have s0 : wE.cell? ⟨w.heap.size, 0, none⟩ = some (.int .u8 6) := block_cell hD.1 0 _ rfl
        have s1 : wE.cell? ⟨w.heap.size, 1, none⟩ = some (.slice none 0 0) := block_cell hD.1 1 _ rfl
        have s2 : wE.cell? ⟨w.heap.size, 2, none⟩ = some (.int .i64 0) := block_cell hD.1 2 _ rfl
        have s3 : wE.cell? ⟨w.heap.size, 3, none⟩ = some (.int .i64 0) := block_cell hD.1 3 _ rfl
        have s4 : wE.cell? ⟨w.heap.size, 4, none⟩ = some (.bool false) := block_cell hD.1 4 _ rfl
        have s5 : wE.cell? ⟨w.heap.size, 5, none⟩ = some (.slice (some ⟨w5.heap.size, 0, none⟩) 1 1) := block_cell hD.1 5 _ rfl
        have HD := Lib.hid hD.2
        clear hD hwE d0 d1 d2 d3 d4 d5 v0 v1 v2 v3 v4 v5 z0 z1 z2 z3 z4 z5 dd0 dd1 dd2 dd3 dd4 dd5 vv0 vv1 vv2 vv3 vv4 vv5
        refine bodyPost_ret (v := .tuple #[.agg #[.int .u8 6, .slice none 0 0, .int .i64 0, .int .i64 0, .bool false, .slice (some ⟨w5.heap.size, 0, none⟩) 1 1], .bool false]) (by simp [results, Tryz.results107, go_sem, s0, s1, s2, s3, s4, s5]) rfl ⟨⟨_, HD.out.1, .inr ⟨?_, rfl⟩⟩, HD.out.2.1⟩
        rw [pAtom_grp H3.out.1 H3.out.2.1 (by rw [List.drop_drop]; exact HO.out.1), if_neg (by rw [← hd_at, show k + (j + 1) = k + 1 + j by omega]; exact HZ.out)]
      · have hD := six_done (wT := w5.alloc (.cells #[.int .u8 ky, .slice say sy.length scy, .int .i64 mny, .int .i64 mxy, .bool lzy, .slice nay ly.length ncy] 27)) (ly := [.mk ky say scy sy mny mxy lzy nay ncy ly]) (sy := []) (H6.out.al (.cells #[.int .u8 ky, .slice say sy.length scy, .int .i64 mny, .int .i64 mxy, .bool lzy, .slice nay ly.length ncy] 27)).res (H6.out.al (.cells #[.int .u8 ky, .slice say sy.length scy, .int .i64 mny, .int .i64 mxy, .bool lzy, .slice nay ly.length ncy] 27)).fr (one_node (b1 := w5.heap.size) (y := .mk ky say scy sy mny mxy lzy nay ncy ly) (T := 27) (by decide) ⟨by decide, by decide⟩ ⟨by decide, by decide⟩ (heap_alloc_new w5 _) ⟨by have := H6.out.lt; omega, by have := H6.out.lt; omega⟩ (HY.out.bel ((Below.refl _ _).alloc (Nat.le_refl _) _))) hwE
        have s0 : wE.cell? ⟨w.heap.size, 0, none⟩ = some (.int .u8 6) := block_cell hD.1 0 _ rfl
        have s1 : wE.cell? ⟨w.heap.size, 1, none⟩ = some (.slice none 0 0) := block_cell hD.1 1 _ rfl
        have s2 : wE.cell? ⟨w.heap.size, 2, none⟩ = some (.int .i64 0) := block_cell hD.1 2 _ rfl
        have s3 : wE.cell? ⟨w.heap.size, 3, none⟩ = some (.int .i64 0) := block_cell hD.1 3 _ rfl
        have s4 : wE.cell? ⟨w.heap.size, 4, none⟩ = some (.bool false) := block_cell hD.1 4 _ rfl
        have s5 : wE.cell? ⟨w.heap.size, 5, none⟩ = some (.slice (some ⟨w5.heap.size, 0, none⟩) 1 1) := block_cell hD.1 5 _ rfl
        have HD := Lib.hid hD.2
        clear hD hwE d0 d1 d2 d3 d4 d5 v0 v1 v2 v3 v4 v5 z0 z1 z2 z3 z4 z5 dd0 dd1 dd2 dd3 dd4 dd5 vv0 vv1 vv2 vv3 vv4 vv5
        refine bodyPost_ret (v := .tuple #[.agg #[.int .u8 6, .slice none 0 0, .int .i64 0, .int .i64 0, .bool false, .slice (some ⟨w5.heap.size, 0, none⟩) 1 1], .bool false]) (by simp [results, Tryz.results107, go_sem, s0, s1, s2, s3, s4, s5]) rfl ⟨⟨_, HD.out.1, .inr ⟨?_, rfl⟩⟩, HD.out.2.1⟩
        rw [pAtom_grp H3.out.1 H3.out.2.1 (by rw [List.drop_drop]; exact HO.out.1), if_neg (by rw [← hd_at, show k + (j + 1) = k + 1 + j by omega]; exact HZ.out)]
  · replace he : e = .returned (.tuple #[.agg #[.int .u8 ky, .slice say sy.length scy, .int .i64 mny, .int .i64 mxy, .bool lzy, .slice nay ly.length ncy], .bool false]) := he
    subst he
    have HO := Lib.hid ho
    clear ho
    have e0 : (W.alloc (.cells #[.int .u8 ky, .slice say sy.length scy, .int .i64 mny, .int .i64 mxy, .bool lzy, .slice nay ly.length ncy] 27)).heap[W.heap.size]? = some (.cells #[.int .u8 ky, .slice say sy.length scy, .int .i64 mny, .int .i64 mxy, .bool lzy, .slice nay ly.length ncy] 27 (0, 0)) := heap_alloc_new W _
    clear hra
    have hWg : w.heap.size < W.heap.size := Nat.lt_of_lt_of_le H1.out.lt HW.out.1.size
    have hrW : W.heap[w.heap.size]? = some zeroN := (HW.out.1.block _ H1.out.lt (by omega)).trans H1.out.res
    have d0 := block_cell hrW 0 _ rfl
    have d1 := block_cell hrW 1 _ rfl
    have d2 := block_cell hrW 2 _ rfl
    have d3 := block_cell hrW 3 _ rfl
    have d4 := block_cell hrW 4 _ rfl
    have d5 := block_cell hrW 5 _ rfl
    have v0 := block_froz hrW 0
    have v1 := block_froz hrW 1
    have v2 := block_froz hrW 2
    have v3 := block_froz hrW 3
    have v4 := block_froz hrW 4
    have v5 := block_froz hrW 5
    have hrW := Lib.hid hrW
    go_wp2_with fail
    go_region
    go_wp2_with fail
    refine post_world ?_
    intro wE hwE
    obtain ⟨wF, hF⟩ : ∃ q, q = ((((((W.setCell ⟨w.heap.size, 0, none⟩ (.int .u8 6)).setCell ⟨w.heap.size, 1, none⟩ (.slice none 0 0)).setCell ⟨w.heap.size, 2, none⟩ (.int .i64 0)).setCell ⟨w.heap.size, 3, none⟩ (.int .i64 0)).setCell ⟨w.heap.size, 4, none⟩ (.bool false)).setCell ⟨w.heap.size, 5, none⟩ (.slice (some ⟨W.heap.size + 1, 0, none⟩) 1 1)) := ⟨_, rfl⟩
    rw [← hF] at hwE
    have hfF : Fr (fun k => k = w.heap.size) W wF := by rw [hF]; exact six_fr
    have hsF : wF.heap.size = W.heap.size := by rw [hF]; simp
    have hcF := six_cells (w5 := W) (g := w.heap.size) (u0 := .int .u8 6) (u1 := .slice none 0 0) (u2 := .int .i64 0) (u3 := .int .i64 0) (u4 := .bool false) (u5 := .slice (some ⟨W.heap.size + 1, 0, none⟩) 1 1) hrW.out
    rw [← hF] at hcF
    have hbE : Below wF.heap.size wF wE := by
      rw [hwE]
      exact (((Below.refl _ _).alloc (Nat.le_refl _) _).alloc (by simp) _).drew
    have hE : wE.heap[w.heap.size]? = _ := (hbE.block _ (by rw [hsF]; exact hWg)).trans hcF
    have hb1 : wE.heap[W.heap.size + 1]? = some (.cells #[.int .u8 ky, .slice say sy.length scy, .int .i64 mny, .int .i64 mxy, .bool lzy, .slice nay ly.length ncy] 27 (0, 0)) := by
      rw [hwE]
      exact alloc_at _ (by simp [hsF]) _
    have hyE := (HW.out.2.1.fr hfF (fun b hb _ => hb.2)).bel hbE
    have hnode := (one_node (b1 := W.heap.size + 1) (y := .mk ky say scy sy mny mxy lzy nay ncy ly) (T := 27) (k := 6) (mn := 0) (mx := 0) (lz := false) (by decide) ⟨by decide, by decide⟩ ⟨by decide, by decide⟩ hb1 ⟨by omega, by omega⟩ hyE).mono (fun b hb _ => hb.1)
    have hfrE : Fr (fun q => q = p) w wE := ((((H1.out.fr.trans HW.out.1).mono (Y := fun q => q = p ∨ q = w.heap.size) (fun _ _ e => .inl e)).trans (hfF.mono (fun _ _ e => .inr e))).trans (Fr.of_bel hbE)).mono (fun k hk e => by
      rcases e with e | e
      · exact e
      · omega)
    have s0 : wE.cell? ⟨w.heap.size, 0, none⟩ = some (.int .u8 6) := block_cell hE 0 _ rfl
    have s1 : wE.cell? ⟨w.heap.size, 1, none⟩ = some (.slice none 0 0) := block_cell hE 1 _ rfl
    have s2 : wE.cell? ⟨w.heap.size, 2, none⟩ = some (.int .i64 0) := block_cell hE 2 _ rfl
    have s3 : wE.cell? ⟨w.heap.size, 3, none⟩ = some (.int .i64 0) := block_cell hE 3 _ rfl
    have s4 : wE.cell? ⟨w.heap.size, 4, none⟩ = some (.bool false) := block_cell hE 4 _ rfl
    have s5 : wE.cell? ⟨w.heap.size, 5, none⟩ = some (.slice (some ⟨W.heap.size + 1, 0, none⟩) 1 1) := block_cell hE 5 _ rfl
    have HD := Lib.hid (And.intro hnode hfrE)
    clear hF hwE hfF hsF hcF hbE hE hb1 hyE hnode hfrE d0 d1 d2 d3 d4 d5 v0 v1 v2 v3 v4 v5
    refine bodyPost_ret (v := .tuple #[.agg #[.int .u8 6, .slice none 0 0, .int .i64 0, .int .i64 0, .bool false, .slice (some ⟨W.heap.size + 1, 0, none⟩) 1 1], .bool false]) (by simp [results, Tryz.results107, go_sem, s0, s1, s2, s3, s4, s5]) rfl ⟨⟨_, HD.out.1, .inr ⟨pAtom_grp0 H3.out.1 H3.out.2.1 (by rw [List.drop_drop]; exact HO.out), rfl⟩⟩, HD.out.2⟩
end Go.Proofs.YtimahlimmblgkaaGreatDoor.Sy
