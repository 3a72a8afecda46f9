/- Chapter 38: the reference's Read: its walk. -/
import Derived.Test.YtggfehppompcjaaGreatDoorKRw
import Derived.Deep.RegionHeldLaw
namespace Go.Proofs.YtggfehppompcjaaGreatDoor.Sk
open Go Go.RowKit
theorem labZ_right {l : List Lab} (h : labRight l = true) : l.length ≤ 1000000000 ∧ LabZ l := by
  obtain ⟨h1, h2⟩ := labRight_ok h
  refine ⟨by omega, fun x hx => ?_⟩
  have := h2 x hx
  simp at this
  omega
theorem noText_bad {s : B} {K : B} {en : Ent} (hp : ∀ k e, itemRight k e = true → EntIn e → textR k e = s → K = k ∧ en = e) (h : ¬ (itemRight K en = true ∧ textR K en = s)) : NoText s := by
  intro k e hr hi he
  obtain ⟨h1, h2⟩ := hp k e hr hi he
  subst h1; subst h2
  exact h ⟨hr, he⟩
theorem sets7 {B : Nat} {w W : World} (h : Below B w W) (x0 x1 x2 x3 x4 x5 x6 : Value) :
    Below B w (((((((W.setCell ⟨B, 0, none⟩ x0).setCell ⟨B, 1, none⟩ x1).setCell ⟨B, 2, none⟩ x2).setCell ⟨B, 3, none⟩ x3).setCell ⟨B, 4, none⟩ x4).setCell ⟨B, 5, none⟩ x5).setCell ⟨B, 6, none⟩ x6) :=
  ((((((h.setCell (Nat.le_refl _) x0).setCell (Nat.le_refl _) x1).setCell (Nat.le_refl _) x2).setCell (Nat.le_refl _) x3).setCell (Nat.le_refl _) x4).setCell (Nat.le_refl _) x5).setCell (Nat.le_refl _) x6
theorem ll7 {W : World} {R : Nat} {a : Option Addr} {c : Nat} {l : List Lab} (h : Ll W a c l) (hR : isT W R 71) (x0 x1 x2 x3 x4 x5 x6 : Value) :
    Ll (((((((W.setCell ⟨R, 0, none⟩ x0).setCell ⟨R, 1, none⟩ x1).setCell ⟨R, 2, none⟩ x2).setCell ⟨R, 3, none⟩ x3).setCell ⟨R, 4, none⟩ x4).setCell ⟨R, 5, none⟩ x5).setCell ⟨R, 6, none⟩ x6) a c l :=
  h.fr (X := fun k => k = R) (Fr.setCell (p := ⟨R, 6, none⟩) (Fr.setCell (p := ⟨R, 5, none⟩) (Fr.setCell (p := ⟨R, 4, none⟩) (Fr.setCell (p := ⟨R, 3, none⟩) (Fr.setCell (p := ⟨R, 2, none⟩) (Fr.setCell (p := ⟨R, 1, none⟩) (Fr.setCell (p := ⟨R, 0, none⟩) (Fr.refl (fun k => k = R) W) rfl x0) rfl x1) rfl x2) rfl x3) rfl x4) rfl x5) rfl x6)
    (fun b hb e => hb.ne hR (by decide) e)
theorem q_size {s : ByteArray} {Q : List ByteArray} (hQ : Q.map d = cutAt 32 (d s)) : ∀ y ∈ Q, y.size ≤ s.size := fun y hy => by
  have h1 := cutAt_le 32 (d s) (d y) (by rw [← hQ]; exact List.mem_map_of_mem hy)
  have h2 : (d y).length = y.size := by simp
  have h3 : (d s).length = s.size := by simp
  omega
/-- where Read stands: the result's cells, the pieces -/
structure RrSt (w : World) (g : Nat) (Q : List ByteArray) (wx : World) : Prop where
  r : wx.heap[w.heap.size]? = some (.cells zeroCells 71 (0, 0))
  lt : g < wx.heap.size
  p : ∀ (j : Nat) y, Q[j]? = some y → wx.cell? ⟨g, j, none⟩ = some (.string y)
  bel : Below w.heap.size w wx
theorem RrSt.below {w wx w' : World} {g : Nat} {Q : List ByteArray} (h : RrSt w g Q wx) (hb : Below wx.heap.size wx w') : RrSt w g Q w' :=
  ⟨(hb.block _ (isT_of h.r).lt).trans h.r, Nat.lt_of_lt_of_le h.lt hb.size, fun j y hy => (hb.cell (p := ⟨g, j, none⟩) h.lt).trans (h.p j y hy), Bthen h.bel hb⟩
theorem RrSt.set {w wx : World} {g : Nat} {Q : List ByteArray} (h : RrSt w g Q wx) {x : Nat} (h1 : w.heap.size < x) (h2 : g < x) (o : Nat) (v : Value) : RrSt w g Q (wx.setCell ⟨x, o, none⟩ v) :=
  have hf : Fr (fun k => k = x) wx (wx.setCell ⟨x, o, none⟩ v) := Fr.setCell (p := ⟨x, o, none⟩) (Fr.refl (fun k => k = x) wx) rfl v
  ⟨(hf.block _ (isT_of h.r).lt (Nat.ne_of_lt h1)).trans h.r, Nat.lt_of_lt_of_le h.lt hf.size, fun j y hy => (hf.cell h.lt (Nat.ne_of_lt h2)).trans (h.p j y hy), h.bel.setCell (p := ⟨x, o, none⟩) (Nat.le_of_lt h1) v⟩
theorem ll1 {W : World} {R : Nat} {a : Option Addr} {c : Nat} {l : List Lab} (h : Ll W a c l) (hR : isT W R 71) (o : Nat) (v : Value) :
    Ll (W.setCell ⟨R, o, none⟩ v) a c l :=
  h.fr (X := fun k => k = R) (Fr.setCell (p := ⟨R, o, none⟩) (Fr.refl (fun k => k = R) W) rfl v) (fun b hb e => hb.ne hR (by decide) e)
theorem bitW_lt : ∀ (s : B) (n : Nat), n < 18446744073709551616 → bitW n s < 18446744073709551616
  | [], n, h => by rw [bitW_nil]; exact h
  | c :: s, n, h => by
    have h1 := bitW_lt s (bitS n c) (bitS_lt n c)
    unfold bitW at h1 ⊢
    rw [List.foldl_cons]
    exact h1
/-- the item's block, its labels, Read's own cells -/
structure RxSt (w : World) (g : Nat) (Q : List ByteArray) (gx : Nat) (a : Option Addr) (c : Nat) (L : List Lab) (wx : World) (cs : Array Value) : Prop where
  h1 : RrSt w g Q wx
  h2 : wx.heap[gx]? = some (.cells cs 71 (0, 0))
  h3 : Ll wx a c L
theorem RxSt.set {w wx : World} {g gx c : Nat} {Q : List ByteArray} {a : Option Addr} {L : List Lab} {cs : Array Value} (h : RxSt w g Q gx a c L wx cs) (k1 : w.heap.size < gx) (k2 : g < gx) (o : Nat) (v : Value) : RxSt w g Q gx a c L (wx.setCell ⟨gx, o, none⟩ v) (cs.setIfInBounds o v) :=
  ⟨h.h1.set k1 k2 o v, blk_set h.h2 o v, ll1 h.h3 (isT_of h.h2) o v⟩
theorem RxSt.arr {w wx : World} {g gx c : Nat} {Q : List ByteArray} {a : Option Addr} {L : List Lab} {cs cs' : Array Value} (h : RxSt w g Q gx a c L wx cs) (e : cs = cs') : RxSt w g Q gx a c L wx cs' := e ▸ h
/-- behind the if of six words -/
def R6Cut (w : World) (g : Nat) (Q : List ByteArray) (gx : Nat) (a : Option Addr) (c : Nat) (L : List Lab) (K : ByteArray) (sp : Int) (s : ByteArray) (wx : World) : Prop :=
  ∃ (bt tm : Int) (sd : Bool), EntIn ⟨L, false, bt, sd, tm, sp⟩ ∧ (∀ k e, itemRight k e = true → EntIn e → textR k e = d s → d K = k ∧ (⟨L, false, bt, sd, tm, sp⟩ : Ent) = e) ∧ RxSt w g Q gx a c L wx #[.string K, .slice a L.length c, .bool false, .int .u64 bt, .bool sd, .int .i64 tm, .int .i64 sp]
theorem at_worldR {f : FuncId} {args : Array Value} {w : World} {Q : Ending → World → Prop} (h : ∀ W, W = w → Calls Tryz.prog f args W Q) : Calls Tryz.prog f args w Q := h w rfl
set_option maxRecDepth 100000 in
set_option maxHeartbeats 8000000 in
theorem rrd_calls (s : ByteArray) (hs : s.size ≤ 1100000) (w : World) : Calls Tryz.prog 38 #[.string s] w (RdtPost s w) := by
  go_enter Tryz.func38, Tryz.ntmps38
  go_wp2_with fail
  go_at_call 90
  obtain ⟨w0, hw0⟩ : ∃ q, q = w.alloc (.cells #[.string ⟨#[]⟩, .slice none 0 0, .bool false, .int .u64 0, .bool false, .int .i64 0, .int .i64 0] 71) := ⟨_, rfl⟩
  have hblk0 : w0.heap[w.heap.size]? = some (.cells zeroCells 71 (0, 0)) := by rw [hw0]; exact heap_alloc_new w _
  have hb0 : Below w.heap.size w w0 := by rw [hw0]; exact (Below.refl _ _).alloc (Nat.le_refl _) _
  rw [← hw0]
  have H0 := Lib.hid (And.intro hblk0 hb0)
  clear hw0 hblk0 hb0
  refine (rcut_calls s hs w0).mono ?_
  rintro e w1 ⟨v, Q, rfl, hQ, hown, hb1⟩
  have hpos : 0 < Q.length := by
    have h1 := congrArg List.length hQ
    rw [List.length_map] at h1
    rcases Nat.eq_zero_or_pos Q.length with h | h
    · rw [h] at h1
      exact absurd (List.eq_nil_of_length_eq_zero h1.symm) (cutAt_ne 32 (d s))
    · exact h
  obtain ⟨g, c, rfl, hg1, hg2, hg3, hg4⟩ := own_cells hown hpos
  have hgr : w.heap.size < g := by have := (isT_of H0.out.1).lt; omega
  have hst : RrSt w g Q w1 := ⟨(hb1.block _ (isT_of H0.out.1).lt).trans H0.out.1, hg2, fun j y hy => hg4 j _ (by rw [List.getElem?_map, hy]; rfl), Bthen H0.out.2 hb1⟩
  have hqs := q_size hQ
  have H1 := Lib.hid hst
  have HQ := Lib.hid (And.intro hQ hqs)
  clear hQ hown hb1 hg4 hst hqs H0 hg1 hg2
  by_cases h46 : Q.length ≠ 4 ∧ Q.length ≠ 6
  · obtain ⟨h4, h6⟩ := h46
    have HN := Lib.hid (And.intro (noText_q HQ.out.1 h4 h6) H1.out.bel)
    have f1 : ((Q.length : Int) == 4) = false := beq_eq_false_iff_ne.2 (by omega)
    have f2 : ((Q.length : Int) == 6) = false := beq_eq_false_iff_ne.2 (by omega)
    have f3 : ((Q.length : Int) != 4) = true := by simp; omega
    have f4 : ((Q.length : Int) != 6) = true := by simp; omega
    have r0 := block_cell H1.out.r 0 _ rfl
    have s0 := bk_froz H1.out.r 0
    have r1 := block_cell H1.out.r 1 _ rfl
    have s1 := bk_froz H1.out.r 1
    have r2 := block_cell H1.out.r 2 _ rfl
    have s2 := bk_froz H1.out.r 2
    have r3 := block_cell H1.out.r 3 _ rfl
    have s3 := bk_froz H1.out.r 3
    have r4 := block_cell H1.out.r 4 _ rfl
    have s4 := bk_froz H1.out.r 4
    have r5 := block_cell H1.out.r 5 _ rfl
    have s5 := bk_froz H1.out.r 5
    have r6 := block_cell H1.out.r 6 _ rfl
    have s6 := bk_froz H1.out.r 6
    clear h4 h6 H1 HQ
    go_wp2_with fail
    refine bodyPost_ret (v := .tuple #[zeroAgg, .int .i64 383]) (by simp [results, Tryz.results38, go_sem, r0, r1, r2, r3, r4, r5, r6]) rfl ⟨.inr ⟨rfl, HN.out.1⟩, ?_⟩
    iterate 7 (refine Below.setCell ?_ (by exact Nat.le_refl _) _)
    exact HN.out.2
  rcases (show Q.length = 4 ∨ Q.length = 6 by omega) with h4 | h4
  · obtain ⟨a0, a1, a2, a3, rfl⟩ : ∃ a0 a1 a2 a3, Q = [a0, a1, a2, a3] := by
      match Q, h4 with
      | [a0, a1, a2, a3], _ => exact ⟨a0, a1, a2, a3, rfl⟩
    have za0 : a0.size ≤ 1100000 := Nat.le_trans (HQ.out.2 a0 (by simp)) hs
    have za1 : a1.size ≤ 1100000 := Nat.le_trans (HQ.out.2 a1 (by simp)) hs
    have za2 : a2.size ≤ 1100000 := Nat.le_trans (HQ.out.2 a2 (by simp)) hs
    have za3 : a3.size ≤ 1100000 := Nat.le_trans (HQ.out.2 a3 (by simp)) hs
    have p3 := H1.out.p 3 _ rfl
    have hlen : ([a0, a1, a2, a3] : List ByteArray).length = 4 := rfl
    rw [hlen]
    have HH := Lib.hid hlen
    clear h4 hpos hlen hg3
    go_wp2_with fail
    go_at_call 92
    obtain ⟨P3, eP3, hd3, hz3⟩ := str_of (plainR (d a3))
    have hc3 := rplain_calls a3 za3 w1
    rw [eP3] at hc3
    refine hc3.mono ?_
    clear hc3 eP3
    rintro e w2 ⟨rfl, hb2⟩
    have hz3' : P3.size ≤ 1100000 := by have h1 := plainR_len (d a3); have h2 : (d a3).length = a3.size := by simp
                                        omega
    have H2 := Lib.hid (H1.out.below hb2)
    have HD3 := Lib.hid hd3
    clear hb2 p3 hd3 hz3
    go_wp2_with fail
    go_at_call 91
    refine (rreadL_calls P3 w2 hz3').mono ?_
    rintro e w3 hp
    unfold CrPost at hp
    cases hrd : readS (d P3) with
    | none =>
      rw [hrd] at hp
      obtain ⟨rfl, hb3⟩ := hp
      have H3 := H2.out.below hb3
      have HN : Hid (NoText (d s) ∧ Below w.heap.size w w3) := Lib.hid ⟨(fun k en hr hi he => by
        have h1 := (parse4R HQ.out.1 hr hi he).1
        rw [HD3.out, h1, readS_bytes (right_fields hr).1] at hrd
        cases hrd), H3.bel⟩
      have r0 := block_cell H3.r 0 _ rfl
      have s0 := bk_froz H3.r 0
      have r1 := block_cell H3.r 1 _ rfl
      have s1 := bk_froz H3.r 1
      have r2 := block_cell H3.r 2 _ rfl
      have s2 := bk_froz H3.r 2
      have r3 := block_cell H3.r 3 _ rfl
      have s3 := bk_froz H3.r 3
      have r4 := block_cell H3.r 4 _ rfl
      have s4 := bk_froz H3.r 4
      have r5 := block_cell H3.r 5 _ rfl
      have s5 := bk_froz H3.r 5
      have r6 := block_cell H3.r 6 _ rfl
      have s6 := bk_froz H3.r 6
      clear H3 hrd hb3
      go_wp2_with fail
      refine bodyPost_ret (v := .tuple #[zeroAgg, .int .i64 383]) (by simp [results, Tryz.results38, go_sem, r0, r1, r2, r3, r4, r5, r6]) rfl ⟨.inr ⟨rfl, HN.out.1⟩, ?_⟩
      iterate 7 (refine Below.setCell ?_ (by exact Nat.le_refl _) _)
      exact HN.out.2
    | some L =>
      rw [hrd] at hp
      obtain ⟨⟨v5, rfl, hown5⟩, hb3⟩ := hp
      obtain ⟨aL, cL, rfl⟩ := own_form hown5
      have H3 := Lib.hid (And.intro (H2.out.below hb3) (Ll.of_own hown5))
      have HRD := Lib.hid (And.intro hrd (readS_right hrd))
      have p1 := H3.out.1.p 1 _ rfl
      have p2 := H3.out.1.p 2 _ rfl
      have hgl := H3.out.1.lt
      obtain ⟨K, eK, hdK, hzK⟩ := str_of (plainR (d a2))
      have hcK := fun wx => rplain_calls a2 za2 wx
      rw [eK] at hcK
      have hKz : K.size ≤ 1100000 := by have h1 := plainR_len (d a2); have h2 : (d a2).length = a2.size := by simp
                                        omega
      obtain ⟨sp, hsp⟩ : ∃ q, q = numI (d a1) := ⟨_, rfl⟩
      have hcN := fun wx => rnumber_calls a1 za1 wx
      rw [← hsp] at hcN
      have HC := Lib.hid (And.intro hcK (fun wx => (hcN wx).mono (fun _ _ (h : _ ∧ _) => And.intro h.1 h.2.symm)))
      have HKS := Lib.hid (And.intro hdK hsp)
      clear hown5 hb3 hrd H2 hcK hcN eK hdK hzK hsp
      go_wp2_with fail
      have HK3 : Hid (∀ w' : World, Below w3.heap.size w3 w' → w'.cell? ⟨g, 2, none⟩ = some (.string a2) ∧ w'.cell? ⟨g, 1, none⟩ = some (.string a1)) := Lib.hid (fun w' hb => ⟨(H3.out.1.below hb).p 2 _ rfl, (H3.out.1.below hb).p 1 _ rfl⟩)
      go_cut [7] (fun s7 wx => ∃ gx, s7 = .pointer (some ⟨gx, 0, none⟩) ∧ wx.heap[gx]? = some (.cells #[.string K, .slice aL L.length cL, .bool true, .int .u64 0, .bool false, .int .i64 0, .int .i64 sp] 71 (0, 0)) ∧ Below w3.heap.size w3 wx ∧ w3.heap.size ≤ gx)
      case first =>
        go_region_held_law (fun w' : World => w'.cell? ⟨g, 2, none⟩ = some (.string a2) ∧ w'.cell? ⟨g, 1, none⟩ = some (.string a1)) (first | go_keep | (with_reducible exact HK3.out _ hb4) | (with_reducible exact HK3.out _ (hb4.alloc hb4.size _)) | (with_reducible exact HK3.out _ (sets7 hb4 _ _ _ _ _ _ _)))
          (first
            | (go_at_call 92; refine at_worldR ?_; intro W1 hW1; have hz1 : W1.heap[w3.heap.size]? = some (.cells zeroCells 71 (0, 0)) ∧ Below w3.heap.size w3 W1 := (by rw [hW1]; first | exact ⟨heap_alloc_new w3 _, (Below.refl _ _).alloc (Nat.le_refl _) _⟩ | exact ⟨heap_alloc_new w3 _, ((Below.refl _ _).alloc (Nat.le_refl _) _).drew⟩ | exact ⟨heap_alloc_new w3.drew _, ((Below.refl _ _).drew).alloc (Nat.le_refl _) _⟩); clear hW1; refine (HC.out.1 W1).mono ?_; rintro e w4 ⟨rfl, hb44⟩; have hb4 : Below w3.heap.size w3 w4 := hz1.2.trans (hb44.mono hz1.2.size); have hx4 : w4.heap[w3.heap.size]? = some (.cells zeroCells 71 (0, 0)) := (hb44.block _ (isT_of hz1.1).lt).trans hz1.1; have x0 := block_cell hx4 0 _ rfl; have y0 := bk_froz hx4 0; have x1 := block_cell hx4 1 _ rfl; have y1 := bk_froz hx4 1; have x2 := block_cell hx4 2 _ rfl; have y2 := bk_froz hx4 2; have x3 := block_cell hx4 3 _ rfl; have y3 := bk_froz hx4 3; have x4 := block_cell hx4 4 _ rfl; have y4 := bk_froz hx4 4; have x5 := block_cell hx4 5 _ rfl; have y5 := bk_froz hx4 5; have x6 := block_cell hx4 6 _ rfl; have y6 := bk_froz hx4 6; have hl4 := (isT_of hx4).lt; clear hz1 hb44)
            | (go_at_call 92; refine at_worldR ?_; intro W1 hW1; have hb1 : Below w3.heap.size w3 W1 := (by rw [hW1]; first | exact Below.refl _ _ | exact (Below.refl _ _).drew | exact (Below.refl _ _).drew.drew | exact below_drewN (Below.refl _ _) _ | exact (below_drewN (Below.refl _ _) _).drew); clear hW1; refine (HC.out.1 W1).mono ?_; rintro e w4 ⟨rfl, hb44⟩; have hb4 : Below w3.heap.size w3 w4 := hb1.trans (hb44.mono hb1.size); clear hb1 hb44)
            | (go_at_call 93; refine (HC.out.2 _).mono ?_; rintro e w5 ⟨rfl, rfl⟩))
        all_goals
          go_wp2_with fail
          go_meet
          first
            | (have hx7 := blk_set (blk_set (blk_set (blk_set (blk_set (blk_set (blk_set hx4 0 (.string K)) 1 (.slice aL L.length cL)) 2 (.bool true)) 3 (.int .u64 0)) 4 (.bool false)) 5 (.int .i64 0)) 6 (.int .i64 sp)
               exact ⟨_, rfl, hx7, sets7 hb4 _ _ _ _ _ _ _, Nat.le_refl _⟩)
            | exact ⟨_, rfl, heap_alloc_new w4 _, hb4.alloc hb4.size _, hb4.size⟩
      case rest =>
      obtain ⟨w6, hw6⟩ : ∃ q, q = wc := ⟨_, rfl⟩
      subst hw6
      obtain ⟨gx, h7, hX, hb6, hgx⟩ := hcut
      subst h7
      have H6 := Lib.hid (And.intro (H3.out.1.below hb6) (And.intro hX (H3.out.2.below hb6 (Nat.le_refl _))))
      have hgR : w.heap.size < w3.heap.size := (isT_of H3.out.1.r).lt
      clear hX hb6 p1 p2 HC HK3
      have HIN : Hid (EntIn ⟨L, true, 0, false, 0, sp⟩) := Lib.hid (by
        have h := numI_range (d a1)
        rw [← HKS.out.2] at h
        constructor <;> (dsimp only; omega))
      have HPA : Hid (∀ k e, itemRight k e = true → EntIn e → textR k e = d s → d K = k ∧ (⟨L, true, 0, false, 0, sp⟩ : Ent) = e) := Lib.hid (fun k e hr hi he => by
        obtain ⟨h1, h2, h3⟩ := parse4R HQ.out.1 hr hi he
        refine ⟨by rw [HKS.out.1, h2], ?_⟩
        have h4 : e.lab = L := by
          have h5 := HRD.out.1
          rw [HD3.out, h1, readS_bytes (right_fields hr).1] at h5
          exact Option.some.inj h5
        rw [h3, h4, HKS.out.2])
      have k0 := block_cell H6.out.2.1 0 _ rfl
      have k1 := block_cell H6.out.2.1 1 _ rfl
      have k2 := block_cell H6.out.2.1 2 _ rfl
      have k3 := block_cell H6.out.2.1 3 _ rfl
      have k4 := block_cell H6.out.2.1 4 _ rfl
      have k5 := block_cell H6.out.2.1 5 _ rfl
      have k6 := block_cell H6.out.2.1 6 _ rfl
      have hI : EntIn ⟨L, true, 0, false, 0, sp⟩ := HIN.out
      obtain ⟨hl1, hl2⟩ := labZ_right HRD.out.2
      have hcall := rtext_calls K aL cL ⟨L, true, 0, false, 0, sp⟩ _ hKz H6.out.2.2.rd hl1 hl2 hI
      try go_wp2_with fail
      go_at_call 29
      refine hcall.mono ?_
      clear hcall hI
      rintro e w9 ⟨rfl, hb9⟩
      have hX9 := (hb9.block _ (isT_of H6.out.2.1).lt).trans H6.out.2.1
      have H9 := Lib.hid (And.intro (H6.out.1.below hb9) (And.intro hX9 (H6.out.2.2.below hb9 (Nat.le_refl _))))
      have r0 := block_cell H9.out.1.r 0 _ rfl
      have s0 := bk_froz H9.out.1.r 0
      have r1 := block_cell H9.out.1.r 1 _ rfl
      have s1 := bk_froz H9.out.1.r 1
      have r2 := block_cell H9.out.1.r 2 _ rfl
      have s2 := bk_froz H9.out.1.r 2
      have r3 := block_cell H9.out.1.r 3 _ rfl
      have s3 := bk_froz H9.out.1.r 3
      have r4 := block_cell H9.out.1.r 4 _ rfl
      have s4 := bk_froz H9.out.1.r 4
      have r5 := block_cell H9.out.1.r 5 _ rfl
      have s5 := bk_froz H9.out.1.r 5
      have r6 := block_cell H9.out.1.r 6 _ rfl
      have s6 := bk_froz H9.out.1.r 6
      have m0 := block_cell hX9 0 _ rfl
      have m1 := block_cell hX9 1 _ rfl
      have m2 := block_cell hX9 2 _ rfl
      have m3 := block_cell hX9 3 _ rfl
      have m4 := block_cell hX9 4 _ rfl
      have m5 := block_cell hX9 5 _ rfl
      have m6 := block_cell hX9 6 _ rfl
      clear hb9 hX9 k0 k1 k2 k3 k4 k5 k6
      by_cases hok : itemRight (d K) ⟨L, true, 0, false, 0, sp⟩ = true ∧ textR (d K) ⟨L, true, 0, false, 0, sp⟩ = d s
      · have e1 : textErr (d K) ⟨L, true, 0, false, 0, sp⟩ = 0 := by unfold textErr; rw [hok.1]; rfl
        have e2 : (⟨(textT (d K) ⟨L, true, 0, false, 0, sp⟩).toArray⟩ : ByteArray) = s := by unfold textT; rw [hok.1, if_pos rfl, hok.2]; try exact (ba_of rfl).symm
        rw [e1, e2]
        have HOK := Lib.hid hok
        clear e1 e2 hok
        go_wp2_with fail
        refine bodyPost_ret (v := .tuple #[.agg #[.string K, .slice aL L.length cL, .bool true, .int .u64 0, .bool false, .int .i64 0, .int .i64 sp], .int .i64 0]) (by simp [results, Tryz.results38, go_sem, r0, r1, r2, r3, r4, r5, r6]) rfl ⟨.inl ⟨K, aL, cL, ⟨L, true, 0, false, 0, sp⟩, rfl, HOK.out.1, HIN.out, HOK.out.2, ll7 H9.out.2.2 (isT_of H9.out.1.r) _ _ _ _ _ _ _, by omega⟩, sets7 H9.out.1.bel _ _ _ _ _ _ _⟩
      · have HN := Lib.hid (noText_bad HPA.out hok)
        have HBL := Lib.hid H9.out.1.bel
        cases hir : itemRight (d K) ⟨L, true, 0, false, 0, sp⟩ with
        | false =>
          have e1 : textErr (d K) ⟨L, true, 0, false, 0, sp⟩ = 380 := by unfold textErr; rw [hir]; rfl
          rw [e1]
          clear e1 hir hok H9
          go_wp2_with fail
          refine bodyPost_ret (v := .tuple #[zeroAgg, .int .i64 383]) (by simp [results, Tryz.results38, go_sem, r0, r1, r2, r3, r4, r5, r6]) rfl ⟨.inr ⟨rfl, HN.out⟩, ?_⟩
          iterate 7 (refine Below.setCell ?_ (by exact Nat.le_refl _) _)
          exact HBL.out
        | true =>
          have e1 : textErr (d K) ⟨L, true, 0, false, 0, sp⟩ = 0 := by unfold textErr; rw [hir]; rfl
          obtain ⟨t, et, hdt, -⟩ := str_of (textT (d K) ⟨L, true, 0, false, 0, sp⟩)
          have hts : (t.toList == s.toList) = false := ba_ne (fun e => hok ⟨hir, by rw [← e, hdt]; unfold textT; rw [hir]; rfl⟩)
          rw [e1, et]
          clear e1 et hdt hir hok H9
          go_wp2_with fail
          refine bodyPost_ret (v := .tuple #[zeroAgg, .int .i64 383]) (by simp [results, Tryz.results38, go_sem, r0, r1, r2, r3, r4, r5, r6]) rfl ⟨.inr ⟨rfl, HN.out⟩, ?_⟩
          iterate 7 (refine Below.setCell ?_ (by exact Nat.le_refl _) _)
          exact HBL.out
  · obtain ⟨a0, a1, a2, a3, a4, a5, rfl⟩ : ∃ a0 a1 a2 a3 a4 a5, Q = [a0, a1, a2, a3, a4, a5] := by
      match Q, h4 with
      | [a0, a1, a2, a3, a4, a5], _ => exact ⟨a0, a1, a2, a3, a4, a5, rfl⟩
    have za0 : a0.size ≤ 1100000 := Nat.le_trans (HQ.out.2 a0 (by simp)) hs
    have za1 : a1.size ≤ 1100000 := Nat.le_trans (HQ.out.2 a1 (by simp)) hs
    have za2 : a2.size ≤ 1100000 := Nat.le_trans (HQ.out.2 a2 (by simp)) hs
    have za3 : a3.size ≤ 1100000 := Nat.le_trans (HQ.out.2 a3 (by simp)) hs
    have za4 : a4.size ≤ 1100000 := Nat.le_trans (HQ.out.2 a4 (by simp)) hs
    have za5 : a5.size ≤ 1100000 := Nat.le_trans (HQ.out.2 a5 (by simp)) hs
    have p5 := H1.out.p 5 _ rfl
    have hlen : ([a0, a1, a2, a3, a4, a5] : List ByteArray).length = 6 := rfl
    rw [hlen]
    have HH := Lib.hid hlen
    clear h4 hpos hlen hg3
    go_wp2_with fail
    go_at_call 92
    obtain ⟨P3, eP3, hd3, hz3⟩ := str_of (plainR (d a5))
    have hc3 := rplain_calls a5 za5 w1
    rw [eP3] at hc3
    refine hc3.mono ?_
    clear hc3 eP3
    rintro e w2 ⟨rfl, hb2⟩
    have hz3' : P3.size ≤ 1100000 := by have h1 := plainR_len (d a5); have h2 : (d a5).length = a5.size := by simp
                                        omega
    have H2 := Lib.hid (H1.out.below hb2)
    have HD3 := Lib.hid hd3
    clear hb2 p5 hd3 hz3
    go_wp2_with fail
    go_at_call 91
    refine (rreadL_calls P3 w2 hz3').mono ?_
    rintro e w3 hp
    unfold CrPost at hp
    cases hrd : readS (d P3) with
    | none =>
      rw [hrd] at hp
      obtain ⟨rfl, hb3⟩ := hp
      have H3 := H2.out.below hb3
      have HN : Hid (NoText (d s) ∧ Below w.heap.size w w3) := Lib.hid ⟨(fun k en hr hi he => by
        have h1 := (parse6R HQ.out.1 hr hi he).1
        rw [HD3.out, h1, readS_bytes (right_fields hr).1] at hrd
        cases hrd), H3.bel⟩
      have r0 := block_cell H3.r 0 _ rfl
      have s0 := bk_froz H3.r 0
      have r1 := block_cell H3.r 1 _ rfl
      have s1 := bk_froz H3.r 1
      have r2 := block_cell H3.r 2 _ rfl
      have s2 := bk_froz H3.r 2
      have r3 := block_cell H3.r 3 _ rfl
      have s3 := bk_froz H3.r 3
      have r4 := block_cell H3.r 4 _ rfl
      have s4 := bk_froz H3.r 4
      have r5 := block_cell H3.r 5 _ rfl
      have s5 := bk_froz H3.r 5
      have r6 := block_cell H3.r 6 _ rfl
      have s6 := bk_froz H3.r 6
      clear H3 hrd hb3
      go_wp2_with fail
      refine bodyPost_ret (v := .tuple #[zeroAgg, .int .i64 383]) (by simp [results, Tryz.results38, go_sem, r0, r1, r2, r3, r4, r5, r6]) rfl ⟨.inr ⟨rfl, HN.out.1⟩, ?_⟩
      iterate 7 (refine Below.setCell ?_ (by exact Nat.le_refl _) _)
      exact HN.out.2
    | some L =>
      rw [hrd] at hp
      obtain ⟨⟨v5, rfl, hown5⟩, hb3⟩ := hp
      obtain ⟨aL, cL, rfl⟩ := own_form hown5
      have H3 := Lib.hid (And.intro (H2.out.below hb3) (Ll.of_own hown5))
      have HRD := Lib.hid (And.intro hrd (readS_right hrd))
      have p1 := H3.out.1.p 1 _ rfl
      have p4 := H3.out.1.p 4 _ rfl
      have hgl := H3.out.1.lt
      obtain ⟨K, eK, hdK, hzK⟩ := str_of (plainR (d a4))
      have hcK := fun wx => rplain_calls a4 za4 wx
      rw [eK] at hcK
      have hKz : K.size ≤ 1100000 := by have h1 := plainR_len (d a4); have h2 : (d a4).length = a4.size := by simp
                                        omega
      obtain ⟨sp, hsp⟩ : ∃ q, q = numI (d a1) := ⟨_, rfl⟩
      have hcN := fun wx => rnumber_calls a1 za1 wx
      rw [← hsp] at hcN
      have HC := Lib.hid (And.intro hcK (fun wx => (hcN wx).mono (fun _ _ (h : _ ∧ _) => And.intro h.1 h.2.symm)))
      have HKS := Lib.hid (And.intro hdK hsp)
      clear hown5 hb3 hrd H2 hcK hcN eK hdK hzK hsp
      go_wp2_with fail
      have HK3 : Hid (∀ w' : World, Below w3.heap.size w3 w' → w'.cell? ⟨g, 4, none⟩ = some (.string a4) ∧ w'.cell? ⟨g, 1, none⟩ = some (.string a1)) := Lib.hid (fun w' hb => ⟨(H3.out.1.below hb).p 4 _ rfl, (H3.out.1.below hb).p 1 _ rfl⟩)
      go_cut [7] (fun s7 wx => ∃ gx, s7 = .pointer (some ⟨gx, 0, none⟩) ∧ wx.heap[gx]? = some (.cells #[.string K, .slice aL L.length cL, .bool false, .int .u64 0, .bool false, .int .i64 0, .int .i64 sp] 71 (0, 0)) ∧ Below w3.heap.size w3 wx ∧ w3.heap.size ≤ gx)
      case first =>
        go_region_held_law (fun w' : World => w'.cell? ⟨g, 4, none⟩ = some (.string a4) ∧ w'.cell? ⟨g, 1, none⟩ = some (.string a1)) (first | go_keep | (with_reducible exact HK3.out _ hb4) | (with_reducible exact HK3.out _ (hb4.alloc hb4.size _)) | (with_reducible exact HK3.out _ (sets7 hb4 _ _ _ _ _ _ _)))
          (first
            | (go_at_call 92; refine at_worldR ?_; intro W1 hW1; have hz1 : W1.heap[w3.heap.size]? = some (.cells zeroCells 71 (0, 0)) ∧ Below w3.heap.size w3 W1 := (by rw [hW1]; first | exact ⟨heap_alloc_new w3 _, (Below.refl _ _).alloc (Nat.le_refl _) _⟩ | exact ⟨heap_alloc_new w3 _, ((Below.refl _ _).alloc (Nat.le_refl _) _).drew⟩ | exact ⟨heap_alloc_new w3.drew _, ((Below.refl _ _).drew).alloc (Nat.le_refl _) _⟩); clear hW1; refine (HC.out.1 W1).mono ?_; rintro e w4 ⟨rfl, hb44⟩; have hb4 : Below w3.heap.size w3 w4 := hz1.2.trans (hb44.mono hz1.2.size); have hx4 : w4.heap[w3.heap.size]? = some (.cells zeroCells 71 (0, 0)) := (hb44.block _ (isT_of hz1.1).lt).trans hz1.1; have x0 := block_cell hx4 0 _ rfl; have y0 := bk_froz hx4 0; have x1 := block_cell hx4 1 _ rfl; have y1 := bk_froz hx4 1; have x2 := block_cell hx4 2 _ rfl; have y2 := bk_froz hx4 2; have x3 := block_cell hx4 3 _ rfl; have y3 := bk_froz hx4 3; have x4 := block_cell hx4 4 _ rfl; have y4 := bk_froz hx4 4; have x5 := block_cell hx4 5 _ rfl; have y5 := bk_froz hx4 5; have x6 := block_cell hx4 6 _ rfl; have y6 := bk_froz hx4 6; have hl4 := (isT_of hx4).lt; clear hz1 hb44)
            | (go_at_call 92; refine at_worldR ?_; intro W1 hW1; have hb1 : Below w3.heap.size w3 W1 := (by rw [hW1]; first | exact Below.refl _ _ | exact (Below.refl _ _).drew | exact (Below.refl _ _).drew.drew | exact below_drewN (Below.refl _ _) _ | exact (below_drewN (Below.refl _ _) _).drew); clear hW1; refine (HC.out.1 W1).mono ?_; rintro e w4 ⟨rfl, hb44⟩; have hb4 : Below w3.heap.size w3 w4 := hb1.trans (hb44.mono hb1.size); clear hb1 hb44)
            | (go_at_call 93; refine (HC.out.2 _).mono ?_; rintro e w5 ⟨rfl, rfl⟩))
        all_goals
          go_wp2_with fail
          go_meet
          first
            | (have hx7 := blk_set (blk_set (blk_set (blk_set (blk_set (blk_set (blk_set hx4 0 (.string K)) 1 (.slice aL L.length cL)) 2 (.bool false)) 3 (.int .u64 0)) 4 (.bool false)) 5 (.int .i64 0)) 6 (.int .i64 sp)
               exact ⟨_, rfl, hx7, sets7 hb4 _ _ _ _ _ _ _, Nat.le_refl _⟩)
            | exact ⟨_, rfl, heap_alloc_new w4 _, hb4.alloc hb4.size _, hb4.size⟩
      case rest =>
      obtain ⟨w6, hw6⟩ : ∃ q, q = wc := ⟨_, rfl⟩
      subst hw6
      obtain ⟨gx, h7, hX, hb6, hgx⟩ := hcut
      subst h7
      have H6 := Lib.hid (And.intro (H3.out.1.below hb6) (And.intro hX (H3.out.2.below hb6 (Nat.le_refl _))))
      have hgR : w.heap.size < w3.heap.size := (isT_of H3.out.1.r).lt
      clear hX hb6 p1 p4 HC HK3
      go_upto_if 54 with fail
      go_cut [] (fun wx => R6Cut w g [a0, a1, a2, a3, a4, a5] gx aL cL L K sp s wx)
      case first =>
        have hB := rbits_calls a2 za2
        have hT := rnumber_calls a3 za3
        have p2 := H6.out.1.p 2 _ rfl
        have p3 := H6.out.1.p 3 _ rfl
        have hgl6 := H6.out.1.lt
        have hg1' : w.heap.size < gx := Nat.lt_of_lt_of_le hgR hgx
        have hg2' : g < gx := Nat.lt_of_lt_of_le hgl hgx
        have HX : Hid (RxSt w g _ gx _ _ _ _ _) := Lib.hid ⟨H6.out.1, H6.out.2.1, H6.out.2.2⟩
        have k0 := block_cell H6.out.2.1 0 _ rfl
        have g0 := bk_froz H6.out.2.1 0
        have k1 := block_cell H6.out.2.1 1 _ rfl
        have g1 := bk_froz H6.out.2.1 1
        have k2 := block_cell H6.out.2.1 2 _ rfl
        have g2 := bk_froz H6.out.2.1 2
        have k3 := block_cell H6.out.2.1 3 _ rfl
        have g3 := bk_froz H6.out.2.1 3
        have k4 := block_cell H6.out.2.1 4 _ rfl
        have g4 := bk_froz H6.out.2.1 4
        have k5 := block_cell H6.out.2.1 5 _ rfl
        have g5 := bk_froz H6.out.2.1 5
        have k6 := block_cell H6.out.2.1 6 _ rfl
        have g6 := bk_froz H6.out.2.1 6
        have kl := (isT_of H6.out.2.1).lt
        go_wp2_with fail
        go_at_call 94
        refine (hB _).mono ?_
        rintro e w7 ⟨rfl, rfl⟩
        cases hdash : (!a3.toList == [45]) <;> go_wp2_with fail
        · obtain ⟨bt, hbt⟩ : ∃ bt : Int, bt = (bitW 0 (d a2) : Int) := ⟨_, rfl⟩
          rw [← hbt]
          have HBT := Lib.hid hbt
          clear hbt
          have e45 : d a3 = [45] := by rw [ByteArray.toList_eq] at hdash; simpa using hdash
          have hs3 : (!decide (d a3 = [45])) = false := by rw [e45]; rfl
          have ht3 : (if d a3 = [45] then (0 : Int) else numI (d a3)) = 0 := by rw [if_pos e45]
          have hr3 : -9223372036854775808 ≤ (0 : Int) ∧ (0 : Int) ≤ 9223372036854775807 := by omega
          have HY := HX.out.set hg1' hg2' 3 (.int .u64 bt)
          have HIN : Hid (EntIn ⟨L, false, bt, false, 0, sp⟩) := Lib.hid (by
            have h := numI_range (d a1)
            rw [← HKS.out.2] at h
            have h' := bitW_lt (d a2) 0 (by omega)
            have hbt := HBT.out
            constructor <;> (dsimp only; omega))
          have HPA : Hid (∀ k e, itemRight k e = true → EntIn e → textR k e = d s → d K = k ∧ (⟨L, false, bt, false, 0, sp⟩ : Ent) = e) := Lib.hid (fun k e hr hi he => by
            obtain ⟨h1, h2, h3⟩ := parse6R HQ.out.1 hr hi he
            refine ⟨by rw [HKS.out.1, h2], ?_⟩
            have h4 : e.lab = L := by
              have h5 := HRD.out.1
              rw [HD3.out, h1, readS_bytes (right_fields hr).1] at h5
              exact Option.some.inj h5
            rw [h3, h4, HKS.out.2, hs3, ht3, HBT.out])
          have HZ := Lib.hid (HY.arr (cs' := #[.string K, .slice aL L.length cL, .bool false, .int .u64 bt, .bool false, .int .i64 0, .int .i64 sp]) (by rfl))
          clear HY hs3 ht3 hr3 hB hT hdash
          try go_wp2_with fail
          go_meet
          exact ⟨bt, 0, false, HIN.out, HPA.out, HZ.out⟩

        · obtain ⟨bt, hbt⟩ : ∃ bt : Int, bt = (bitW 0 (d a2) : Int) := ⟨_, rfl⟩
          rw [← hbt]
          have HBT := Lib.hid hbt
          clear hbt
          obtain ⟨tm, htm⟩ : ∃ q, q = numI (d a3) := ⟨_, rfl⟩
          have n45 : ¬ d a3 = [45] := fun e => by
            rw [ByteArray.toList_eq, show a3.data.toList = [45] from e] at hdash
            revert hdash; decide
          have hs3 : (!decide (d a3 = [45])) = true := by simp [n45]
          have ht3 : (if d a3 = [45] then (0 : Int) else numI (d a3)) = tm := by rw [if_neg n45]; exact htm.symm
          have hr3 := numI_range (d a3)
          rw [← htm] at hr3
          refine (hT _).mono ?_
          rintro e w8 ⟨rfl, rfl⟩
          go_wp2_with fail
          rw [← htm]
          have HY := ((HX.out.set hg1' hg2' 3 (.int .u64 bt)).set hg1' hg2' 4 (.bool true)).set hg1' hg2' 5 (.int .i64 tm)
          have HIN : Hid (EntIn ⟨L, false, bt, true, tm, sp⟩) := Lib.hid (by
            have h := numI_range (d a1)
            rw [← HKS.out.2] at h
            have h' := bitW_lt (d a2) 0 (by omega)
            have hbt := HBT.out
            constructor <;> (dsimp only; omega))
          have HPA : Hid (∀ k e, itemRight k e = true → EntIn e → textR k e = d s → d K = k ∧ (⟨L, false, bt, true, tm, sp⟩ : Ent) = e) := Lib.hid (fun k e hr hi he => by
            obtain ⟨h1, h2, h3⟩ := parse6R HQ.out.1 hr hi he
            refine ⟨by rw [HKS.out.1, h2], ?_⟩
            have h4 : e.lab = L := by
              have h5 := HRD.out.1
              rw [HD3.out, h1, readS_bytes (right_fields hr).1] at h5
              exact Option.some.inj h5
            rw [h3, h4, HKS.out.2, hs3, ht3, HBT.out])
          have HZ := Lib.hid (HY.arr (cs' := #[.string K, .slice aL L.length cL, .bool false, .int .u64 bt, .bool true, .int .i64 tm, .int .i64 sp]) (by rfl))
          clear HY hs3 ht3 hr3 hB hT hdash
          try go_wp2_with fail
          go_meet
          exact ⟨bt, tm, true, HIN.out, HPA.out, HZ.out⟩

      case rest =>
      obtain ⟨w8, hw8⟩ : ∃ q, q = wc := ⟨_, rfl⟩
      subst hw8
      obtain ⟨bt, tm, sd, hin, hpa, hrx⟩ := hcut
      have HIN := Lib.hid hin
      have HPA := Lib.hid hpa
      have H8 := Lib.hid (And.intro hrx.h1 (And.intro hrx.h2 hrx.h3))
      clear hin hpa hrx H6
      have k0 := block_cell H8.out.2.1 0 _ rfl
      have k1 := block_cell H8.out.2.1 1 _ rfl
      have k2 := block_cell H8.out.2.1 2 _ rfl
      have k3 := block_cell H8.out.2.1 3 _ rfl
      have k4 := block_cell H8.out.2.1 4 _ rfl
      have k5 := block_cell H8.out.2.1 5 _ rfl
      have k6 := block_cell H8.out.2.1 6 _ rfl
      have hI : EntIn ⟨L, false, bt, sd, tm, sp⟩ := HIN.out
      obtain ⟨hl1, hl2⟩ := labZ_right HRD.out.2
      have hcall := rtext_calls K aL cL ⟨L, false, bt, sd, tm, sp⟩ _ hKz H8.out.2.2.rd hl1 hl2 hI
      try go_wp2_with fail
      go_at_call 29
      refine hcall.mono ?_
      clear hcall hI
      rintro e w9 ⟨rfl, hb9⟩
      have hX9 := (hb9.block _ (isT_of H8.out.2.1).lt).trans H8.out.2.1
      have H9 := Lib.hid (And.intro (H8.out.1.below hb9) (And.intro hX9 (H8.out.2.2.below hb9 (Nat.le_refl _))))
      have r0 := block_cell H9.out.1.r 0 _ rfl
      have s0 := bk_froz H9.out.1.r 0
      have r1 := block_cell H9.out.1.r 1 _ rfl
      have s1 := bk_froz H9.out.1.r 1
      have r2 := block_cell H9.out.1.r 2 _ rfl
      have s2 := bk_froz H9.out.1.r 2
      have r3 := block_cell H9.out.1.r 3 _ rfl
      have s3 := bk_froz H9.out.1.r 3
      have r4 := block_cell H9.out.1.r 4 _ rfl
      have s4 := bk_froz H9.out.1.r 4
      have r5 := block_cell H9.out.1.r 5 _ rfl
      have s5 := bk_froz H9.out.1.r 5
      have r6 := block_cell H9.out.1.r 6 _ rfl
      have s6 := bk_froz H9.out.1.r 6
      have m0 := block_cell hX9 0 _ rfl
      have m1 := block_cell hX9 1 _ rfl
      have m2 := block_cell hX9 2 _ rfl
      have m3 := block_cell hX9 3 _ rfl
      have m4 := block_cell hX9 4 _ rfl
      have m5 := block_cell hX9 5 _ rfl
      have m6 := block_cell hX9 6 _ rfl
      clear hb9 hX9 k0 k1 k2 k3 k4 k5 k6
      by_cases hok : itemRight (d K) ⟨L, false, bt, sd, tm, sp⟩ = true ∧ textR (d K) ⟨L, false, bt, sd, tm, sp⟩ = d s
      · have e1 : textErr (d K) ⟨L, false, bt, sd, tm, sp⟩ = 0 := by unfold textErr; rw [hok.1]; rfl
        have e2 : (⟨(textT (d K) ⟨L, false, bt, sd, tm, sp⟩).toArray⟩ : ByteArray) = s := by unfold textT; rw [hok.1, if_pos rfl, hok.2]; try exact (ba_of rfl).symm
        rw [e1, e2]
        have HOK := Lib.hid hok
        clear e1 e2 hok
        go_wp2_with fail
        refine bodyPost_ret (v := .tuple #[.agg #[.string K, .slice aL L.length cL, .bool false, .int .u64 bt, .bool sd, .int .i64 tm, .int .i64 sp], .int .i64 0]) (by simp [results, Tryz.results38, go_sem, r0, r1, r2, r3, r4, r5, r6]) rfl ⟨.inl ⟨K, aL, cL, ⟨L, false, bt, sd, tm, sp⟩, rfl, HOK.out.1, HIN.out, HOK.out.2, ll7 H9.out.2.2 (isT_of H9.out.1.r) _ _ _ _ _ _ _, by omega⟩, sets7 H9.out.1.bel _ _ _ _ _ _ _⟩
      · have HN := Lib.hid (noText_bad HPA.out hok)
        have HBL := Lib.hid H9.out.1.bel
        cases hir : itemRight (d K) ⟨L, false, bt, sd, tm, sp⟩ with
        | false =>
          have e1 : textErr (d K) ⟨L, false, bt, sd, tm, sp⟩ = 380 := by unfold textErr; rw [hir]; rfl
          rw [e1]
          clear e1 hir hok H9
          go_wp2_with fail
          refine bodyPost_ret (v := .tuple #[zeroAgg, .int .i64 383]) (by simp [results, Tryz.results38, go_sem, r0, r1, r2, r3, r4, r5, r6]) rfl ⟨.inr ⟨rfl, HN.out⟩, ?_⟩
          iterate 7 (refine Below.setCell ?_ (by exact Nat.le_refl _) _)
          exact HBL.out
        | true =>
          have e1 : textErr (d K) ⟨L, false, bt, sd, tm, sp⟩ = 0 := by unfold textErr; rw [hir]; rfl
          obtain ⟨t, et, hdt, -⟩ := str_of (textT (d K) ⟨L, false, bt, sd, tm, sp⟩)
          have hts : (t.toList == s.toList) = false := ba_ne (fun e => hok ⟨hir, by rw [← e, hdt]; unfold textT; rw [hir]; rfl⟩)
          rw [e1, et]
          clear e1 et hdt hir hok H9
          go_wp2_with fail
          refine bodyPost_ret (v := .tuple #[zeroAgg, .int .i64 383]) (by simp [results, Tryz.results38, go_sem, r0, r1, r2, r3, r4, r5, r6]) rfl ⟨.inr ⟨rfl, HN.out⟩, ?_⟩
          iterate 7 (refine Below.setCell ?_ (by exact Nat.le_refl _) _)
          exact HBL.out
end Go.Proofs.YtggfehppompcjaaGreatDoor.Sk
