/- Texts of the claim, put together: ClsO. -/
import Derived.Sort.QuietIn
import Derived.RegionIn
import Derived.Test.YtimahlimmblgkaaGreatDoorPBaA
import Derived.Test.YtimahlimmblgkaaGreatDoorPSlA
namespace Go.Proofs.YtimahlimmblgkaaGreatDoor
open Go.RowKit Go.Shelf
attribute [local go_sem] Oper.semAt_some
set_option maxRecDepth 100000 in
set_option maxHeartbeats 4000000 in
theorem of_calls (a : Option Addr) (cap : Nat) (l : Rs.S) (w : World) (hrd : RdR w a l) (hnil : a = none → l = [] ∧ cap = 0) (hsp : ∀ ad, a = some ad → ad.spot = none) (hn : l.length ≤ 1000000000000) (hrg : ∀ r ∈ l, Rs.rg r) :
    Calls Tryz.prog 169 #[.slice a l.length cap] w fun e w' => ∃ v, e = .returned v ∧ w'.ownsRow w.heap.size 84 2 v (Rs.setOf l).length (rFlat (Rs.setOf l)) ∧ Below w.heap.size w w' := by
  refine (callsIn_wide (n := 6)).1 ?_
  refine callsIn_of_wp_marks Tryz.func169 rfl trivial ?_ rfl
  simp only [Tryz.ntmps169, List.size_toArray, List.length_cons, List.length_nil, Nat.reduceAdd, Nat.reduceSub, Array.replicate_succ, Array.replicate_zero, List.push_toArray, List.append_toArray, List.nil_append, List.cons_append]
  have HRG := Lib.hid hrg
  have hcl := clone_calls a cap l w hrd hnil hsp hn
  clear hrd hnil hsp hrg
  gi_wp2_with (refine ⟨trivial, ?_⟩; gi_at_call 112; refine (callsIn_wide.2 hcl).mono ?_)
  rintro e w1 ⟨v1, rfl, hown1, hb1⟩
  have hsz1 := hb1.size
  gi_wp2_with (refine ⟨trivial, ?_⟩; gi_at_call 187; refine (callsIn_wide.2 (sort_calls w.heap.size v1 l w1 hown1 hsz1 (by omega))).mono ?_)
  rintro e w2 ⟨rfl, d, hmem, hlen, hsorted, hown2, hb2⟩
  obtain ⟨a2, cap2, rfl, hrd2, hnil2, hlen2, hbl2⟩ := RdR.of_own (l := d) (by rw [← hlen] at hown2; exact hown2)
  have hsz2 := (hb1.trans hb2).size
  have HS : Hid (_ ∧ _ ∧ _ ∧ _) := Lib.hid ⟨hmem, hlen, hsorted, hown2⟩
  clear hmem hsorted hown2 hown1 hcl
  gi_wp2_with fail
  obtain ⟨n, hnl⟩ : ∃ n, n = l.length := ⟨_, rfl⟩
  refine wpIn_loop (fun a' wr => ∃ (k : Nat) (u5 u15 u16 u17 u18 u19 u55 : Value) (Ds : List Nat),
    a' = { tmps := #[.slice a2 l.length cap2, undef, .slice none 0 0, .pointer (some ⟨w2.heap.size, 0, none⟩), undef, u5, undef, undef, .slice a l.length cap, .slice a2 l.length cap2, .slice a2 l.length cap2, .tuple #[], .slice a2 l.length cap2, .int .i64 l.length, .int .i64 (k : Nat), u15, u16, u17, u18, u19, undef, undef, undef, undef, undef, undef, undef, undef, undef, undef, undef, undef, undef, undef, undef, undef, undef, undef, undef, undef, undef, undef, undef, undef, undef, undef, undef, undef, undef, undef, undef, undef, undef, undef, undef, u55, undef], defers := Ds.map fun D => { target := .collected D, args := #[] } } ∧
    k ≤ l.length ∧ OfI w2.heap.size w2 ((d.take k).foldl Rs.addR []) Ds wr) (fun a' _ => l.length - (intOf (a'.tmps.getD 14 undef)).toNat) ?_ ?_
  · exact ⟨0, undef, undef, undef, undef, undef, undef, undef, [], rfl, Nat.zero_le _, ⟨_, Boxed.new _ _ _, World.ownsRow_nil _ _ _ _, fun _ => rfl⟩, (Below.refl _ _).alloc (Nat.le_refl _) _, fun D h => by simp at h, List.nodup_nil⟩
  · rintro a' wr ⟨k, u5, u15, u16, u17, u18, u19, u55, Ds, rfl, hk, hI⟩
    have HI := Lib.hid hI
    clear hI hnl
    by_cases hlt : k < l.length
    · obtain ⟨b, off, rfl, hbs, hc⟩ := hrd2 (by intro e; subst e; simp at hlen; omega)
      obtain ⟨r, hr⟩ : ∃ r, d[k]? = some r := ⟨_, List.getElem?_eq_getElem (by omega)⟩
      obtain ⟨lo, hi⟩ := r
      obtain ⟨c0, c1⟩ := hc k _ hr
      have hbB := HI.out.2.1
      rw [← hbB.cell (by exact hbs)] at c0 c1
      have hsz3 := hbB.size
      have HR := Lib.hid hr
      have hrgr : Rs.rg (lo, hi) := HRG.out _ ((HS.out.1 _).1 (List.mem_of_getElem? hr))
      dsimp only at c0 c1
      clear hr hc hrd2 hbl2 hnil2
      gi_wp2_with (refine ⟨trivial, ?_⟩; gi_at_call 190; refine (callsIn_wide.2 (parts_calls (lo, hi) _)).mono ?_; rintro e w' ⟨rfl, rfl⟩)
      have hbp := World.alloc_heap_new (wr.alloc (.cells #[.int .i64 lo, .int .i64 hi] 84)) (.cells #[.int .i64 lo, .int .i64 hi] 84)
      rw [World.size_alloc] at hbp
      obtain ⟨W0, hW0⟩ : ∃ W0, (wr.alloc (.cells #[.int .i64 lo, .int .i64 hi] 84)).alloc (.cells #[.int .i64 lo, .int .i64 hi] 84) = W0 := ⟨_, rfl⟩
      have hs0 : W0.heap.size = wr.heap.size + 2 := by rw [← hW0]; simp
      rw [hW0] at hbp ⊢
      have h0 : OfJ w2.heap.size w2 ((d.take k).foldl Rs.addR []) Ds (wr.heap.size + 1) W0.heap.size [] W0 := by
        obtain ⟨⟨v, hv, hrow, hvn⟩, hb, hm, hd⟩ := HI.out
        rw [← hW0]
        refine ⟨⟨v, (hv.alloc _).alloc _, (hrow.alloc _).alloc _, ?_, hvn⟩, (hb.alloc hb.size _).alloc (by simp; omega) _, fun D hD => ?_, hd, ⟨_, by rw [hW0]; exact hbp, rfl⟩⟩
        · rcases hrow.2 with ⟨rfl, _⟩ | ⟨g, cap, cur, rfl, _, hgb, _⟩
          · simp [Value.ownBlock]
          · have hlt := (Array.getElem?_eq_some_iff.1 hgb).1
            simp [Value.ownBlock]; omega
        · obtain ⟨h1, h2⟩ := hm D hD
          have hlt := (Array.getElem?_eq_some_iff.1 h2).1
          exact ⟨h1, by simp; omega, (Below.heap_alloc _ _ _ (by simp; omega)).trans ((Below.heap_alloc _ _ _ hlt).trans h2)⟩
      have HI0 := Lib.hid h0
      clear h0 hW0
      refine wpIn_rangeFunc_ownH rfl (by decide) (gf := 203) (lb := #[.pointer (some ⟨wr.heap.size + 1, 0, none⟩)]) rfl trivial (enters_of Tryz.func203 (by kernel_rfl) rfl)
        (parts1_stops 5 (by decide) (wr.heap.size + 1) (lo, hi) hrgr W0 (by omega) hbp) (fun {A B C} h1 h2 => h2.trans h1) (fun W l o o' hl _ _ _ => World.putObj_heap_other (by omega)) (Below.refl _ _) (fun _ => rfl)
        (OfJ w2.heap.size w2 ((d.take k).foldl Rs.addR []) Ds (wr.heap.size + 1) W0.heap.size) (fun _ _ _ => False) (OfJ_own (by omega) rfl (by omega)) (fun _ _ _ _ _ hs _ _ => hs) HI0.out
        (fun x a' W => ∃ Bx, a' = { tmps := #[.slice (some ⟨b, off, none⟩) l.length cap2, undef, .slice none 0 0, .pointer (some ⟨w2.heap.size, 0, none⟩), undef, .pointer (some ⟨wr.heap.size, 0, none⟩), .pointer (some ⟨Bx, 0, none⟩), undef, .slice a l.length cap, .slice (some ⟨b, off, none⟩) l.length cap2, .slice (some ⟨b, off, none⟩) l.length cap2, .tuple #[], .slice (some ⟨b, off, none⟩) l.length cap2, .int .i64 l.length, .int .i64 (k : Nat), .bool true, .pointer (some ⟨b, off + k * 2, none⟩), .agg #[.int .i64 lo, .int .i64 hi], .agg #[.int .i64 lo, .int .i64 hi], .func (.func 203) #[] #[.pointer (some ⟨wr.heap.size + 1, 0, none⟩)], .agg #[.int .i64 x.1.1, .int .i64 x.1.2], undef, undef, undef, undef, undef, undef, undef, undef, undef, undef, undef, undef, undef, undef, undef, undef, undef, undef, undef, undef, undef, undef, undef, undef, undef, undef, undef, undef, undef, undef, undef, undef, undef, undef, u55, undef], defers := [] } ∧ W.heap[Bx]? = some (.cells #[.int .i64 x.1.1, .int .i64 x.1.2] 84 (0, 0)))
        (fun x a' => by
          rintro _ X Y row ⟨Bx, e, h⟩ hg hr
          refine ⟨Bx, e, (hg.block Bx (Array.getElem?_eq_some_iff.1 h).1 (fun e' => ?_)).trans h⟩
          obtain ⟨_, o, ho, hoc⟩ := hr Bx e'.symm
          rw [h] at ho; cases ho; cases hoc) ?assign ?body ?done ?stop
      case assign =>
        rintro l' pre x W K hi' hK
        have HIW := Lib.hid hi'
        clear hi'
        dsimp only [rAgg]
        gi_wp2
        refine hK _ _ ((KeepsOthers.alloc _ _).from _) (Below.heap_alloc _ _ _ (by obtain ⟨bp, h, _⟩ := HIW.out.2.2.2.2; exact (Array.getElem?_eq_some_iff.1 h).1)) ?_ ⟨W.heap.size, rfl, World.alloc_heap_new W _⟩
        exact (OfJ_own (by omega) rfl (by omega)).alloc _ HIW.out
      case body =>
        rintro l' pre x a' W hl' ⟨rl, hrl⟩ hJ ⟨Bx, rfl, hbx⟩ hlen'
        obtain ⟨⟨v, hv, hrow, hne, hvn⟩, hb, hm, hd, hp⟩ := hJ
        obtain ⟨⟨x1, x2⟩, hx0, hx1, hx2, hx3⟩ := x
        dsimp only at hx0 hx1 hx2 hx3 hbx
        obtain ⟨p0, p1⟩ : W.cell? ⟨Bx, 0, none⟩ = some (.int .i64 x1) ∧ W.cell? ⟨Bx, 1, none⟩ = some (.int .i64 x2) := by simp [World.cell?, hbx]
        have hvc := hv.cell
        have hvf := hv.frozen
        obtain ⟨av, cv, hav⟩ : ∃ av cv, v = .slice av ((pre.map (·.1)).foldl Rs.mg ((d.take k).foldl Rs.addR [])).length cv := by
          rcases hrow.2 with ⟨hv', h0⟩ | ⟨g, cap', cur, hv', _⟩
          · exact ⟨none, 0, by rw [hv', h0]⟩
          · exact ⟨_, _, hv'⟩
        subst hav
        have hbd : ∀ q ∈ (pre.map (·.1)).foldl Rs.mg ((d.take k).foldl Rs.addR []), Rs.Bd q :=
          Rs.bd_foldl _ _ (Rs.bd_addRs _ _ (fun q h => by simp at h) (fun r hr' => HRG.out r ((HS.out.1 r).1 (List.mem_of_mem_take hr')))) (fun q hq => by obtain ⟨y, _, rfl⟩ := List.mem_map.1 hq; exact y.2)
        have hal : ((pre.map (·.1)).foldl Rs.mg ((d.take k).foldl Rs.addR [])).length ≤ 2 * l.length + 2 := by
          have h1 := Rs.foldl_mg_len (pre.map (·.1)) ((d.take k).foldl Rs.addR [])
          have h2 := Rs.foldl_len (d.take k) []
          simp at h1 h2
          omega
        generalize hacc : (pre.map (·.1)).foldl Rs.mg ((d.take k).foldl Rs.addR []) = acc at *
        have hfold : ((pre ++ [(⟨(x1, x2), ⟨hx0, hx1, hx2, hx3⟩⟩ : PtR)]).map (·.1)).foldl Rs.mg ((d.take k).foldl Rs.addR []) = Rs.mg acc (x1, x2) := by rw [List.map_append, List.foldl_append, hacc]; rfl
        have hszW := hb.size
        have HW : Hid (_ ∧ _ ∧ _ ∧ _ ∧ _ ∧ _ ∧ _ ∧ _ ∧ _ ∧ _) := Lib.hid ⟨hv, hrow, hne, hvn, hb, hm, hd, hp, hbx, hfold⟩
        clear hv hrow hne hvn hb hm hd hp hbx hacc hfold hrl hl' hlen'
        obtain ⟨i0, hi0, hz0, hz1, hz2⟩ := info_parts Tryz.info84
        cases acc with
        | nil =>
          have hmx : Tryz.prog.follows .mixedOrders = true := by kernel_rfl
          obtain ⟨rfl, rfl⟩ : av = none ∧ cv = 0 := by have := HW.out.2.2.2.1 rfl; cases this; exact ⟨rfl, rfl⟩
          gi_wp2_with fail
          refine wpIn_region_quiet_tailR 13 hmx (by kernel_rfl) (by kernel_rfl) ?_
          simp only [List.take_succ_cons, List.take_zero, List.drop_succ_cons, List.drop_zero]
          repeat (go_big_quiet_step (fail))
          refine wpQuiet_nil ?_
          gi_wp2_with (gi_at_builtin; refine wpListIn_append_own _ rfl _ _ 24 rfl W.heap.size 84 i0 (.agg #[.int .i64 0, .int .i64 0]) 2 16 Tryz.underlying24 hi0 hz0 hz1 hz2 rfl (by decide) _ _ _ rfl (World.ownsRow_nil _ _ _ _) ⟨W.heap.size, 0, none⟩ 1 1 [.int .i64 x1, .int .i64 x2] rfl rfl (cells_new_drew W #[.int .i64 x1, .int .i64 x2] _ _ rfl) (by intro u hu; simp at hu; rcases hu with rfl | rfl <;> rfl) (by unfold maxLen; omega) (by omega) (by simp) ?_; intro v' w1 hown' hgrow _;
                                        obtain ⟨hv, hrow, hne, hvn, hb, hm, hd, ⟨bp, hbp, hbz⟩, hbx, hfold⟩ := HW.out;
                                        obtain ⟨hv1, hk1, hk2, hk3⟩ := OfJ_append (W.drawn + 1) (by omega) hszW hv hrow hne hb hm hd ⟨bp, hbp, hbz⟩ hfold hgrow (ownsRow_base hown' hszW) (ownsRow_new hown' (Array.getElem?_eq_some_iff.1 hbp).1);
                                        obtain ⟨g', cap', rfl⟩ := ownsRow_succ hown';
                                        have hc1 := hv1.cell;
                                        have hf1 := hv1.frozen;
                                        clear hv hrow hne hvn hb hm hd hbp hbx hfold hv1 hgrow hown' hvc hvf p0 p1)
          exact ⟨hk1, hk2, hk3⟩
        | cons q t =>
          have hmx : Tryz.prog.follows .mixedOrders = true := by kernel_rfl
          obtain ⟨g, cap', e⟩ := ownsRow_succ HW.out.2.1
          obtain ⟨rfl, rfl⟩ : av = some ⟨g, 0, none⟩ ∧ cv = cap' := by cases e; exact ⟨rfl, rfl⟩
          clear e
          obtain ⟨q1, q2⟩ := q
          have hq := hbd (q1, q2) (List.mem_cons_self ..)
          obtain ⟨hq1, hq2, hq3, hq4⟩ := hq
          dsimp only at hq1 hq2 hq3 hq4
          clear hbd
          obtain ⟨c3, f3⟩ := ownsRow_cell HW.out.2.1 (j := t.length * 2 + 1) (u := .int .i64 q2) (by
            have := (rFlat_get ((q1, q2) :: t).reverse t.length (q1, q2) (by simp)).2
            simpa using this)
          rw [List.length_cons] at hvc hal
          generalize hm : t.length = m at *
          have hm1 : m ≤ 2 * 1000000000000 + 1 := by omega
          by_cases hle : x1 ≤ q2 + 1
          · have d1 : decide (x1 ≤ q2 + 1) = true := by simpa using hle
            gi_wp2_with fail
            refine wpIn_region_quiet_tailR 13 hmx (by kernel_rfl) (by kernel_rfl) ?_
            simp only [List.take_succ_cons, List.take_zero, List.drop_succ_cons, List.drop_zero]
            repeat (go_big_quiet_step (fail))
            refine wpQuiet_nil ?_
            gi_wp2_with fail
            refine wpIn_region_quiet_tailR 14 hmx (by kernel_rfl) (by kernel_rfl) ?_
            simp only [List.take_succ_cons, List.take_zero, List.drop_succ_cons, List.drop_zero]
            repeat (go_big_quiet_step (fail))
            refine wpQuiet_nil ?_
            gi_wp2_with fail
            obtain ⟨hv, hrow, hne, hvn, hb, hm', hd, hp, hbx, hfold⟩ := HW.out
            exact OfJ_widen (W.drawn + 2) (m * 2 + 1) (by rw [hm]) hv hrow (fun e => hne (by rw [e]; rfl)) hb hm' hd hp (max q2 x2) (by rw [hfold]; exact if_pos hle)
          · have d1 : decide (x1 ≤ q2 + 1) = false := by simpa using hle
            gi_wp2_with fail
            refine wpIn_region_quiet_tailR 13 hmx (by kernel_rfl) (by kernel_rfl) ?_
            simp only [List.take_succ_cons, List.take_zero, List.drop_succ_cons, List.drop_zero]
            repeat (go_big_quiet_step (fail))
            refine wpQuiet_nil ?_
            have hfr := (show (drawnTo W (W.drawn + 1)).ownsRow _ _ _ _ _ _ from HW.out.2.1).alloc (.cells #[.int .i64 x1, .int .i64 x2] 84)
            simp only [List.length_cons, hm] at hfr
            gi_wp2_with (gi_at_builtin; refine wpListIn_append_own _ rfl _ _ 24 rfl w2.heap.size 84 i0 (.agg #[.int .i64 0, .int .i64 0]) 2 16 Tryz.underlying24 hi0 hz0 hz1 hz2 rfl (by decide) _ _ _ rfl hfr ⟨W.heap.size, 0, none⟩ 1 1 [.int .i64 x1, .int .i64 x2] rfl rfl (cells_new_drew W #[.int .i64 x1, .int .i64 x2] _ _ rfl) (by intro u hu; simp at hu; rcases hu with rfl | rfl <;> rfl) (by unfold maxLen; omega) (by omega) (by simp; omega) ?_; intro v' w1 hown' hgrow _;
                                        obtain ⟨hv, hrow, hne, hvn, hb, hm', hd, ⟨bp, hbp, hbz⟩, hbx, hfold⟩ := HW.out;
                                        have hown2 : w1.ownsRow w2.heap.size 84 2 v' (((q1, q2) :: t).length + 1) (rFlat ((q1, q2) :: t).reverse ++ [.int .i64 x1, .int .i64 x2]) := (by rw [List.length_cons, hm]; exact hown');
                                        have hgg := hgrow.block (wr.heap.size + 1) (by have := (Array.getElem?_eq_some_iff.1 hbp).1; simp; omega) (fun e => hne e.symm);
                                        have hgn : v'.ownBlock ≠ some (wr.heap.size + 1) := ownsRow_not_small hown' (hgg.trans ((Below.heap_alloc (drawnTo W (W.drawn + 1)) _ _ (Array.getElem?_eq_some_iff.1 hbp).1).trans hbp)) (by omega);
                                        obtain ⟨hv1, hk1, hk2, hk3⟩ := OfJ_append (W.drawn + 1) (by omega) hszW hv hrow hne hb hm' hd ⟨bp, hbp, hbz⟩ (hfold.trans (if_neg (show ¬ x1 ≤ q2 + 1 by omega))) hgrow hown2 hgn;
                                        obtain ⟨g', cap', rfl⟩ := ownsRow_succ hown';
                                        have hc1 := hv1.cell;
                                        have hf1 := hv1.frozen;
                                        clear hv hrow hne hvn hb hm' hd hbp hbx hfold hv1 hgrow hown' hown2 hvc hvf p0 p1 c3 f3 hfr)
            exact ⟨hk1, hk2, hk3⟩
      case stop =>
        rintro D c pre W _ _ h _
        exact h.elim
      case done =>
        rintro D xs W hDl hS hJ hK
        have hi2 : OfI w2.heap.size w2 ((d.take (k + 1)).foldl Rs.addR []) (D :: Ds) W := by
          obtain ⟨⟨v, hv, hrow, hne, hvn⟩, hb, hm, hd, hp⟩ := hJ
          have e1 : (xs.map (·.1)).foldl Rs.mg ((d.take k).foldl Rs.addR []) = (d.take (k + 1)).foldl Rs.addR [] := by rw [hS, Rs.take_succ HR.out, List.foldl_append]; rfl
          rw [e1] at hrow hvn
          refine ⟨⟨v, hv, hrow, hvn⟩, hb, fun D' hD' => ?_, List.nodup_cons.2 ⟨fun h => ?_, hd⟩⟩
          · rcases List.mem_cons.1 hD' with rfl | h
            · exact ⟨by omega, hK⟩
            · exact ⟨(hm D' h).1, (hm D' h).2.2⟩
          · have := (hm D h).2.1; omega
        have HI2 := Lib.hid hi2
        clear hi2 hJ hS hK
        gi_wp2
        refine ⟨⟨k + 1, _, _, _, _, _, _, _, D :: Ds, by simp only [Int.natCast_add, Int.cast_ofNat_Int]; rfl, by omega, HI2.out⟩, ?_⟩
        simp [intOf]
        omega
    · obtain ⟨⟨v, hv, hrow, hvn⟩, hb, hm, hd⟩ := HI.out
      have hvc := hv.cell
      obtain ⟨av, cv, hav⟩ : ∃ av cv, v = .slice av ((d.take k).foldl Rs.addR []).length cv := by
        rcases hrow.2 with ⟨hv', h0⟩ | ⟨g, cap', cur, hv', _⟩
        · exact ⟨none, 0, by rw [hv', h0]⟩
        · exact ⟨_, _, hv'⟩
      subst hav
      gi_wp2
      have hkk : d.take k = d := List.take_of_length_le (by omega)
      rw [hkk] at hrow ⊢
      refine leaves_marks (B0 := w2.heap.size) (fun W => W.ownsRow w2.heap.size 84 2 (.slice av (d.foldl Rs.addR []).length cv) (d.foldl Rs.addR []).length (rFlat (d.foldl Rs.addR []).reverse) ∧ Below w2.heap.size w2 W)
        (fun W D h hD hK => ⟨ownsRow_putObj h.1 _ hK rfl, h.2.grown (grownBy_putObj' W D _) h.2.size (fun k e => by cases e; exact hD)⟩) (fun W h => ?_) Ds wr ⟨hrow, hb⟩ hm hd
      refine ⟨_, results_tmp rfl _ _ _, _, rfl, ?_, (hb1.trans hb2).trans (h.2.mono hsz2)⟩
      have hset : Rs.setOf l = (d.foldl Rs.addR []).reverse := (Rs.fromSorted_eq l d HRG.out HS.out.1 HS.out.2.2.1).symm
      rw [hset, List.length_reverse]
      exact ownsRow_base h.1 hsz2
end Go.Proofs.YtimahlimmblgkaaGreatDoor
