/- Chapter 07: Parse. -/
import Derived.Test.YtimahlimmblgkaaGreatDoorPTrJ
namespace Go.Proofs.YtimahlimmblgkaaGreatDoor.Sy
open Go Go.RowKit
/-- what Parse gives -/
def ParsePost (s : B) (w : World) (e : Ending) (w' : World) : Prop :=
  ((∃ (t : T) (x : L), parse s = .ok t ∧ e = .returned (.tuple #[x.val, .int .i64 0]) ∧ x.tree = t ∧ RdT (fun b => w.heap.size ≤ b) w' x) ∨
    (∃ c : Int, parse s = .error c ∧ e = .returned (.tuple #[.agg #[.int .u8 0, .slice none 0 0, .int .i64 0, .int .i64 0, .bool false, .slice none 0 0], .int .i64 c]))) ∧ Below w.heap.size w w'
/-- a node's cells set anew -/
theorem six_zero {w wT wE : World} {a0 a1 a2 a3 a4 a5 : Value} (hr : wT.heap[w.heap.size]? = some zeroN) (hb : Below w.heap.size w wT)
    (hE : wE = ((((((wT.setCell ⟨w.heap.size, 0, none⟩ a0).setCell ⟨w.heap.size, 1, none⟩ a1).setCell ⟨w.heap.size, 2, none⟩ a2).setCell ⟨w.heap.size, 3, none⟩ a3).setCell ⟨w.heap.size, 4, none⟩ a4).setCell ⟨w.heap.size, 5, none⟩ a5)) :
    wE.heap[w.heap.size]? = some (.cells #[a0, a1, a2, a3, a4, a5] 27 (0, 0)) ∧ Below w.heap.size w wE ∧ Fr (fun k => k = w.heap.size) wT wE := by
  have hs : Fr (fun k => k = w.heap.size) wT wE := by rw [hE]; exact six_fr
  exact ⟨by rw [hE]; exact six_cells hr, hb.trans (hs.below (B := w.heap.size) (fun k hk e => by omega) hb.size), hs⟩
theorem parse_long {s : B} (h : 1024 < s.length) : parse s = .error 3 := by unfold parse; rw [if_pos h]
theorem parse_none {s : B} (h : ¬ 1024 < s.length) (ha : pAlt (3 * s.length + 3) s [] = none) : parse s = .error 70 := by unfold parse; rw [if_neg h, ha]
theorem parse_some {s : B} {n : T} {k : Nat} (h : ¬ 1024 < s.length) (ha : pAlt (3 * s.length + 3) s [] = some (n, k)) : parse s = (if k < s.length then .error 70
      else if (look n).firm = false then .error 71
      else if 30 < (look n).groups then .error 5
      else if 40 < (look n).depth then .error 72
      else .ok n) := by unfold parse; rw [if_neg h, ha]
set_option maxRecDepth 100000 in
set_option maxHeartbeats 8000000 in
theorem parse_calls (s : ByteArray) (w : World) (hV : Vs w) (hs : s.size ≤ 4611686018427387904) : Calls Tryz.prog 18 #[.string s] w (ParsePost s.data.toList w) := by
  by_cases hl : 1024 < s.size
  · have HL := Lib.hid hl
    go_enter Tryz.func18, Tryz.ntmps18
    go_wp2_with fail
    refine bodyPost_ret (v := .tuple #[.agg #[.int .u8 0, .slice none 0 0, .int .i64 0, .int .i64 0, .bool false, .slice none 0 0], .int .i64 3]) (by simp [results, Tryz.results18, go_sem]) rfl ⟨.inr ⟨3, parse_long (by rw [len_d]; exact HL.out), rfl⟩, (Below.refl _ _).alloc (Nat.le_refl _) _⟩
  · have HL := Lib.hid (show ¬ 1024 < s.data.toList.length by rw [len_d]; exact hl)
    have HV := Lib.hid hV
    clear hV
    go_enter Tryz.func18, Tryz.ntmps18
    go_wp2_with fail
    go_at_call 52
    refine at_world ?_
    intro w1 hw1
    have hr1 : w1.heap[w.heap.size]? = some zeroN := by rw [hw1]; exact ((((Below.refl (w.alloc (.cells #[.int .u8 0, .slice none 0 0, .int .i64 0, .int .i64 0, .bool false, .slice none 0 0] 27)).heap.size _).alloc (Nat.le_refl _) _).block _ (by simp)).trans (heap_alloc_new w _))
    have hp1 : Pa w1 (w.heap.size + 1) s 0 := by rw [hw1]; exact alloc_at _ (by simp) _
    have hb1 : Below w.heap.size w w1 := by rw [hw1]; exact ((Below.refl _ _).alloc (Nat.le_refl _) _).alloc (by simp) _
    clear hw1
    have HA := (parse_fns w (w.heap.size + 1) s (3 * s.data.toList.length + 3)).1 0 w1 ⟨HV.out, hb1, by omega, hp1, Nat.zero_le _, by omega⟩ (by rw [len_d]; omega)
    rw [List.drop_zero] at HA
    have H1 := Lib.hid (And.intro hr1 hb1)
    have hlt1 : w.heap.size + 1 < w1.heap.size := hp1.lt
    clear hr1 hb1 hp1
    refine HA.mono ?_
    clear HA
    rintro e W ⟨⟨y, hy, hcase⟩, hfW⟩
    have hr : W.heap[w.heap.size]? = some zeroN := (hfW.block _ (by omega) (by omega)).trans H1.out.1
    have hbW : Below w.heap.size w W := H1.out.2.trans (hfW.below (B := w.heap.size) (fun k hk e => by omega) (by omega))
    have hgW := hfW.size
    have HW := Lib.hid (And.intro hr (And.intro hbW (hy.mono (Q := fun b => w.heap.size ≤ b ∧ b ≠ w.heap.size) (fun b hb _ => by omega))))
    clear hr hbW hy hfW
    obtain ⟨f, hf⟩ : ∃ q, q = look y.tree := ⟨_, rfl⟩
    have HF := Lib.hid hf
    have HK : Hid (∀ W', Below W.heap.size W W' → Calls Tryz.prog 43 #[y.val] W' fun e w' => e = .returned (fV f) ∧ Below W'.heap.size W' w') := Lib.hid (fun W' hb => by rw [hf]; exact look_calls y W' (HW.out.2.2.bel hb))
    clear hf
    obtain ⟨dp, gr, nu, sh, fi⟩ := f
    obtain ⟨ky, say, scy, sy, mny, mxy, lzy, nay, ncy, ly⟩ := y
    rcases hcase with ⟨m, j, ho, he, hym, hpa, hj⟩ | ⟨ho, he⟩
    rotate_left
    · replace he : e = .returned (.tuple #[.agg #[.int .u8 ky, .slice say sy.length scy, .int .i64 mny, .int .i64 mxy, .bool lzy, .slice nay ly.length ncy], .bool false]) := he
      subst he
      have HO := Lib.hid ho
      clear ho
      go_wp2_with fail
      go_at_call 43
      refine (HK.out _ ((Below.refl _ _).alloc (Nat.le_refl _) _)).mono ?_
      rintro e w6 ⟨he6, hb6⟩
      replace he6 : e = .returned (.agg #[.int .i64 dp, .int .i64 gr, .bool nu, .bool sh, .bool fi]) := he6
      subst he6
      have hb6' : Below W.heap.size W w6 := Bthen ((Below.refl _ _).alloc (Nat.le_refl _) _) hb6
      have hr6 : ∀ o, (w6.alloc o).heap[w.heap.size]? = some zeroN := fun o => ((hb6'.alloc hb6'.size o).block _ (by omega)).trans HW.out.1
      have hy6 : ∀ o, (w6.alloc o).heap[W.heap.size]? = some (.cells #[.int .u8 ky, .slice say sy.length scy, .int .i64 mny, .int .i64 mxy, .bool lzy, .slice nay ly.length ncy] 27 (0, 0)) := fun o => (((hb6).alloc hb6.size o).block _ (by simp)).trans (heap_alloc_new W _)
      have d0 := fun o => block_cell (hr6 o) 0 _ rfl
      have d1 := fun o => block_cell (hr6 o) 1 _ rfl
      have d2 := fun o => block_cell (hr6 o) 2 _ rfl
      have d3 := fun o => block_cell (hr6 o) 3 _ rfl
      have d4 := fun o => block_cell (hr6 o) 4 _ rfl
      have d5 := fun o => block_cell (hr6 o) 5 _ rfl
      have v0 := fun o => block_froz (hr6 o) 0
      have v1 := fun o => block_froz (hr6 o) 1
      have v2 := fun o => block_froz (hr6 o) 2
      have v3 := fun o => block_froz (hr6 o) 3
      have v4 := fun o => block_froz (hr6 o) 4
      have v5 := fun o => block_froz (hr6 o) 5
      have z0 := fun o => block_cell (hy6 o) 0 _ rfl
      have z1 := fun o => block_cell (hy6 o) 1 _ rfl
      have z2 := fun o => block_cell (hy6 o) 2 _ rfl
      have z3 := fun o => block_cell (hy6 o) 3 _ rfl
      have z4 := fun o => block_cell (hy6 o) 4 _ rfl
      have z5 := fun o => block_cell (hy6 o) 5 _ rfl
      have H6 := Lib.hid (And.intro hb6' hr6)
      clear hb6 hb6' hr6 hy6
      go_wp2_with fail
      refine post_world ?_
      intro wE hwE
      have hD := six_zero (H6.out.2 _) (HW.out.2.1.trans ((H6.out.1.alloc H6.out.1.size _).mono HW.out.2.1.size)) hwE
      have s0 : wE.cell? ⟨w.heap.size, 0, none⟩ = some (.int .u8 0) := block_cell hD.1 0 _ rfl
      have s1 : wE.cell? ⟨w.heap.size, 1, none⟩ = some (.slice none 0 0) := block_cell hD.1 1 _ rfl
      have s2 : wE.cell? ⟨w.heap.size, 2, none⟩ = some (.int .i64 0) := block_cell hD.1 2 _ rfl
      have s3 : wE.cell? ⟨w.heap.size, 3, none⟩ = some (.int .i64 0) := block_cell hD.1 3 _ rfl
      have s4 : wE.cell? ⟨w.heap.size, 4, none⟩ = some (.bool false) := block_cell hD.1 4 _ rfl
      have s5 : wE.cell? ⟨w.heap.size, 5, none⟩ = some (.slice none 0 0) := block_cell hD.1 5 _ rfl
      have HE := Lib.hid hD.2
      clear hD hwE d0 d1 d2 d3 d4 d5 v0 v1 v2 v3 v4 v5 z0 z1 z2 z3 z4 z5
      refine bodyPost_ret (v := .tuple #[.agg #[.int .u8 0, .slice none 0 0, .int .i64 0, .int .i64 0, .bool false, .slice none 0 0], .int .i64 70]) (by simp [results, Tryz.results18, go_sem, s0, s1, s2, s3, s4, s5]) rfl ⟨.inr ⟨70, ?_, rfl⟩, HE.out.1⟩
      exact parse_none HL.out HO.out
    · replace he : e = .returned (.tuple #[.agg #[.int .u8 ky, .slice say sy.length scy, .int .i64 mny, .int .i64 mxy, .bool lzy, .slice nay ly.length ncy], .bool true]) := he
      subst he
      have hps := parse_some HL.out ho
      have hff : look m = ⟨dp, gr, nu, sh, fi⟩ := by rw [← hym]; exact HF.out.symm
      rw [hff, len_d] at hps
      dsimp only at hps
      rw [Nat.zero_add] at hpa hj
      have HO := Lib.hid (And.intro hps (And.intro hym hpa))
      clear ho hym hpa hps hff
      go_wp2_with fail
      go_at_call 43
      refine (HK.out _ ((Below.refl _ _).alloc (Nat.le_refl _) _)).mono ?_
      rintro e w6 ⟨he6, hb6⟩
      replace he6 : e = .returned (.agg #[.int .i64 dp, .int .i64 gr, .bool nu, .bool sh, .bool fi]) := he6
      subst he6
      have hb6' : Below W.heap.size W w6 := Bthen ((Below.refl _ _).alloc (Nat.le_refl _) _) hb6
      have hr6 : ∀ o, (w6.alloc o).heap[w.heap.size]? = some zeroN := fun o => ((hb6'.alloc hb6'.size o).block _ (by omega)).trans HW.out.1
      have hy6 : ∀ o, (w6.alloc o).heap[W.heap.size]? = some (.cells #[.int .u8 ky, .slice say sy.length scy, .int .i64 mny, .int .i64 mxy, .bool lzy, .slice nay ly.length ncy] 27 (0, 0)) := fun o => (((hb6).alloc hb6.size o).block _ (by simp)).trans (heap_alloc_new W _)
      have d0 := fun o => block_cell (hr6 o) 0 _ rfl
      have d1 := fun o => block_cell (hr6 o) 1 _ rfl
      have d2 := fun o => block_cell (hr6 o) 2 _ rfl
      have d3 := fun o => block_cell (hr6 o) 3 _ rfl
      have d4 := fun o => block_cell (hr6 o) 4 _ rfl
      have d5 := fun o => block_cell (hr6 o) 5 _ rfl
      have v0 := fun o => block_froz (hr6 o) 0
      have v1 := fun o => block_froz (hr6 o) 1
      have v2 := fun o => block_froz (hr6 o) 2
      have v3 := fun o => block_froz (hr6 o) 3
      have v4 := fun o => block_froz (hr6 o) 4
      have v5 := fun o => block_froz (hr6 o) 5
      have z0 := fun o => block_cell (hy6 o) 0 _ rfl
      have z1 := fun o => block_cell (hy6 o) 1 _ rfl
      have z2 := fun o => block_cell (hy6 o) 2 _ rfl
      have z3 := fun o => block_cell (hy6 o) 3 _ rfl
      have z4 := fun o => block_cell (hy6 o) 4 _ rfl
      have z5 := fun o => block_cell (hy6 o) 5 _ rfl
      have hp6 : ∀ o, (w6.alloc o).heap[w.heap.size + 1]? = some (.cells #[.string s, .int .i64 (j : Int)] 104 (0, 0)) := fun o => ((hb6'.alloc hb6'.size o).block _ (by omega)).trans HO.out.2.2
      have p1 := fun o => block_cell (hp6 o) 1 _ rfl
      clear hp6
      by_cases hjs : j < s.size
      · have HC := Lib.hid hjs
        have H6 := Lib.hid (And.intro hb6' hr6)
        clear hb6 hb6' hr6 hy6
        go_wp2_with fail
        refine post_world ?_
        intro wE hwE
        have hD := six_zero (H6.out.2 _) (HW.out.2.1.trans ((H6.out.1.alloc H6.out.1.size _).mono HW.out.2.1.size)) hwE
        have s0 : wE.cell? ⟨w.heap.size, 0, none⟩ = some (.int .u8 0) := block_cell hD.1 0 _ rfl
        have s1 : wE.cell? ⟨w.heap.size, 1, none⟩ = some (.slice none 0 0) := block_cell hD.1 1 _ rfl
        have s2 : wE.cell? ⟨w.heap.size, 2, none⟩ = some (.int .i64 0) := block_cell hD.1 2 _ rfl
        have s3 : wE.cell? ⟨w.heap.size, 3, none⟩ = some (.int .i64 0) := block_cell hD.1 3 _ rfl
        have s4 : wE.cell? ⟨w.heap.size, 4, none⟩ = some (.bool false) := block_cell hD.1 4 _ rfl
        have s5 : wE.cell? ⟨w.heap.size, 5, none⟩ = some (.slice none 0 0) := block_cell hD.1 5 _ rfl
        have HE := Lib.hid hD.2
        clear hD hwE d0 d1 d2 d3 d4 d5 v0 v1 v2 v3 v4 v5 z0 z1 z2 z3 z4 z5
        refine bodyPost_ret (v := .tuple #[.agg #[.int .u8 0, .slice none 0 0, .int .i64 0, .int .i64 0, .bool false, .slice none 0 0], .int .i64 70]) (by simp [results, Tryz.results18, go_sem, s0, s1, s2, s3, s4, s5]) rfl ⟨.inr ⟨70, ?_, rfl⟩, HE.out.1⟩
        rw [HO.out.1, if_pos HC.out]
      · have HC := Lib.hid hjs
        by_cases hfi : fi = false
        · have HC2 := Lib.hid hfi
          subst hfi
          have H6 := Lib.hid (And.intro hb6' hr6)
          clear hb6 hb6' hr6 hy6
          go_wp2_with fail
          refine post_world ?_
          intro wE hwE
          have hD := six_zero (H6.out.2 _) (HW.out.2.1.trans ((H6.out.1.alloc H6.out.1.size _).mono HW.out.2.1.size)) hwE
          have s0 : wE.cell? ⟨w.heap.size, 0, none⟩ = some (.int .u8 0) := block_cell hD.1 0 _ rfl
          have s1 : wE.cell? ⟨w.heap.size, 1, none⟩ = some (.slice none 0 0) := block_cell hD.1 1 _ rfl
          have s2 : wE.cell? ⟨w.heap.size, 2, none⟩ = some (.int .i64 0) := block_cell hD.1 2 _ rfl
          have s3 : wE.cell? ⟨w.heap.size, 3, none⟩ = some (.int .i64 0) := block_cell hD.1 3 _ rfl
          have s4 : wE.cell? ⟨w.heap.size, 4, none⟩ = some (.bool false) := block_cell hD.1 4 _ rfl
          have s5 : wE.cell? ⟨w.heap.size, 5, none⟩ = some (.slice none 0 0) := block_cell hD.1 5 _ rfl
          have HE := Lib.hid hD.2
          clear hD hwE d0 d1 d2 d3 d4 d5 v0 v1 v2 v3 v4 v5 z0 z1 z2 z3 z4 z5
          refine bodyPost_ret (v := .tuple #[.agg #[.int .u8 0, .slice none 0 0, .int .i64 0, .int .i64 0, .bool false, .slice none 0 0], .int .i64 71]) (by simp [results, Tryz.results18, go_sem, s0, s1, s2, s3, s4, s5]) rfl ⟨.inr ⟨71, ?_, rfl⟩, HE.out.1⟩
          rw [HO.out.1, if_neg HC.out, if_pos trivial]
        · have hfi' : fi = true := by simpa using hfi
          subst hfi'
          clear hfi
          by_cases hg : 30 < gr
          · have HC2 := Lib.hid hg
            have H6 := Lib.hid (And.intro hb6' hr6)
            clear hb6 hb6' hr6 hy6
            go_wp2_with fail
            refine post_world ?_
            intro wE hwE
            have hD := six_zero (H6.out.2 _) (HW.out.2.1.trans ((H6.out.1.alloc H6.out.1.size _).mono HW.out.2.1.size)) hwE
            have s0 : wE.cell? ⟨w.heap.size, 0, none⟩ = some (.int .u8 0) := block_cell hD.1 0 _ rfl
            have s1 : wE.cell? ⟨w.heap.size, 1, none⟩ = some (.slice none 0 0) := block_cell hD.1 1 _ rfl
            have s2 : wE.cell? ⟨w.heap.size, 2, none⟩ = some (.int .i64 0) := block_cell hD.1 2 _ rfl
            have s3 : wE.cell? ⟨w.heap.size, 3, none⟩ = some (.int .i64 0) := block_cell hD.1 3 _ rfl
            have s4 : wE.cell? ⟨w.heap.size, 4, none⟩ = some (.bool false) := block_cell hD.1 4 _ rfl
            have s5 : wE.cell? ⟨w.heap.size, 5, none⟩ = some (.slice none 0 0) := block_cell hD.1 5 _ rfl
            have HE := Lib.hid hD.2
            clear hD hwE d0 d1 d2 d3 d4 d5 v0 v1 v2 v3 v4 v5 z0 z1 z2 z3 z4 z5
            refine bodyPost_ret (v := .tuple #[.agg #[.int .u8 0, .slice none 0 0, .int .i64 0, .int .i64 0, .bool false, .slice none 0 0], .int .i64 5]) (by simp [results, Tryz.results18, go_sem, s0, s1, s2, s3, s4, s5]) rfl ⟨.inr ⟨5, ?_, rfl⟩, HE.out.1⟩
            rw [HO.out.1, if_neg HC.out, if_neg (by decide), if_pos HC2.out]
          · have HC2 := Lib.hid hg
            by_cases hd : 40 < dp
            · have HC3 := Lib.hid hd
              have H6 := Lib.hid (And.intro hb6' hr6)
              clear hb6 hb6' hr6 hy6
              go_wp2_with fail
              refine post_world ?_
              intro wE hwE
              have hD := six_zero (H6.out.2 _) (HW.out.2.1.trans ((H6.out.1.alloc H6.out.1.size _).mono HW.out.2.1.size)) hwE
              have s0 : wE.cell? ⟨w.heap.size, 0, none⟩ = some (.int .u8 0) := block_cell hD.1 0 _ rfl
              have s1 : wE.cell? ⟨w.heap.size, 1, none⟩ = some (.slice none 0 0) := block_cell hD.1 1 _ rfl
              have s2 : wE.cell? ⟨w.heap.size, 2, none⟩ = some (.int .i64 0) := block_cell hD.1 2 _ rfl
              have s3 : wE.cell? ⟨w.heap.size, 3, none⟩ = some (.int .i64 0) := block_cell hD.1 3 _ rfl
              have s4 : wE.cell? ⟨w.heap.size, 4, none⟩ = some (.bool false) := block_cell hD.1 4 _ rfl
              have s5 : wE.cell? ⟨w.heap.size, 5, none⟩ = some (.slice none 0 0) := block_cell hD.1 5 _ rfl
              have HE := Lib.hid hD.2
              clear hD hwE d0 d1 d2 d3 d4 d5 v0 v1 v2 v3 v4 v5 z0 z1 z2 z3 z4 z5
              refine bodyPost_ret (v := .tuple #[.agg #[.int .u8 0, .slice none 0 0, .int .i64 0, .int .i64 0, .bool false, .slice none 0 0], .int .i64 72]) (by simp [results, Tryz.results18, go_sem, s0, s1, s2, s3, s4, s5]) rfl ⟨.inr ⟨72, ?_, rfl⟩, HE.out.1⟩
              rw [HO.out.1, if_neg HC.out, if_neg (by decide), if_neg (by have := HC2.out; omega), if_pos HC3.out]
            · have HC3 := Lib.hid hd
              have H6 := Lib.hid (And.intro hb6' hr6)
              clear hb6 hb6' hr6 hy6
              go_wp2_with fail
              refine post_world ?_
              intro wE hwE
              have hD := six_zero (H6.out.2 _) (HW.out.2.1.trans ((H6.out.1.alloc H6.out.1.size _).mono HW.out.2.1.size)) hwE
              have hyE := (HW.out.2.2.bel (H6.out.1.alloc H6.out.1.size _)).fr hD.2.2 (fun b hb _ => hb.2)
              have s0 : wE.cell? ⟨w.heap.size, 0, none⟩ = some (.int .u8 ky) := block_cell hD.1 0 _ rfl
              have s1 : wE.cell? ⟨w.heap.size, 1, none⟩ = some (.slice say sy.length scy) := block_cell hD.1 1 _ rfl
              have s2 : wE.cell? ⟨w.heap.size, 2, none⟩ = some (.int .i64 mny) := block_cell hD.1 2 _ rfl
              have s3 : wE.cell? ⟨w.heap.size, 3, none⟩ = some (.int .i64 mxy) := block_cell hD.1 3 _ rfl
              have s4 : wE.cell? ⟨w.heap.size, 4, none⟩ = some (.bool lzy) := block_cell hD.1 4 _ rfl
              have s5 : wE.cell? ⟨w.heap.size, 5, none⟩ = some (.slice nay ly.length ncy) := block_cell hD.1 5 _ rfl
              have HE := Lib.hid (And.intro hD.2.1 hyE)
              clear hD hwE hyE d0 d1 d2 d3 d4 d5 v0 v1 v2 v3 v4 v5 z0 z1 z2 z3 z4 z5
              refine bodyPost_ret (v := .tuple #[.agg #[.int .u8 ky, .slice say sy.length scy, .int .i64 mny, .int .i64 mxy, .bool lzy, .slice nay ly.length ncy], .int .i64 0]) (by simp [results, Tryz.results18, go_sem, s0, s1, s2, s3, s4, s5]) rfl ⟨.inl ⟨m, _, ?_, rfl, HO.out.2.1, HE.out.2.mono (fun b hb _ => hb.1)⟩, HE.out.1⟩
              rw [HO.out.1, if_neg HC.out, if_neg (by decide), if_neg (by have := HC2.out; omega), if_neg (by have := HC3.out; omega)]
end Go.Proofs.YtimahlimmblgkaaGreatDoor.Sy
