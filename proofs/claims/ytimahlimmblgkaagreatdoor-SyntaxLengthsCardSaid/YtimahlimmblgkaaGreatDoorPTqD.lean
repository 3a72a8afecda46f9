/- Chapter 07: lengths. -/
import Derived.Test.YtimahlimmblgkaaGreatDoorPTqC
import Derived.Test.YtimahlimmblgkaaGreatDoorPTpB
namespace Go.Proofs.YtimahlimmblgkaaGreatDoor.Sy
open Go Go.RowKit
set_option maxRecDepth 100000 in
theorem times_calls (a n : Int) (w : World) (ha : -1 ≤ a) (ha2 : a ≤ 1073741824) (hn : -1 ≤ n) (hn2 : n ≤ 1000) : Calls Tryz.prog 47 #[.int .i64 a, .int .i64 n] w fun e w' => e = .returned (.int .i64 (timesP a n)) ∧ w = w' := by
  rcases (show a = 0 ∨ (a ≠ 0 ∧ n = 0) ∨ (a ≠ 0 ∧ n ≠ 0 ∧ a = -1) ∨ (a ≠ 0 ∧ n ≠ 0 ∧ a ≠ -1 ∧ n = -1) ∨ (a ≠ 0 ∧ n ≠ 0 ∧ a ≠ -1 ∧ n ≠ -1) by omega) with rfl | ⟨h1, rfl⟩ | ⟨h1, h2, rfl⟩ | ⟨h1, h2, h3, rfl⟩ | ⟨h1, h2, h3, h4⟩
  · go_enter Tryz.func47, Tryz.ntmps47
    go_wp2
    go_ret
    exact ⟨by simp [timesP], rfl⟩
  · have h1' : (a == 0) = false := beq_eq_false_iff_ne.2 h1
    go_enter Tryz.func47, Tryz.ntmps47
    go_wp2
    go_ret
    exact ⟨by simp [timesP], rfl⟩
  · have h2' : (n == 0) = false := beq_eq_false_iff_ne.2 h2
    go_enter Tryz.func47, Tryz.ntmps47
    go_wp2
    go_ret
    exact ⟨by simp [timesP, h2], rfl⟩
  · have h1' : (a == 0) = false := beq_eq_false_iff_ne.2 h1
    have h3' : (a == -1) = false := beq_eq_false_iff_ne.2 h3
    go_enter Tryz.func47, Tryz.ntmps47
    go_wp2
    go_ret
    exact ⟨by simp [timesP, h1], rfl⟩
  · have h1' : (a == 0) = false := beq_eq_false_iff_ne.2 h1
    have h2' : (n == 0) = false := beq_eq_false_iff_ne.2 h2
    have h3' : (a == -1) = false := beq_eq_false_iff_ne.2 h3
    have h4' : (n == -1) = false := beq_eq_false_iff_ne.2 h4
    have hp0 : 0 ≤ a * n := Int.mul_nonneg (by omega) (by omega)
    have hp1 : a * n ≤ 1073741824 * 1000 := Int.mul_le_mul ha2 hn2 (by omega) (by omega)
    go_enter Tryz.func47, Tryz.ntmps47
    go_wp2
    go_ret
    exact ⟨by simp [timesP, h1, h2, h3, h4], rfl⟩
set_option maxRecDepth 100000 in
theorem plus_calls (a b : Int) (w : World) (ha : -1 ≤ a) (ha2 : a ≤ 1073741824) (hb : -1 ≤ b) (hb2 : b ≤ 1073741824) : Calls Tryz.prog 48 #[.int .i64 a, .int .i64 b] w fun e w' => e = .returned (.int .i64 (plusP a b)) ∧ w = w' := by
  rcases (show a = -1 ∨ (a ≠ -1 ∧ b = -1) ∨ (a ≠ -1 ∧ b ≠ -1) by omega) with rfl | ⟨h1, rfl⟩ | ⟨h1, h2⟩
  · go_enter Tryz.func48, Tryz.ntmps48
    go_wp2
    go_ret
    exact ⟨by simp [plusP], rfl⟩
  · have h1' : (a == -1) = false := beq_eq_false_iff_ne.2 h1
    go_enter Tryz.func48, Tryz.ntmps48
    go_wp2
    go_ret
    exact ⟨by simp [plusP], rfl⟩
  · have h1' : (a == -1) = false := beq_eq_false_iff_ne.2 h1
    have h2' : (b == -1) = false := beq_eq_false_iff_ne.2 h2
    go_enter Tryz.func48, Tryz.ntmps48
    go_wp2
    go_ret
    exact ⟨by simp [plusP, h1, h2], rfl⟩
/-- what holds of a length and of one without an end -/
def PB (p : Int × Int) : Prop := (0 ≤ p.1 ∧ p.1 ≤ 1073741824) ∧ -1 ≤ p.2 ∧ p.2 ≤ 1073741824
theorem PB.of {n : Bool} {p : Int × Int} (h : LenOK n p) : PB p := by
  obtain ⟨h1, h2, h3, _⟩ := h
  exact ⟨⟨h1, h2⟩, by omega, by omega⟩
theorem plusP_bd {a b : Int} (ha : -1 ≤ a) (hb : -1 ≤ b) : -1 ≤ plusP a b ∧ plusP a b ≤ 1073741824 ∧ (0 ≤ a → 0 ≤ b → 0 ≤ plusP a b) := by
  unfold plusP; split <;> omega
theorem timesP_bd {a b : Int} (ha : -1 ≤ a) (hb : -1 ≤ b) : -1 ≤ timesP a b ∧ timesP a b ≤ 1073741824 ∧ (0 ≤ a → 0 ≤ b → 0 ≤ timesP a b) := by
  unfold timesP
  split
  · omega
  · split
    · omega
    · have : 0 ≤ a * b := Int.mul_nonneg (by omega) (by omega)
      omega
theorem PB.step {k mn mx : Int} {first : Bool} {r x : Int × Int} (hr : PB r) (hx : PB x) (h5 : k = 5 → 0 ≤ mn ∧ -1 ≤ mx) : PB (stepLen k mn mx first r x) := by
  obtain ⟨⟨a1, a2⟩, a3, a4⟩ := hr
  obtain ⟨⟨b1, b2⟩, b3, b4⟩ := hx
  unfold stepLen
  split
  · rename_i hk
    obtain ⟨c1, c2⟩ := h5 hk
    have := timesP_bd (a := x.1) (b := mn) (by omega) (by omega)
    have := timesP_bd (a := x.2) (b := mx) b3 c2
    exact ⟨⟨by dsimp only; omega, by dsimp only; omega⟩, by dsimp only; omega, by dsimp only; omega⟩
  split
  · have := plusP_bd (a := r.1) (b := x.1) (by omega) (by omega)
    have := plusP_bd (a := r.2) (b := x.2) a3 b3
    exact ⟨⟨by dsimp only; omega, by dsimp only; omega⟩, by dsimp only; omega, by dsimp only; omega⟩
  · refine ⟨⟨by dsimp only; omega, by dsimp only; omega⟩, ?_, ?_⟩
    · dsimp only; split <;> omega
    · dsimp only; split <;> omega
/-- what holds at the head of the loop over a node's parts -/
def GRel (w : World) (k mn mx : Int) (l : List L) (p0 : Int × Int) (N : Array Value) (b2 n : Nat) (u5 u6 i : Value) (wr : World) : Prop :=
  ∃ (j : Nat) (p : Int × Int), j ≤ n ∧ i = .int .i64 j ∧ u5 = .int .i64 p.1 ∧ u6 = .int .i64 p.2 ∧ PB p ∧ lensL k mn mx (decide (j = 0)) (treeL (l.drop j)) p = lensL k mn mx true (treeL l) p0 ∧
    wr.heap[b2]? = some (.cells N 27 (0, 0)) ∧ Below w.heap.size w wr
set_option maxRecDepth 100000 in
set_option maxHeartbeats 8000000 in
theorem visitL_calls {P : Nat → Prop} {w0 : World} {x : L} (h : RdT P w0 x) : (look x.tree).shaped = true → ∀ (c : Nat) (w : World), Below w0.heap.size w0 w → w.cell? ⟨c, 0, none⟩ = some (.func (.func 46) #[] #[.pointer (some ⟨c, 0, none⟩)]) →
    Calls Tryz.prog 46 #[x.val, .pointer (some ⟨c, 0, none⟩)] w fun e w' => e = .returned (.tuple #[.int .i64 (lens x.tree).1, .int .i64 (lens x.tree).2]) ∧ Below w.heap.size w w' := by
  induction h with
  | @mk k sa sc s mn mx lz na nc l hk hmn hmx hs hsl hn hnl hnb hP sub ih =>
    intro hsh c w hbw hc
    rw [L.tree, look_shaped, treeL_map, List.all_map] at hsh
    rw [Bool.and_eq_true, List.length_map] at hsh
    obtain ⟨hs1, hs2⟩ := hsh
    have hshl : ∀ x ∈ l, (look x.tree).shaped = true := fun x hx => List.all_eq_true.1 hs2 x hx
    have h5 : k = 5 → (0 ≤ mn ∧ mn ≤ 1000) ∧ -1 ≤ mx ∧ mx ≤ 1000 := fun e => by
      rcases shapedN_cases hs1 with ⟨h, _⟩ | ⟨h, _⟩ | ⟨h, _⟩ | ⟨h, _⟩ | ⟨h, _, h1, h2, _⟩ | ⟨h, _⟩ <;> omega
    have hpb : ∀ x ∈ l, PB (lens x.tree) := fun x hx => PB.of (lens_ok _ (hshl x hx))
    have HI := Lib.hid (And.intro ih (And.intro hshl hpb))
    have HN := Lib.hid hn
    have HB := Lib.hid hbw
    have H5 := Lib.hid h5
    obtain ⟨m, hm⟩ : ∃ m, m = s.length := ⟨_, rfl⟩
    obtain ⟨n, hn⟩ : ∃ n, n = l.length := ⟨_, rfl⟩
    have HM := Lib.hid (And.intro hm hn)
    show Calls Tryz.prog 46 #[.agg #[.int .u8 k, .slice sa s.length sc, .int .i64 mn, .int .i64 mx, .bool lz, .slice na l.length nc], .pointer (some ⟨c, 0, none⟩)] w _
    rw [← hm, ← hn]
    rw [← hn] at hnl
    clear ih hs hbw hm hn sub hP hnb hs1 hs2 hshl h5 hpb hsl
    have hclt := cell_lt hc
    obtain ⟨p0, hp0⟩ : ∃ q : Int × Int, q = (if k = 2 then (1, 1) else (0, 0)) := ⟨_, rfl⟩
    have HP0 := Lib.hid hp0
    have hlen : Hid (lens (L.mk k sa sc s mn mx lz na nc l).tree = lensL k mn mx true (treeL l) p0) := Lib.hid (by rw [HP0.out]; rfl)
    clear hp0
    go_enter Tryz.func46, Tryz.ntmps46
    go_upto_if 13 with fail
    go_cut [5, 6] (fun s5 s6 wx => s5 = .int .i64 p0.1 ∧ s6 = .int .i64 p0.2 ∧ wx.heap[w.heap.size]? = some (.cells #[.int .u8 k, .slice sa m sc, .int .i64 mn, .int .i64 mx, .bool lz, .slice na n nc] 27 (0, 0)) ∧ Below w.heap.size w wx)
    case first =>
      have e2 : (w.alloc (.cells #[.int .u8 k, .slice sa m sc, .int .i64 mn, .int .i64 mx, .bool lz, .slice na n nc] 27)).heap[w.heap.size]? = some (.cells #[.int .u8 k, .slice sa m sc, .int .i64 mn, .int .i64 mx, .bool lz, .slice na n nc] 27 (0, 0)) := heap_alloc_new w _
      have HE := Lib.hid e2
      clear e2
      by_cases h2 : k = 2
      · subst h2
        go_wp2_with fail
        go_meet
        exact ⟨by rw [HP0.out]; rfl, by rw [HP0.out]; rfl, HE.out, (Below.refl _ _).alloc (Nat.le_refl _) _⟩
      · have h2' : (k == 2) = false := beq_eq_false_iff_ne.2 h2
        go_wp2_with fail
        go_meet
        exact ⟨by rw [HP0.out, if_neg h2], by rw [HP0.out, if_neg h2], HE.out, (Below.refl _ _).alloc (Nat.le_refl _) _⟩
    case rest =>
    obtain ⟨rfl, rfl, e2, hb1⟩ := hcut
    obtain ⟨w1, hw1⟩ : ∃ q, q = wc := ⟨_, rfl⟩
    subst hw1
    obtain ⟨b2, hb2⟩ : ∃ q, q = w.heap.size := ⟨_, rfl⟩
    rw [← hb2] at e2 ⊢
    have HE := Lib.hid (And.intro hb2 (And.intro e2 hb1))
    have c5 : w1.cell? ⟨b2, 5, none⟩ = some (.slice na n nc) := block_cell e2 5 _ rfl
    clear hb2 e2 hb1
    go_wp2_with fail
    clear c5
    go_loopw [5, 6, 17] (fun u5 u6 i wr => GRel w k mn mx l p0 #[.int .u8 k, .slice sa m sc, .int .i64 mn, .int .i64 mx, .bool lz, .slice na n nc] b2 n u5 u6 i wr) (fun _ _ i _ => n - (intOf i).toNat)
    case atStart =>
      exact ⟨0, p0, Nat.zero_le _, rfl, rfl, rfl, by rw [HP0.out]; split <;> exact ⟨⟨by decide, by decide⟩, by decide, by decide⟩, rfl, HE.out.2.1, HE.out.2.2⟩
    case round =>
      unfold GRel at hrel
      obtain ⟨j, p, hj, rfl, rfl, rfl, hpb, hl, e2, hb⟩ := hrel
      have HL := Lib.hid hl
      have HX := Lib.hid (And.intro e2 (And.intro hb hpb))
      obtain ⟨wA, hwA⟩ : ∃ q, q = wr := ⟨_, rfl⟩
      subst hwA
      obtain ⟨p1, p2⟩ := p
      dsimp only at *
      clear hl e2 hb hpb
      by_cases hlt : j < n
      · obtain ⟨x, hx⟩ : ∃ x, l[j]? = some x := ⟨_, List.getElem?_eq_getElem (by have := HM.out.2; omega)⟩
        have hbA : Hid (Below w0.heap.size w0 wA) := Lib.hid (HB.out.trans (HX.out.2.1.mono HB.out.size))
        obtain ⟨b, off, rfl, hbs, hcell⟩ := RdF.nat (RdF.below HN.out hbA.out) hx
        have hxl := List.mem_of_getElem? hx
        have hxp := HI.out.2.2 x hxl
        have hcall0 := HI.out.1 x hxl (HI.out.2.1 x hxl) c
        obtain ⟨xl, hxl'⟩ : ∃ q, q = lens x.tree := ⟨_, rfl⟩
        rw [← hxl'] at hcall0 hxp
        have HXL := Lib.hid (And.intro hx (And.intro hxl' hxp))
        clear hxl' hx hxl
        obtain ⟨x1, x2⟩ := xl
        obtain ⟨⟨q1, q2⟩, q3, q4⟩ := hxp
        dsimp only at q1 q2 q3 q4
        obtain ⟨⟨r1, r2⟩, r3, r4⟩ := HX.out.2.2
        dsimp only at r1 r2 r3 r4
        have hend : Hid (∀ q : Int × Int, q = stepLen k mn mx (decide (j = 0)) (p1, p2) (x1, x2) → ∀ wx, wx.heap[b2]? = some (.cells #[.int .u8 k, .slice sa m sc, .int .i64 mn, .int .i64 mx, .bool lz, .slice (some ⟨b, off, none⟩) n nc] 27 (0, 0)) → Below w.heap.size w wx →
            GRel w k mn mx l p0 #[.int .u8 k, .slice sa m sc, .int .i64 mn, .int .i64 mx, .bool lz, .slice (some ⟨b, off, none⟩) n nc] b2 n (.int .i64 q.1) (.int .i64 q.2) (.int .i64 ((j : Int) + 1)) wx) := Lib.hid (fun q hq wx h1 h2 => by
          refine ⟨j + 1, q, hlt, rfl, rfl, rfl, ?_, ?_, h1, h2⟩
          · rw [hq]; exact HX.out.2.2.step HXL.out.2.2 (fun e => by have := H5.out e; omega)
          · have hx := HXL.out.1
            have hjl := (List.getElem?_eq_some_iff.1 hx).1
            have hxe := (List.getElem?_eq_some_iff.1 hx).2
            rw [← HL.out, List.drop_eq_getElem_cons hjl, hxe, treeL, lensL, ← HXL.out.2.1, hq]
            rfl)
        obtain ⟨kx, sax, scx, sx, mnx, mxx, lzx, nax, ncx, lx⟩ := x
        have d0 := hcell 0 _ rfl
        rw [Nat.add_zero] at d0
        have d1 := hcell 1 _ rfl
        have d2 := hcell 2 _ rfl
        have d3 := hcell 3 _ rfl
        have d4 := hcell 4 _ rfl
        have d5 := hcell 5 _ rfl
        have hcc := (HX.out.2.1.cell (p := ⟨c, 0, none⟩) hclt).trans hc
        have hclA : c < wA.heap.size := cell_lt hcc
        have HC0 := Lib.hid hcall0
        clear hcell hcall0
        go_wp2_with fail
        refine at_world ?_
        intro W hW
        have hbW : Hid (Below wA.heap.size wA W) := Lib.hid (by rw [hW]; exact (Below.refl _ _).alloc (Nat.le_refl _) _)
        have hcW := (hbW.out.cell (p := ⟨c, 0, none⟩) hclA).trans hcc
        clear hW
        have hcall := HC0.out W (hbA.out.trans (hbW.out.mono hbA.out.size)) hcW
        clear hcW d0 d1 d2 d3 d4 d5
        refine Calls.mono (show Calls Tryz.prog 46 #[.agg #[.int .u8 kx, .slice sax sx.length scx, .int .i64 mnx, .int .i64 mxx, .bool lzx, .slice nax lx.length ncx], .pointer (some ⟨c, 0, none⟩)] W _ from hcall) ?_
        clear hcall
        rintro e w5 ⟨rfl, hb5⟩
        have hA5 := Bthen hbW.out hb5
        have h25 := (hA5.block _ (isT_of HX.out.1).lt).trans HX.out.1
        have h5b : Below w.heap.size w w5 := HX.out.2.1.trans (hA5.mono HX.out.2.1.size)
        have c0 : w5.cell? ⟨b2, 0, none⟩ = some (.int .u8 k) := block_cell h25 0 _ rfl
        have c2 : w5.cell? ⟨b2, 2, none⟩ = some (.int .i64 mn) := block_cell h25 2 _ rfl
        have c3 : w5.cell? ⟨b2, 3, none⟩ = some (.int .i64 mx) := block_cell h25 3 _ rfl
        have H5' := Lib.hid (And.intro h25 h5b)
        clear hb5 hA5 h25 h5b
        by_cases hk5 : k = 5
        · obtain ⟨⟨m1, m2⟩, m3, m4⟩ := H5.out hk5
          subst hk5
          go_wp2_with fail
          go_quiet ((go_at_call 47; exact Calls.quiet_of_same ((times_calls _ _ _ (by omega) (by omega) (by omega) (by omega)).mono fun _ _ h => ⟨h.1, h.2.symm⟩)))
          go_wp2_with fail
          go_roundw
          case rel => exact hend.out (timesP x1 mn, timesP x2 mx) (by unfold stepLen; rw [if_pos rfl]) _ H5'.out.1 (below_drewN H5'.out.2 _)
          case measure => simp [intOf]; omega
        · have hk5' : (k == 5) = false := beq_eq_false_iff_ne.2 hk5
          by_cases h4 : k ≠ 4 ∨ j = 0
          · have hst : Hid (stepLen k mn mx (decide (j = 0)) (p1, p2) (x1, x2) = (plusP p1 x1, plusP p2 x2)) := Lib.hid (by
              unfold stepLen; rw [if_neg hk5, if_pos (by simpa using h4)])
            by_cases hk4 : k = 4
            · subst hk4
              obtain rfl : j = 0 := by omega
              go_wp2_with (go_at_call 48; refine (plus_calls _ _ _ (by omega) (by omega) (by omega) (by omega)).mono ?_; rintro e w' ⟨rfl, rfl⟩)
              go_roundw
              case rel => exact hend.out (plusP p1 x1, plusP p2 x2) hst.out.symm _ H5'.out.1 H5'.out.2
              case measure => simp [intOf]; omega
            · have hk4' : (k == 4) = false := beq_eq_false_iff_ne.2 hk4
              have hk4n : (k != 4) = true := by simp [hk4]
              go_wp2_with (go_at_call 48; refine (plus_calls _ _ _ (by omega) (by omega) (by omega) (by omega)).mono ?_; rintro e w' ⟨rfl, rfl⟩)
              go_roundw
              case rel => exact hend.out (plusP p1 x1, plusP p2 x2) hst.out.symm _ H5'.out.1 H5'.out.2
              case measure => simp [intOf]; omega
          · obtain rfl : k = 4 := by omega
            have hj0 : j ≠ 0 := by omega
            have hj0' : ((j : Int) == 0) = false := beq_eq_false_iff_ne.2 (by omega)
            have hst : Hid (∀ q, q = (if p2 ≠ -1 ∧ (x2 = -1 ∨ p2 < x2) then x2 else p2) → (min p1 x1, q) = stepLen 4 mn mx (decide (j = 0)) (p1, p2) (x1, x2)) := Lib.hid (fun q hq => by
              rw [hq]; unfold stepLen; rw [if_neg (show ¬ ((4 : Int) = 5) by decide), if_neg (show ¬ ((4 : Int) ≠ 4 ∨ decide (j = 0) = true) by simp [hj0])])
            clear h4 hj0
            rcases (show p2 = -1 ∨ (p2 ≠ -1 ∧ x2 = -1) ∨ (p2 ≠ -1 ∧ x2 ≠ -1 ∧ p2 < x2) ∨ (p2 ≠ -1 ∧ x2 ≠ -1 ∧ x2 ≤ p2) by omega) with rfl | ⟨h1, rfl⟩ | ⟨h1, h2, h3⟩ | ⟨h1, h2, h3⟩
            · go_wp2_with fail
              go_roundw
              case rel => exact hend.out (min p1 x1, -1) (hst.out _ (by simp)) _ H5'.out.1 H5'.out.2
              case measure => simp [intOf]; omega
            · have h1' : (p2 != -1) = true := by simp [h1]
              have h1e : (p2 == -1) = false := beq_eq_false_iff_ne.2 h1
              go_wp2_with fail
              go_roundw
              case rel => exact hend.out (min p1 x1, -1) (hst.out _ (by simp [h1])) _ H5'.out.1 H5'.out.2
              case measure => simp [intOf]; omega
            · have h1' : (p2 != -1) = true := by simp [h1]
              have h1e : (p2 == -1) = false := beq_eq_false_iff_ne.2 h1
              have h2' : (x2 == -1) = false := beq_eq_false_iff_ne.2 h2
              have h3' : decide (p2 < x2) = true := by simpa using h3
              go_wp2_with fail
              go_roundw
              case rel => exact hend.out (min p1 x1, x2) (hst.out _ (by rw [if_pos ⟨h1, .inr h3⟩])) _ H5'.out.1 H5'.out.2
              case measure => simp [intOf]; omega
            · have h1' : (p2 != -1) = true := by simp [h1]
              have h1e : (p2 == -1) = false := beq_eq_false_iff_ne.2 h1
              have h2' : (x2 == -1) = false := beq_eq_false_iff_ne.2 h2
              have h3' : decide (p2 < x2) = false := by simp; omega
              go_wp2_with fail
              go_roundw
              case rel => exact hend.out (min p1 x1, p2) (hst.out _ (by rw [if_neg (by omega)])) _ H5'.out.1 H5'.out.2
              case measure => simp [intOf]; omega
      · obtain rfl : j = n := by omega
        have hfin : Hid (lens (L.mk k sa sc s mn mx lz na nc l).tree = (p1, p2)) := Lib.hid (by
          rw [hlen.out, ← HL.out, List.drop_of_length_le (by have := HM.out.2; omega), treeL, lensL])
        go_wp2_with fail
        go_ret2
        exact ⟨by rw [hfin.out]; rfl, HX.out.2.1⟩
/-- what a tree's lengths are told as -/
def LenPost (t : T) (w : World) (e : Ending) (w' : World) : Prop := e = .returned (.tuple #[.int .i64 (if right t then (lens t).1 else 0), .int .i64 (if right t then (lens t).2 else 0), .int .i64 (if right t then 0 else 73)]) ∧ Below w.heap.size w w'
set_option maxRecDepth 100000 in
set_option maxHeartbeats 2000000 in
theorem lengths_tree {P : Nat → Prop} (x : L) (w : World) (h : RdT P w x) : Calls Tryz.prog 14 #[x.val] w (LenPost x.tree w) := by
  have HL : Hid (∀ W, Below w.heap.size w W → Calls Tryz.prog 45 #[x.val] W fun e w' => e = .returned (.bool (right x.tree)) ∧ Below W.heap.size W w') := Lib.hid (fun W hb => right_tree x W (h.bel hb))
  have hv := @visitL_calls P w x h
  obtain ⟨t, ht⟩ : ∃ q, q = x.tree := ⟨_, rfl⟩
  rw [← ht] at HL hv ⊢
  cases hr : right t
  · have HR := Lib.hid hr
    rw [hr] at HL
    clear hv hr ht h
    obtain ⟨k, sa, sc, s, mn, mx, lz, na, nc, l⟩ := x
    rw [val_mk] at HL ⊢
    go_enter Tryz.func14, Tryz.ntmps14
    go_wp2_with fail
    refine at_world ?_
    intro W hW
    have hbW : Below w.heap.size w W := by rw [hW]; exact (Below.refl _ _).alloc (Nat.le_refl _) _
    clear hW
    refine (HL.out W hbW).mono ?_
    rintro e w5 ⟨rfl, hb5⟩
    have H5 := Lib.hid (Bthen hbW hb5)
    clear hb5 hbW
    go_wp2_with fail
    go_ret3
    exact ⟨by rw [HR.out]; rfl, H5.out⟩
  · have HR := Lib.hid hr
    have hv := hv (right_parts hr).1
    obtain ⟨p, hp⟩ : ∃ q, q = lens t := ⟨_, rfl⟩
    rw [← hp] at hv
    have HV := Lib.hid hv
    have HP := Lib.hid hp
    rw [hr] at HL
    clear hv hr ht h hp
    obtain ⟨p1, p2⟩ := p
    obtain ⟨k, sa, sc, s, mn, mx, lz, na, nc, l⟩ := x
    rw [val_mk] at HL HV ⊢
    have hmf : ∀ (fn : Fn) (first cap : Array Value) (w : World), (Instr.makeFunc fn first cap).run Tryz.prog w = .ok (.func fn first cap) w := fun _ _ _ _ => rfl
    go_enter Tryz.func14, Tryz.ntmps14
    go_wp2_with fail
    refine at_world ?_
    intro W hW
    have hbW : Below w.heap.size w W := by rw [hW]; exact (Below.refl _ _).alloc (Nat.le_refl _) _
    have g0 : W.heap[w.heap.size]? = some (.cells #[.int .u8 k, .slice sa s.length sc, .int .i64 mn, .int .i64 mx, .bool lz, .slice na l.length nc] 27 (0, 0)) := by rw [hW]; exact heap_alloc_new w _
    clear hW
    refine (HL.out W hbW).mono ?_
    rintro e w5 ⟨rfl, hb5⟩
    have g5 := (hb5.block _ (isT_of g0).lt).trans g0
    have c0 := block_cell g5 0 _ rfl
    have c1 := block_cell g5 1 _ rfl
    have c2 := block_cell g5 2 _ rfl
    have c3 := block_cell g5 3 _ rfl
    have c4 := block_cell g5 4 _ rfl
    have c5 := block_cell g5 5 _ rfl
    have hlt := (isT_of g5).lt
    have H5 := Lib.hid (Bthen hbW hb5)
    clear hb5 hbW g0 g5
    go_wp2_with fail
    refine at_world ?_
    intro W6 hW6
    have hb6 : Below w.heap.size w W6 := by rw [hW6]; exact H5.out.alloc H5.out.size _
    have g3 : W6.cell? ⟨w5.heap.size, 0, none⟩ = some (.func (.func 46) #[] #[.pointer (some ⟨w5.heap.size, 0, none⟩)]) := by
      rw [hW6]
      exact block_cell (heap_alloc_new w5 _) 0 _ rfl
    clear hW6
    have hcall := HV.out _ W6 hb6 g3
    clear g3
    refine Calls.mono (show Calls Tryz.prog 46 #[.agg #[.int .u8 k, .slice sa s.length sc, .int .i64 mn, .int .i64 mx, .bool lz, .slice na l.length nc], .pointer (some ⟨w5.heap.size, 0, none⟩)] W6 _ from hcall) ?_
    clear hcall
    rintro e w7 ⟨rfl, hb7⟩
    have H7 := Lib.hid (Bthen hb6 hb7)
    clear hb6 hb7
    go_wp2_with fail
    go_ret3
    exact ⟨by rw [HR.out, ← HP.out]; rfl, H7.out⟩
end Go.Proofs.YtimahlimmblgkaaGreatDoor.Sy
