/- Chapter 07: the law's nullable, and its leaves. -/
import Derived.Test.YtimahlimmblgkaaGreatDoorPTqC
import Derived.Test.YtimahlimmblgkaaGreatDoorPTpB
namespace Go.Proofs.YtimahlimmblgkaaGreatDoor.Sy
open Go Go.RowKit
def URel (w : World) (l : List L) (N : Array Value) (b2 n : Nat) (u3 u4 i : Value) (wr : World) : Prop :=
  ∃ (j : Nat) (p : Bool × Bool), j ≤ n ∧ i = .int .i64 j ∧ u3 = .bool p.1 ∧ u4 = .bool p.2 ∧ nulL (treeL (l.drop j)) p = nulL (treeL l) (false, true) ∧
    wr.heap[b2]? = some (.cells N 27 (0, 0)) ∧ Below w.heap.size w wr
set_option maxRecDepth 100000 in
set_option maxHeartbeats 8000000 in
theorem lawnul_calls {P : Nat → Prop} {w0 : World} {x : L} (h : RdT P w0 x) : ∀ (w : World), Below w0.heap.size w0 w →
    Calls Tryz.prog 16 #[x.val] w fun e w' => e = .returned (.bool (nulP x.tree)) ∧ Below w.heap.size w w' := by
  induction h with
  | @mk k sa sc s mn mx lz na nc l hk hmn hmx hs hsl hn hnl hnb hP sub ih =>
    intro w hbw
    have HI := Lib.hid ih
    have HN := Lib.hid hn
    have HB := Lib.hid hbw
    obtain ⟨m, hm⟩ : ∃ m, m = s.length := ⟨_, rfl⟩
    obtain ⟨n, hn⟩ : ∃ n, n = l.length := ⟨_, rfl⟩
    have HM := Lib.hid (And.intro hm hn)
    have hfin : Hid (∀ p, p = nulL (treeL l) (false, true) → nulP (L.mk k sa sc s mn mx lz na nc l).tree = if k = 1 then true else if k = 3 then p.2 else if k = 5 then p.1 || decide (mn = 0) else p.1) := Lib.hid (fun p hp => by rw [hp]; rfl)
    show Calls Tryz.prog 16 #[.agg #[.int .u8 k, .slice sa s.length sc, .int .i64 mn, .int .i64 mx, .bool lz, .slice na l.length nc]] w _
    rw [← hm, ← hn]
    rw [← hn] at hnl
    clear ih hs hbw hm hn sub hP hnb hsl
    go_enter Tryz.func16, Tryz.ntmps16
    go_wp2_with fail
    obtain ⟨w1, hw1⟩ : ∃ q, q = w.alloc (.cells #[.int .u8 k, .slice sa m sc, .int .i64 mn, .int .i64 mx, .bool lz, .slice na n nc] 27) := ⟨_, rfl⟩
    rw [← hw1]
    obtain ⟨b2, hb2⟩ : ∃ q, q = w.heap.size := ⟨_, rfl⟩
    have e2 : w1.heap[b2]? = some (.cells #[.int .u8 k, .slice sa m sc, .int .i64 mn, .int .i64 mx, .bool lz, .slice na n nc] 27 (0, 0)) := by rw [hw1, hb2]; exact heap_alloc_new w _
    have hb1 : Below w.heap.size w w1 := by rw [hw1]; exact (Below.refl _ _).alloc (Nat.le_refl _) _
    rw [← hb2]
    have HE := Lib.hid (And.intro e2 hb1)
    clear hb2 e2 hb1 hw1
    go_loopw [3, 4, 11] (fun u3 u4 i wr => URel w l #[.int .u8 k, .slice sa m sc, .int .i64 mn, .int .i64 mx, .bool lz, .slice na n nc] b2 n u3 u4 i wr) (fun _ _ i _ => n - (intOf i).toNat)
    case atStart => exact ⟨0, (false, true), Nat.zero_le _, rfl, rfl, rfl, rfl, HE.out.1, HE.out.2⟩
    case round =>
      unfold URel at hrel
      obtain ⟨j, ⟨p1, p2⟩, hj, rfl, rfl, rfl, hl, e2, hb⟩ := hrel
      have HL := Lib.hid hl
      have HX := Lib.hid (And.intro e2 hb)
      obtain ⟨wA, hwA⟩ : ∃ q, q = wr := ⟨_, rfl⟩
      subst hwA
      clear hl e2 hb
      dsimp only
      by_cases hlt : j < n
      · obtain ⟨x, hx⟩ : ∃ x, l[j]? = some x := ⟨_, List.getElem?_eq_getElem (by have := HM.out.2; omega)⟩
        have hbA : Hid (Below w0.heap.size w0 wA) := Lib.hid (HB.out.trans (HX.out.2.mono HB.out.size))
        obtain ⟨b, off, rfl, hbs, hcell⟩ := RdF.nat (RdF.below HN.out hbA.out) hx
        have hcall0 := HI.out x (List.mem_of_getElem? hx)
        obtain ⟨q, hq⟩ : ∃ q, q = nulP x.tree := ⟨_, rfl⟩
        rw [← hq] at hcall0
        have HXL := Lib.hid (And.intro hx hq)
        clear hq hx
        have hend : Hid (∀ wx, wx.heap[b2]? = some (.cells #[.int .u8 k, .slice sa m sc, .int .i64 mn, .int .i64 mx, .bool lz, .slice (some ⟨b, off, none⟩) n nc] 27 (0, 0)) → Below w.heap.size w wx → ∀ c1 c2, c1 = (p1 || q) → c2 = (p2 && q) →
            URel w l #[.int .u8 k, .slice sa m sc, .int .i64 mn, .int .i64 mx, .bool lz, .slice (some ⟨b, off, none⟩) n nc] b2 n (.bool c1) (.bool c2) (.int .i64 ((j : Int) + 1)) wx) := Lib.hid (fun wx h1 h2 c1 c2 hc1 hc2 => by
          refine ⟨j + 1, (c1, c2), hlt, rfl, rfl, rfl, ?_, h1, h2⟩
          have hx := HXL.out.1
          have hjl := (List.getElem?_eq_some_iff.1 hx).1
          have hxe := (List.getElem?_eq_some_iff.1 hx).2
          rw [← HL.out, List.drop_eq_getElem_cons hjl, hxe, treeL, nulL, ← HXL.out.2, hc1, hc2])
        obtain ⟨kx, sax, scx, sx, mnx, mxx, lzx, nax, ncx, lx⟩ := x
        have d0 := hcell 0 _ rfl
        rw [Nat.add_zero] at d0
        have d1 := hcell 1 _ rfl
        have d2 := hcell 2 _ rfl
        have d3 := hcell 3 _ rfl
        have d4 := hcell 4 _ rfl
        have d5 := hcell 5 _ rfl
        have HC0 := Lib.hid hcall0
        clear hcell hcall0
        go_wp2_with fail
        refine at_world ?_
        intro W hW
        have hbW : Hid (Below wA.heap.size wA W) := Lib.hid (by rw [hW]; exact (Below.refl _ _).alloc (Nat.le_refl _) _)
        clear hW
        have hcall := HC0.out W (hbA.out.trans (hbW.out.mono hbA.out.size))
        clear d0 d1 d2 d3 d4 d5
        refine Calls.mono (show Calls Tryz.prog 16 #[.agg #[.int .u8 kx, .slice sax sx.length scx, .int .i64 mnx, .int .i64 mxx, .bool lzx, .slice nax lx.length ncx]] W _ from hcall) ?_
        clear hcall
        rintro e w5 ⟨rfl, hb5⟩
        have hA5 := Bthen hbW.out hb5
        have H5' := Lib.hid (And.intro ((hA5.block _ (isT_of HX.out.1).lt).trans HX.out.1) (HX.out.2.trans (hA5.mono HX.out.2.size)))
        clear hb5 hA5
        cases p1 <;> cases p2
        all_goals
          go_wp2_with fail
          go_roundw
          case rel => exact hend.out _ H5'.out.1 H5'.out.2 _ _ (by simp) (by simp)
          case measure => simp [intOf]; omega
      · obtain rfl : j = n := by omega
        have hp : Hid ((p1, p2) = nulL (treeL l) (false, true)) := Lib.hid (by
          rw [← HL.out, List.drop_of_length_le (by have := HM.out.2; omega), treeL, nulL])
        have hf2 := Lib.hid (hfin.out _ hp.out)
        have c0 : wA.cell? ⟨b2, 0, none⟩ = some (.int .u8 k) := block_cell HX.out.1 0 _ rfl
        have c2 : wA.cell? ⟨b2, 2, none⟩ = some (.int .i64 mn) := block_cell HX.out.1 2 _ rfl
        rcases (show k = 1 ∨ k = 3 ∨ k = 5 ∨ ((k == 1) = false ∧ (k == 3) = false ∧ (k == 5) = false) by simp only [beq_eq_false_iff_ne]; omega) with rfl | rfl | rfl | ⟨h1, h3, h5⟩
        · go_wp2_with fail
          go_ret
          exact ⟨by rw [hf2.out]; rfl, HX.out.2⟩
        · go_wp2_with fail
          go_ret
          exact ⟨by rw [hf2.out]; rfl, HX.out.2⟩
        · cases p1
          · by_cases h0 : mn = 0
            · subst h0
              go_wp2_with fail
              go_ret
              exact ⟨by rw [hf2.out]; rfl, HX.out.2⟩
            · have h0' : (mn == 0) = false := beq_eq_false_iff_ne.2 h0
              go_wp2_with fail
              go_ret
              exact ⟨by rw [hf2.out]; simp [h0], HX.out.2⟩
          · go_wp2_with fail
            go_ret
            exact ⟨by rw [hf2.out]; rfl, HX.out.2⟩
        · go_wp2_with fail
          go_ret
          exact ⟨by
            rw [hf2.out]
            simp only [beq_eq_false_iff_ne] at h1 h3 h5
            rw [if_neg h1, if_neg h3, if_neg h5]
            rfl, HX.out.2⟩
end Go.Proofs.YtimahlimmblgkaaGreatDoor.Sy
