/- The reference implementation: borders. -/
import Derived.Test.YtkjilodmmcefbaaGreatDoorSlC
import Derived.Test.YtkjilodmmcefbaaGreatDoorPlA
import Derived.BigRegion
import Derived.Deep.RegionHeldLaw
import Derived.Deep.AppendLies
namespace Go.Proofs.YtkjilodmmcefbaaGreatDoor
open Go.RowKit Go.Shelf

theorem Tryz.info3 : (Tryz.prog.info? 3).map (fun i => (i.zero, i.size, i.bytes)) = some (some (.int .i64 0), 1, 8) := by kernel_rfl
abbrev iV (l : List Int) : List Value := l.map (Value.int .i64)
namespace Rs
def bds (l : S) : List Int := l.flatMap fun r => [r.1, r.2 + 1]
theorem bds_step {l : S} {k : Nat} {r : R} (hr : l[k]? = some r) : bds (l.take (k + 1)) = bds (l.take k) ++ [r.1, r.2 + 1] := by rw [take_succ hr]; simp [bds]
theorem bds_len (l : S) : (bds l).length = 2 * l.length := by
  induction l with
  | nil => rfl
  | cons r l ih => simp only [bds, List.flatMap_cons, List.length_append, List.length_cons, List.length_nil] at *; omega
end Rs

theorem owns_newI (W : World) (l : List Int) (T : TypeId) (hl : l.length ≤ 1000000) : (W.alloc (.cells (iV l).toArray T)).ownsRow W.heap.size T 1 (.slice (some ⟨W.heap.size, 0, none⟩) l.length l.length) l.length (iV l) :=
  ⟨by simp, .inr ⟨_, _, _, rfl, Nat.le_refl _, World.alloc_heap_new _ _, Nat.le_refl _, by unfold maxLen; omega, by simp, by simp [List.take_of_length_le]⟩⟩

theorem Bdrew {B : Nat} {w w1 : World} (h : Below B w w1) (n : Nat) : Below B w (w1.drewN n) := ⟨h.os, h.tape, h.output, h.size, h.block⟩

set_option maxRecDepth 100000 in
set_option maxHeartbeats 4000000 in
theorem borders_calls (a b : Option Addr) (ca cb : Nat) (l m : Rs.S) (w : World) (h : Sl w a ca l) (k : Sl w b cb m) (hn : l.length ≤ 100000) (hm : m.length ≤ 100000) (hl : ∀ r ∈ l, Rs.Bd r) (hmb : ∀ r ∈ m, Rs.Bd r) :
    Calls Tryz.prog 95 #[.slice a l.length ca, .slice b m.length cb] w fun e w' => ∃ v L, e = .returned v ∧ w'.ownsRow w.heap.size 3 1 v L.length (iV L) ∧ L.Perm ([0, 55296, 57344, 1114112] ++ Rs.bds l ++ Rs.bds m) ∧ L.Pairwise (· ≤ ·) ∧ Below w.heap.size w w' := by
  have HA := Lib.hid h
  have HB := Lib.hid k
  clear h k
  obtain ⟨i0, hi0, hz0, hz1, hz2⟩ := info_parts Tryz.info3
  go_enter Tryz.func95, Tryz.ntmps95
  go_wp2_with fail
  go_loopw [5, 6] (fun v i wr => ∃ k : Nat, k ≤ l.length ∧ i = .int .i64 k ∧ wr.ownsRow w.heap.size 3 1 v (4 + 2 * k) (iV ([0, 55296, 57344, 1114112] ++ Rs.bds (l.take k))) ∧ Below w.heap.size w wr) (fun _ i _ => l.length - (intOf i).toNat)
  case atStart => exact ⟨0, Nat.zero_le _, rfl, owns_newI w [0, 55296, 57344, 1114112] 3 (by decide), Bnew (Below.refl _ _) _⟩
  case round =>
    obtain ⟨k, hk, rfl, hrow, hb⟩ := hrel
    have hbs := hb.size
    by_cases hlt : k < l.length
    · obtain ⟨ba, off, rfl, hbl, hc⟩ := HA.out.rd (by intro e; subst e; simp at hlt)
      obtain ⟨r, hr⟩ : ∃ r, l[k]? = some r := ⟨_, List.getElem?_eq_getElem hlt⟩
      obtain ⟨c0, c1⟩ := hc k _ hr
      have d0 := c0
      have d1 := c1
      rw [← hb.cell (by exact hbl)] at c0 c1
      have hbd := hl _ (List.mem_of_getElem? hr)
      have HR := Lib.hid (Rs.bds_step hr)
      clear hr hc
      obtain ⟨lo, hi⟩ := r
      obtain ⟨o1, o2, o3, o4⟩ := hbd
      dsimp only at c0 c1 d0 d1 o1 o2 o3 o4
      go_wp2_with fail
      have hwr : IntKind.i64.wrap (hi + 1) = hi + 1 := by rw [IntKind.wrap_i64]; omega
      have hbase : ∀ w1 : World, (((wr.alloc (.cells #[.int .i64 lo, .int .i64 (hi + 1)] 3)).drew).grownBy w1 u5.ownBlock) → Below w.heap.size w w1 := fun w1 hg => by
        have := (hb.alloc hbs (.cells #[.int .i64 lo, .int .i64 (hi + 1)] 3)).drew
        refine this.grown hg (by simp; omega) fun j e => ?_
        rcases hrow.2 with ⟨rfl, _⟩ | ⟨g, cap, cur, rfl, hg', _⟩
        · simp [Value.ownBlock] at e
        · obtain rfl : g = j := by simpa [Value.ownBlock] using e
          exact hg'
      go_region_held_law (fun w' : World => w'.cell? ⟨ba, off + k * 2, none⟩ = some (.int .i64 lo) ∧ w'.cell? ⟨ba, off + k * 2 + 1, none⟩ = some (.int .i64 hi)) (first | go_keep | exact ⟨((hbase _ hgrow).cell (p := ⟨ba, off + k * 2, none⟩) hbl).trans d0, ((hbase _ hgrow).cell (p := ⟨ba, off + k * 2 + 1, none⟩) hbl).trans d1⟩)
        ((refine step_append_lies _ (by rfl) _ _ _ (by rfl) w.heap.size 3 i0 (.int .i64 0) 1 8 Tryz.underlying54 hi0 hz0 hz1 hz2 rfl (by decide) _ _ _ (by rfl) (hrow.alloc _) ⟨wr.heap.size, 0, none⟩ 2 2 (iV [lo, hi + 1]) (by rfl) (by rfl) (cells_new_drew wr #[.int .i64 lo, .int .i64 (hi + 1)] _ _ rfl) (by intro u hu; simp at hu; rcases hu with rfl | rfl <;> rfl) (by decide) (by unfold maxLen; omega) (by omega) (by simp; omega) (wr.heap.size + 1) (by simp) ?_; intro g cap w1 hown' hgrow _ _))
      go_wp2
      go_roundw
      case rel => exact ⟨k + 1, by omega, by go_num, by rw [HR.out, ← List.append_assoc]; rw [show 4 + 2 * (k + 1) = 4 + 2 * k + 2 by omega]; simpa using hown', hbase _ hgrow⟩
      case measure => simp [intOf]; omega
    · have hkk : l.take k = l := List.take_of_length_le (by omega)
      obtain rfl : k = l.length := by omega
      rw [hkk] at hrow
      clear hkk
      go_wp2_with fail
      go_loopw [5, 7] (fun v i wr => ∃ k : Nat, k ≤ m.length ∧ i = .int .i64 k ∧ wr.ownsRow w.heap.size 3 1 v (4 + 2 * l.length + 2 * k) (iV ([0, 55296, 57344, 1114112] ++ Rs.bds l ++ Rs.bds (m.take k))) ∧ Below w.heap.size w wr) (fun _ i _ => m.length - (intOf i).toNat)
      case atStart => exact ⟨0, Nat.zero_le _, rfl, by simpa [Rs.bds] using hrow, hb⟩
      case round =>
        obtain ⟨k, hk, rfl, hrow, hb⟩ := hrel
        have hbs := hb.size
        by_cases hlt : k < m.length
        · obtain ⟨bb, off, rfl, hbl, hc⟩ := HB.out.rd (by intro e; subst e; simp at hlt)
          obtain ⟨r, hr⟩ : ∃ r, m[k]? = some r := ⟨_, List.getElem?_eq_getElem hlt⟩
          obtain ⟨c0, c1⟩ := hc k _ hr
          have d0 := c0
          have d1 := c1
          rw [← hb.cell (by exact hbl)] at c0 c1
          have hbd := hmb _ (List.mem_of_getElem? hr)
          have HR := Lib.hid (Rs.bds_step hr)
          clear hr hc
          obtain ⟨lo, hi⟩ := r
          obtain ⟨o1, o2, o3, o4⟩ := hbd
          dsimp only at c0 c1 d0 d1 o1 o2 o3 o4
          go_wp2_with fail
          have hwr : IntKind.i64.wrap (hi + 1) = hi + 1 := by rw [IntKind.wrap_i64]; omega
          have hbase : ∀ w1 : World, (((wr.alloc (.cells #[.int .i64 lo, .int .i64 (hi + 1)] 3)).drew).grownBy w1 u5.ownBlock) → Below w.heap.size w w1 := fun w1 hg => by
            have := (hb.alloc hbs (.cells #[.int .i64 lo, .int .i64 (hi + 1)] 3)).drew
            refine this.grown hg (by simp; omega) fun j e => ?_
            rcases hrow.2 with ⟨rfl, _⟩ | ⟨g, cap, cur, rfl, hg', _⟩
            · simp [Value.ownBlock] at e
            · obtain rfl : g = j := by simpa [Value.ownBlock] using e
              exact hg'
          go_region_held_law (fun w' : World => w'.cell? ⟨bb, off + k * 2, none⟩ = some (.int .i64 lo) ∧ w'.cell? ⟨bb, off + k * 2 + 1, none⟩ = some (.int .i64 hi)) (first | go_keep | exact ⟨((hbase _ hgrow).cell (p := ⟨bb, off + k * 2, none⟩) hbl).trans d0, ((hbase _ hgrow).cell (p := ⟨bb, off + k * 2 + 1, none⟩) hbl).trans d1⟩)
            ((refine step_append_lies _ (by rfl) _ _ _ (by rfl) w.heap.size 3 i0 (.int .i64 0) 1 8 Tryz.underlying54 hi0 hz0 hz1 hz2 rfl (by decide) _ _ _ (by rfl) (hrow.alloc _) ⟨wr.heap.size, 0, none⟩ 2 2 (iV [lo, hi + 1]) (by rfl) (by rfl) (cells_new_drew wr #[.int .i64 lo, .int .i64 (hi + 1)] _ _ rfl) (by intro u hu; simp at hu; rcases hu with rfl | rfl <;> rfl) (by decide) (by unfold maxLen; omega) (by omega) (by simp; omega) (wr.heap.size + 1) (by simp) ?_; intro g cap w1 hown' hgrow _ _))
          go_wp2
          go_roundw
          case rel => exact ⟨k + 1, by omega, by go_num, by rw [HR.out, ← List.append_assoc]; rw [show 4 + 2 * l.length + 2 * (k + 1) = 4 + 2 * l.length + 2 * k + 2 by omega]; simpa using hown', hbase _ hgrow⟩
          case measure => simp [intOf]; omega
        · have hkk : m.take k = m := List.take_of_length_le (by omega)
          obtain rfl : k = m.length := by omega
          rw [hkk] at hrow
          clear hkk
          obtain ⟨N, hN⟩ : ∃ N, N = 4 + 2 * l.length + 2 * m.length := ⟨_, rfl⟩
          rw [← hN] at hrow
          have hN4 : 4 ≤ N := by omega
          have hN5 : N ≤ 400004 := by omega
          obtain ⟨M, hM⟩ : ∃ M, N = M + 1 := ⟨N - 1, by omega⟩
          obtain ⟨g, cap, rfl⟩ : ∃ g cap, u5 = .slice (some ⟨g, 0, none⟩) N cap := by rw [hM] at hrow ⊢; exact ownsRow_succ hrow
          generalize hAll : [0, 55296, 57344, 1114112] ++ Rs.bds l ++ Rs.bds m = All at hrow
          have HAll := Lib.hid hAll
          have hlen : All.length = N := by have := hrow.1; simpa using this
          clear hAll hM
          go_wp2_with fail
          go_loopw [8] (fun i wx => ∃ (n : Nat) (D : List Int), 1 ≤ n ∧ n ≤ N ∧ i = .int .i64 n ∧ D.Perm All ∧ Rs.Srt D n ∧ wx.ownsRow w.heap.size 3 1 (.slice (some ⟨g, 0, none⟩) N cap) N (iV D) ∧ Below w.heap.size w wx) (fun i _ => N - (intOf i).toNat)
          case atStart => exact ⟨1, All, Nat.le_refl _, by omega, rfl, List.Perm.refl _, Rs.srt_one _, hrow, hb⟩
          case round =>
            clear hrow hb hbs hN
            obtain ⟨n, D, hn1, hnN, rfl, hperm, hsrt, hrow, hb⟩ := hrel
            have hbs := hb.size
            by_cases hlt2 : n < N
            · have HS := Lib.hid (show _ ∧ _ from ⟨hperm, hsrt⟩)
              clear hperm hsrt
              go_wp2_with fail
              go_loopw [9] (fun i wx => ∃ (k : Nat) (D : List Int), k ≤ n ∧ i = .int .i64 k ∧ D.Perm All ∧ Rs.Inv' D n k ∧ wx.ownsRow w.heap.size 3 1 (.slice (some ⟨g, 0, none⟩) N cap) N (iV D) ∧ Below w.heap.size w wx) (fun i _ => (intOf i).toNat)
              case atStart => exact ⟨n, D, Nat.le_refl _, rfl, HS.out.1, Rs.inv_start HS.out.2, hrow, hb⟩
              case round =>
                clear HS hrow hb hbs
                obtain ⟨k, D, hkn, rfl, hperm, hinv, hrow, hb⟩ := hrel
                have hbs := hb.size
                have hDl : D.length = N := by rw [hperm.length_eq]; exact hlen
                cases k with
                | zero =>
                  have HS := Lib.hid (show _ ∧ _ ∧ _ ∧ _ from ⟨hperm, Rs.inv_stop0 hinv, hrow, hb⟩)
                  clear hperm hinv hrow hb
                  go_wp2_with fail
                  go_big_quiet (fail)
                  go_wp2
                  exact ⟨⟨n + 1, D, by omega, by omega, by go_num, HS.out.1, HS.out.2.1, HS.out.2.2.1, Bdrew HS.out.2.2.2 _⟩, by simp [intOf]; omega⟩
                | succ k =>
                  obtain ⟨c0, f0⟩ := ownsRow_cell hrow (j := k) (u := .int .i64 (Rs.at' D k)) (by rw [List.getElem?_map, Rs.at_get (by omega)]; rfl)
                  obtain ⟨c1, f1⟩ := ownsRow_cell hrow (j := k + 1) (u := .int .i64 (Rs.at' D (k + 1))) (by rw [List.getElem?_map, Rs.at_get (by omega)]; rfl)
                  obtain ⟨y, hy⟩ : ∃ y, Rs.at' D k = y := ⟨_, rfl⟩
                  obtain ⟨x, hx⟩ : ∃ x, Rs.at' D (k + 1) = x := ⟨_, rfl⟩
                  rw [hy] at c0
                  rw [hx] at c1
                  by_cases hxy : x < y
                  · have HS := Lib.hid (show _ ∧ _ ∧ _ ∧ _ ∧ _ ∧ _ from ⟨hperm, hinv, hrow, hb, hx, hy⟩)
                    clear hperm hinv hrow hb hx hy
                    go_wp2_with fail
                    go_big_quiet (fail)
                    go_wp2_with fail
                    have HQ := Lib.hid (show wr.drewN nq = wr.drewN nq from rfl)
                    have c0' : (wr.drewN nq).cell? ⟨g, k, none⟩ = some (.int .i64 y) := c0
                    have c1' : (wr.drewN nq).cell? ⟨g, k + 1, none⟩ = some (.int .i64 x) := c1
                    have f0' : (wr.drewN nq).frozen? ⟨g, k, none⟩ = false := f0
                    have f1' : (wr.drewN nq).frozen? ⟨g, k + 1, none⟩ = false := f1
                    clear c0 c1 f0 f1
                    generalize hwq : wr.drewN nq = wq at c0' c1' f0' f1' ⊢
                    have HWQ := Lib.hid hwq
                    clear hwq HQ
                    go_region
                    go_wp2
                    have hrq : ((wq.setCell ⟨g, k + 1, none⟩ (.int .i64 y)).setCell ⟨g, k, none⟩ (.int .i64 x)).drew.ownsRow w.heap.size 3 1 (.slice (some ⟨g, 0, none⟩) N cap) N (iV ((D.set (k + 1) y).set k x)) := by
                      have h0 : wq.ownsRow w.heap.size 3 1 (.slice (some ⟨g, 0, none⟩) N cap) N (iV D) := by rw [← HWQ.out]; exact HS.out.2.2.1
                      have h1 := ownsRow_set h0 (j := k + 1) (by simp; omega) (.int .i64 y)
                      have h2 := ownsRow_set h1 (j := k) (by simp; omega) (.int .i64 x)
                      rw [show iV ((D.set (k + 1) y).set k x) = ((iV D).set (k + 1) (.int .i64 y)).set k (.int .i64 x) by simp [iV, List.map_set]]
                      exact h2
                    have hg : w.heap.size ≤ g := (ownsRow_block HS.out.2.2.1).1
                    have hbq : Below w.heap.size w wq := by rw [← HWQ.out]; exact Bdrew HS.out.2.2.2.1 _
                    have hsw : Rs.swp' D (k + 1) = (D.set (k + 1) y).set k x := by unfold Rs.swp'; rw [Nat.add_sub_cancel, HS.out.2.2.2.2.1, HS.out.2.2.2.2.2]
                    refine ⟨⟨k, Rs.swp' D (k + 1), by omega, rfl, (Rs.swp_perm (by omega) (by omega)).trans HS.out.1, Rs.inv_swap HS.out.2.1 (by omega) (by omega) (by omega) (by rw [Nat.add_sub_cancel, HS.out.2.2.2.2.1, HS.out.2.2.2.2.2]; exact hxy), by rw [hsw]; exact hrq, ?_⟩, by simp [intOf]⟩
                    exact ((hbq.setCell (by simpa using hg) _).setCell (by simpa using hg) _).drew
                  · have HS := Lib.hid (show _ ∧ _ ∧ _ ∧ _ from ⟨hperm, Rs.inv_stop hinv (by omega) (by omega) (by rw [Nat.add_sub_cancel, hx, hy]; omega), hrow, hb⟩)
                    have d1 : decide (x < y) = false := by simpa using hxy
                    clear hperm hinv hrow hb hx hy
                    go_wp2_with fail
                    go_big_quiet (fail)
                    go_wp2
                    exact ⟨⟨n + 1, D, by omega, by omega, by go_num, HS.out.1, HS.out.2.1, HS.out.2.2.1, Bdrew HS.out.2.2.2 _⟩, by simp [intOf]; omega⟩
            · obtain rfl : n = N := by omega
              go_wp2
              go_ret
              exact ⟨_, D, rfl, by rw [hperm.length_eq, hlen]; exact hrow, by have e := HAll.out; simp only [List.cons_append, List.nil_append] at e ⊢; rw [e]; exact hperm, Rs.srt_pairwise (by rw [hperm.length_eq, hlen]; exact hsrt), hb⟩
end Go.Proofs.YtkjilodmmcefbaaGreatDoor
