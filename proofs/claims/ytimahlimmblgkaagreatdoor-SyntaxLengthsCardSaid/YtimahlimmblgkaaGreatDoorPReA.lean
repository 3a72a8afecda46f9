/- Texts of the claim, put together: ReA. -/
import Derived.Test.YtimahlimmblgkaaGreatDoorPItP
import Derived.Test.YtimahlimmblgkaaGreatDoorPItW
namespace Go.Proofs.YtimahlimmblgkaaGreatDoor
namespace Rs
end Rs
end Go.Proofs.YtimahlimmblgkaaGreatDoor
namespace Go.Proofs.YtimahlimmblgkaaGreatDoor
open Go.RowKit Go.Shelf
theorem Onl.toB {R B : Nat} {a w : World} (h : Onl R a w) (hR : B ≤ R) (ha : B ≤ a.heap.size) : Below B a w :=
  ⟨h.os, h.tape, h.output, h.size, fun i hi => h.block i (by omega) (by simp; omega)⟩
theorem Rb.new (w : World) (s : ByteArray) : Rb (w.alloc (.cells #[.string s, .int .i64 0] 239)) w.heap.size s 0 := heap_alloc_new w _
def RdPost (s : ByteArray) (w : World) (e : Ending) (w' : World) : Prop :=
  ∃ v, e = .returned (.tuple #[v, .int .i64 (Rs.readN s.data.toList), .int .i64 (Rs.readE s.data.toList)]) ∧ w'.ownsRow w.heap.size 84 2 v (Rs.readL s.data.toList).length (rFlat (Rs.readL s.data.toList)) ∧ Below w.heap.size w w'
theorem RdPost.no {s : ByteArray} {w w' : World} (h : Rs.readF s.data.toList = none) (hb : Below w.heap.size w w') : RdPost s w (.returned (.tuple #[.slice none 0 0, .int .i64 0, .int .i64 61])) w' := by
  obtain ⟨e1, e2, e3⟩ := Rs.read_none h
  unfold RdPost
  rw [e1, e2, e3]
  exact ⟨_, rfl, World.ownsRow_nil _ _ _ _, hb⟩
theorem RdPost.yes {s : ByteArray} {w w' : World} {l : Rs.S} {n : Nat} {v : Value} (h : Rs.readF s.data.toList = some (l, n)) (hb : Below w.heap.size w w') (hr : w'.ownsRow w.heap.size 84 2 v l.length (rFlat l)) : RdPost s w (.returned (.tuple #[v, .int .i64 n, .int .i64 0])) w' := by
  obtain ⟨e1, e2, e3⟩ := Rs.read_some h
  unfold RdPost
  rw [e1, e2, e3]
  exact ⟨_, rfl, hr, hb⟩
set_option maxRecDepth 100000 in
set_option maxHeartbeats 8000000 in
theorem read_calls (s : ByteArray) (w : World) (hL : Lv w) (hs : s.size ≤ 100000000000) :
    Calls Tryz.prog 136 #[.string s] w (RdPost s w) := by
  have hs' : s.size ≤ 1000000000000 := by omega
  have hlen : s.data.toList.length = s.size := by rw [Lib.size_eq]
  have h9 := hL.sz
  obtain ⟨l, hl⟩ : ∃ l, s.data.toList = l := ⟨_, rfl⟩
  have hB1 : Below w.heap.size w (w.alloc (.cells #[.string s, .int .i64 0] 239)) := (Below.refl _ _).alloc (Nat.le_refl _) _
  have H1 := Lib.hid (show Rb (w.alloc (.cells #[.string s, .int .i64 0] 239)) w.heap.size s 0 ∧ Lv (w.alloc (.cells #[.string s, .int .i64 0] 239)) ∧ Below w.heap.size w (w.alloc (.cells #[.string s, .int .i64 0] 239)) from ⟨Rb.new w s, hL.below hB1, hB1⟩)
  have HLEN := Lib.hid (show _ ∧ _ from ⟨hlen, hl⟩)
  have hR9 : max (max 9 5) 6 < w.heap.size := h9
  clear hL hB1 hlen
  by_cases h0 : Rs.bt l 0 = 91
  · have his := fun W hW => is1 91 (by decide) w.heap.size s 0 W hW (Nat.zero_le _) hs' true (by rw [List.drop_zero, hl, h0]; rfl)
    have hs1 : 1 ≤ s.size := by
      rcases Nat.lt_or_ge 0 s.size with h2 | h2
      · omega
      · rw [← hl, Rs.bt_ge (by rw [← Lib.size_eq]; omega)] at h0; omega
    have h00 := Lib.hid h0
    clear h0
    go_enter Tryz.func136, Tryz.ntmps136
    go_wp2_with fail
    refine (his _ H1.out.1).mono ?_
    rintro e w1 ⟨rfl, q, rfl⟩
    have B1 := below_drewN H1.out.2.2 q
    have L1 := H1.out.2.1.below (below_drewN (Below.refl _ _) q)
    have R1 := H1.out.1.drewN q
    clear his H1
    generalize (w.alloc (.cells #[.string s, .int .i64 0] 239)).drewN q = W1 at *
    have c1 : W1.cell? ⟨w.heap.size, 1, none⟩ = some (.int .i64 0) := R1.c1
    have f1 := R1.f1
    have R2 : Rb (W1.setCell ⟨w.heap.size, 1, none⟩ (.int .i64 1)) w.heap.size s 1 := R1.set 1
    have B2 : Below w.heap.size w (W1.setCell ⟨w.heap.size, 1, none⟩ (.int .i64 1)) := B1.setCell (Nat.le_refl _) _
    have O2 : Onl w.heap.size W1 (W1.setCell ⟨w.heap.size, 1, none⟩ (.int .i64 1)) := (Onl.refl _ _).set _ rfl _
    have H2 := Lib.hid (show _ ∧ _ ∧ _ from ⟨R2, O2.lv hR9 L1, B2⟩)
    clear R1 R2 B1 B2 O2 L1
    go_wp2_with fail
    clear c1 f1
    generalize W1.setCell ⟨w.heap.size, 1, none⟩ (.int .i64 1) = W2 at *
    by_cases h9 : Rs.bt l 1 = 94
    · have hat := is1 94 (by decide) w.heap.size s 1 W2 H2.out.1 hs1 hs' true (by rw [Rs.bt_drop, hl, h9]; rfl)
      have hk0 : 2 ≤ s.size := by
        rcases Nat.lt_or_ge 1 s.size with h2 | h2
        · omega
        · rw [← hl, Rs.bt_ge (by rw [← Lib.size_eq]; omega)] at h9; omega
      have h94 := Lib.hid h9
      clear h9 hl
      refine hat.mono ?_
      rintro e w1 ⟨rfl, q2, rfl⟩
      have B1 := below_drewN H2.out.2.2 q2
      have L1 := H2.out.2.1.below (below_drewN (Below.refl _ _) q2)
      have R1 := H2.out.1.drewN q2
      clear hat H2
      generalize W2.drewN q2 = W1 at *
      have c1 : W1.cell? ⟨w.heap.size, 1, none⟩ = some (.int .i64 1) := R1.c1
      have f1 := R1.f1
      have R2 : Rb (W1.setCell ⟨w.heap.size, 1, none⟩ (.int .i64 2)) w.heap.size s 2 := R1.set 2
      have B2 : Below w.heap.size w (W1.setCell ⟨w.heap.size, 1, none⟩ (.int .i64 2)) := B1.setCell (Nat.le_refl _) _
      have O2 : Onl w.heap.size W1 (W1.setCell ⟨w.heap.size, 1, none⟩ (.int .i64 2)) := (Onl.refl _ _).set _ rfl _
      have H3 := Lib.hid (show _ ∧ _ ∧ _ from ⟨R2, O2.lv hR9 L1, B2⟩)
      clear R1 R2 B1 B2 O2 L1
      go_wp2_with fail
      clear c1 f1
      generalize W1.setCell ⟨w.heap.size, 1, none⟩ (.int .i64 2) = W3 at *
      refine (items_calls w.heap.size s 2 W3 H3.out.1 hk0 hs hR9 H3.out.2.1).mono ?_
      rintro e W4 ⟨ho4, hm⟩
      rw [HLEN.out.2] at hm
      cases hI : Rs.itemsS (s.size + 1) (l.drop 2) true [] with
      | none =>
        rw [hI] at hm
        dsimp only at hm
        subst hm
        have FIN := Lib.hid (RdPost.no (s := s) (by rw [HLEN.out.2]; unfold Rs.readF; rw [if_neg (by simp [h00.out]), ← HLEN.out.2, HLEN.out.1, HLEN.out.2]; rw [if_pos h94.out]; rw [hI]) (H3.out.2.2.trans (ho4.toB (Nat.le_refl _) H3.out.2.2.size)))
        clear hI ho4
        go_wp2
        go_ret3
        exact FIN.out
      | some r =>
        obtain ⟨acc, r⟩ := r
        rw [hI] at hm
        dsimp only at hm
        obtain ⟨v, k', rfl, hrow, rb4, hk', hdr, hrg, hal⟩ := hm
        have hRF : Rs.readF s.data.toList = some (Rs.notS (Rs.setOf acc), s.size - r.length) := by
          rw [HLEN.out.2]; unfold Rs.readF; rw [if_neg (by simp [h00.out]), ← HLEN.out.2, HLEN.out.1, HLEN.out.2]; rw [if_pos h94.out]; rw [hI]; simp only [if_pos h94.out]
        have hke : s.size - r.length = k' := by
          have hl' : l.length = s.size := by rw [← HLEN.out.2]; exact HLEN.out.1
          rw [← hdr, List.length_drop, hl']; omega
        rw [hke] at hRF
        have B4 : Below w.heap.size w W4 := H3.out.2.2.trans (ho4.toB (Nat.le_refl _) H3.out.2.2.size)
        obtain ⟨a4, c4, rfl, _, hs4⟩ := Sl.of_own hrow
        have hof := of_calls' a4 c4 acc W4 hs4 (by omega) hrg
        have H4 := Lib.hid (show _ ∧ _ ∧ _ ∧ _ ∧ _ from ⟨hRF, B4, rb4, hs4, Rs.setOf_right acc hrg⟩)
        clear hI ho4 hRF hke hdr hrg hrow rb4 hs4 B4
        go_wp2_with fail
        refine hof.mono ?_
        rintro e W5 ⟨v5, rfl, hrow5, hb5⟩
        obtain ⟨a5, c5, rfl, _, hs5⟩ := Sl.of_own hrow5
        have hrs := H4.out.2.2.2.2
        have hl5 := Rs.right_len hrs
        have hnt := not_calls a5 c5 (Rs.setOf acc) W5 hs5 (by omega) (Rs.right_rg hrs) (Rs.gaps_rg _ 0 (-2) (by omega) hrs)
        have B5 := Bthen H4.out.2.1 hb5
        have rb5 := H4.out.2.2.1.below hb5
        have H5 := Lib.hid (show _ ∧ _ from ⟨B5, rb5⟩)
        clear hof hrs hrow5 hs5 hb5 B5 rb5
        go_wp2_with fail
        refine hnt.mono ?_
        rintro e W6 ⟨v6, rfl, hrow6, hb6⟩
        have B6 := Bthen H5.out.1 hb6
        have rb6 := H5.out.2.below hb6
        have HF := Lib.hid (show _ ∧ _ ∧ _ from ⟨B6, rb6, ownsRow_base hrow6 H5.out.1.size⟩)
        clear hnt B6 hb6 hrow6
        have c1 := rb6.c1
        clear rb6
        go_wp2_with fail
        go_big_quiet (fail)
        go_wp2
        go_ret3
        exact RdPost.yes H4.out.1 (below_drewN HF.out.1 _) HF.out.2.2
    · have hat := is1 94 (by decide) w.heap.size s 1 W2 H2.out.1 hs1 hs' false (by rw [Rs.bt_drop, hl]; simpa using h9)
      have hk0 : 1 ≤ s.size := hs1
      have h94 := Lib.hid h9
      clear h9 hl
      refine hat.mono ?_
      rintro e w1 ⟨rfl, q2, rfl⟩
      have H3 := Lib.hid (show _ ∧ _ ∧ _ from ⟨H2.out.1.drewN q2, H2.out.2.1.below (below_drewN (Below.refl _ _) q2), below_drewN H2.out.2.2 q2⟩)
      clear hat H2
      generalize W2.drewN q2 = W3 at *
      go_wp2_with fail
      refine (items_calls w.heap.size s 1 W3 H3.out.1 hk0 hs hR9 H3.out.2.1).mono ?_
      rintro e W4 ⟨ho4, hm⟩
      rw [HLEN.out.2] at hm
      cases hI : Rs.itemsS (s.size + 1) (l.drop 1) true [] with
      | none =>
        rw [hI] at hm
        dsimp only at hm
        subst hm
        have FIN := Lib.hid (RdPost.no (s := s) (by rw [HLEN.out.2]; unfold Rs.readF; rw [if_neg (by simp [h00.out]), ← HLEN.out.2, HLEN.out.1, HLEN.out.2]; rw [if_neg h94.out]; rw [hI]) (H3.out.2.2.trans (ho4.toB (Nat.le_refl _) H3.out.2.2.size)))
        clear hI ho4
        go_wp2
        go_ret3
        exact FIN.out
      | some r =>
        obtain ⟨acc, r⟩ := r
        rw [hI] at hm
        dsimp only at hm
        obtain ⟨v, k', rfl, hrow, rb4, hk', hdr, hrg, hal⟩ := hm
        have hRF : Rs.readF s.data.toList = some (Rs.setOf acc, s.size - r.length) := by
          rw [HLEN.out.2]; unfold Rs.readF; rw [if_neg (by simp [h00.out]), ← HLEN.out.2, HLEN.out.1, HLEN.out.2]; rw [if_neg h94.out]; rw [hI]; simp only [if_neg h94.out]
        have hke : s.size - r.length = k' := by
          have hl' : l.length = s.size := by rw [← HLEN.out.2]; exact HLEN.out.1
          rw [← hdr, List.length_drop, hl']; omega
        rw [hke] at hRF
        have B4 : Below w.heap.size w W4 := H3.out.2.2.trans (ho4.toB (Nat.le_refl _) H3.out.2.2.size)
        obtain ⟨a4, c4, rfl, _, hs4⟩ := Sl.of_own hrow
        have hof := of_calls' a4 c4 acc W4 hs4 (by omega) hrg
        have H4 := Lib.hid (show _ ∧ _ ∧ _ ∧ _ ∧ _ from ⟨hRF, B4, rb4, hs4, Rs.setOf_right acc hrg⟩)
        clear hI ho4 hRF hke hdr hrg hrow rb4 hs4 B4
        go_wp2_with fail
        refine hof.mono ?_
        rintro e W5 ⟨v5, rfl, hrow5, hb5⟩
        have B6 := Bthen H4.out.2.1 hb5
        have rb6 := H4.out.2.2.1.below hb5
        have HF := Lib.hid (show _ ∧ _ ∧ _ from ⟨B6, rb6, ownsRow_base hrow5 H4.out.2.1.size⟩)
        clear hof B6 hb5 hrow5
        have c1 := rb6.c1
        clear rb6
        go_wp2_with fail
        go_big_quiet (fail)
        go_wp2
        go_ret3
        exact RdPost.yes H4.out.1 (below_drewN HF.out.1 _) HF.out.2.2
  · have his := fun W hW => is1 91 (by decide) w.heap.size s 0 W hW (Nat.zero_le _) hs' false (by rw [List.drop_zero, hl]; simpa using h0)
    have HF := Lib.hid (show Rs.readF s.data.toList = none by rw [hl]; simp [Rs.readF, h0])
    clear h0 hl
    go_enter Tryz.func136, Tryz.ntmps136
    go_wp2_with fail
    refine (his _ H1.out.1).mono ?_
    rintro e w1 ⟨rfl, q, rfl⟩
    go_wp2
    go_ret3
    exact RdPost.no HF.out (below_drewN H1.out.2.2 q)
end Go.Proofs.YtimahlimmblgkaaGreatDoor
