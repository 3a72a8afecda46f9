/- Several parts in one text: ReP, Read. -/
import Derived.Test.YtiooimdncocfdaaGreatDoorItP
import Derived.Test.YtiooimdncocfdaaGreatDoorItW
/- Package class: Read, the plain law; the chapter's examples, by reckoning. -/
namespace Go.Proofs.YtiooimdncocfdaaGreatDoor
namespace Rs
/-- the class with which a string begins: its set, and how many bytes it has -/
def readF (s : List UInt8) : Option (S × Nat) :=
  if bt s 0 ≠ 91 then none
  else match itemsS (s.length + 1) (s.drop (if bt s 1 = 94 then 2 else 1)) true [] with
    | none => none
    | some (l, r) => some (if bt s 1 = 94 then notS (setOf l) else setOf l, s.length - r.length)
def readL (s : List UInt8) : S := ((readF s).map (·.1)).getD []
def readN (s : List UInt8) : Nat := ((readF s).map (·.2)).getD 0
def readE (s : List UInt8) : Int := if (readF s).isSome then 0 else 61
theorem read_some {s : List UInt8} {l : S} {n : Nat} (h : readF s = some (l, n)) : readL s = l ∧ readN s = n ∧ readE s = 0 := by simp [readL, readN, readE, h]
theorem read_none {s : List UInt8} (h : readF s = none) : readL s = [] ∧ readN s = 0 ∧ readE s = 61 := by simp [readL, readN, readE, h]

theorem ex1 : readF [91, 97, 45, 99, 95, 92, 100, 45, 93, 120] = some ([(45, 45), (48, 57), (95, 95), (97, 99)], 9) := by decide +kernel
theorem ex2 : readF [91, 94, 92, 120, 123, 48, 125, 45, 92, 120, 54, 48, 93] = some ([(97, 55295), (57344, 1114111)], 13) := by decide +kernel
theorem ex3 : escS [92, 120, 123, 101, 57, 125, 122] = some (233, 6) := by decide +kernel
theorem ex4 : textS [(45, 45), (97, 99)] = [91, 92, 120, 123, 50, 68, 125, 97, 45, 99, 93] := by decide +kernel
theorem ex5 : readF [91, 93] = none ∧ readF [91, 98, 45, 97, 93] = none ∧ readF [91, 97, 45, 45, 93] = none ∧ readF [91, 45, 45, 97, 93] = none ∧ readF [91, 92, 113, 93] = none ∧ readF [91, 97] = none := by decide +kernel
theorem ex6 : setOf [(5, 9), (7, 12), (14, 14)] = [(5, 12), (14, 14)] := by decide +kernel
theorem ex7 : setOf [(5, 9), (13, 13), (7, 12), (14, 14)] = [(5, 14)] := by decide +kernel
theorem ex8 : setOf [(55000, 60000)] = [(55000, 55295), (57344, 60000)] := by decide +kernel
theorem ex9 : notS [] = [(0, 55295), (57344, 1114111)] := by decide +kernel
end Rs
end Go.Proofs.YtiooimdncocfdaaGreatDoor
/- Package class: Read. -/
namespace Go.Proofs.YtiooimdncocfdaaGreatDoor
open Go.RowKit Go.Shelf
theorem Onl.toB {R B : Nat} {a w : World} (h : Onl R a w) (hR : B ≤ R) (ha : B ≤ a.heap.size) : Below B a w :=
  ⟨h.os, h.tape, h.output, h.size, fun i hi => h.block i (by omega) (by simp; omega)⟩
theorem Rb.new (w : World) (s : ByteArray) : Rb (w.alloc (.cells #[.string s, .int .i64 0] 134)) w.heap.size s 0 := heap_alloc_new w _

def RdPost (s : ByteArray) (w : World) (e : Ending) (w' : World) : Prop :=
  ∃ v, e = .returned (.tuple #[v, .int .i64 (Rs.readN s.data.toList), .int .i64 (Rs.readE s.data.toList)]) ∧ w'.ownsRow w.heap.size 27 2 v (Rs.readL s.data.toList).length (rFlat (Rs.readL s.data.toList)) ∧ Below w.heap.size w w'
theorem RdPost.no {s : ByteArray} {w w' : World} (h : Rs.readF s.data.toList = none) (hb : Below w.heap.size w w') : RdPost s w (.returned (.tuple #[.slice none 0 0, .int .i64 0, .int .i64 61])) w' := by
  obtain ⟨e1, e2, e3⟩ := Rs.read_none h
  unfold RdPost
  rw [e1, e2, e3]
  exact ⟨_, rfl, World.ownsRow_nil _ _ _ _, hb⟩
theorem RdPost.yes {s : ByteArray} {w w' : World} {l : Rs.S} {n : Nat} {v : Value} (h : Rs.readF s.data.toList = some (l, n)) (hb : Below w.heap.size w w') (hr : w'.ownsRow w.heap.size 27 2 v l.length (rFlat l)) : RdPost s w (.returned (.tuple #[v, .int .i64 n, .int .i64 0])) w' := by
  obtain ⟨e1, e2, e3⟩ := Rs.read_some h
  unfold RdPost
  rw [e1, e2, e3]
  exact ⟨_, rfl, hr, hb⟩

set_option maxRecDepth 100000 in
set_option maxHeartbeats 8000000 in
theorem read_calls (s : ByteArray) (w : World) (hL : Lv w) (hs : s.size ≤ 100000000000) :
    Calls Tryz.prog 28 #[.string s] w (RdPost s w) := by
  have hs' : s.size ≤ 1000000000000 := by omega
  have hlen : s.data.toList.length = s.size := by rw [Lib.size_eq]
  have h9 := hL.sz
  obtain ⟨l, hl⟩ : ∃ l, s.data.toList = l := ⟨_, rfl⟩
  have hB1 : Below w.heap.size w (w.alloc (.cells #[.string s, .int .i64 0] 134)) := (Below.refl _ _).alloc (Nat.le_refl _) _
  have H1 := Lib.hid (show Rb (w.alloc (.cells #[.string s, .int .i64 0] 134)) w.heap.size s 0 ∧ Lv (w.alloc (.cells #[.string s, .int .i64 0] 134)) ∧ Below w.heap.size w (w.alloc (.cells #[.string s, .int .i64 0] 134)) from ⟨Rb.new w s, hL.below hB1, hB1⟩)
  have HLEN := Lib.hid (show _ ∧ _ from ⟨hlen, hl⟩)
  have hR9 : 10 < w.heap.size := h9
  clear hL hB1 hlen
  by_cases h0 : Rs.bt l 0 = 91
  · have his := fun W hW => is1 91 (by decide) w.heap.size s 0 W hW (Nat.zero_le _) hs' true (by rw [List.drop_zero, hl, h0]; rfl)
    have hs1 : 1 ≤ s.size := by
      rcases Nat.lt_or_ge 0 s.size with h2 | h2
      · omega
      · rw [← hl, Rs.bt_ge (by rw [← Lib.size_eq]; omega)] at h0; omega
    have h00 := Lib.hid h0
    clear h0
    go_enter Tryz.func28, Tryz.ntmps28
    go_wp2_with fail
    refine (his _ H1.out.1).mono ?_
    rintro e w1 ⟨rfl, q, rfl⟩
    have B1 := below_drewN H1.out.2.2 q
    have L1 := H1.out.2.1.below (below_drewN (Below.refl _ _) q)
    have R1 := H1.out.1.drewN q
    clear his H1
    generalize (w.alloc (.cells #[.string s, .int .i64 0] 134)).drewN q = W1 at *
    have c1 : W1.cell? ⟨w.heap.size, 1, none⟩ = some (.int .i64 0) := R1.c1
    have f1 := R1.f1
    have R2 : Rb (W1.setCell ⟨w.heap.size, 1, none⟩ (.int .i64 1)) w.heap.size s 1 := R1.set 1
    have B2 : Below w.heap.size w (W1.setCell ⟨w.heap.size, 1, none⟩ (.int .i64 1)) := B1.setCell (Nat.le_refl _) _
    have O2 : Onl w.heap.size W1 (W1.setCell ⟨w.heap.size, 1, none⟩ (.int .i64 1)) := (Onl.refl _ _).set _ rfl _
    have H2 := Lib.hid (show _ ∧ _ ∧ _ from ⟨R2, O2.lv hR9 L1, B2⟩)
    clear R1 R2 B1 B2 O2 L1
    go_wp2_with fail
    clear c1 f1
    generalize W1.setCell ⟨w.heap.size, 1, none⟩ (.int .i64 1) = W2 at *
    by_cases h9 : Rs.bt l 1 = 94
    · have hat := is1 94 (by decide) w.heap.size s 1 W2 H2.out.1 hs1 hs' true (by rw [Rs.bt_drop, hl, h9]; rfl)
      have hk0 : 2 ≤ s.size := by
        rcases Nat.lt_or_ge 1 s.size with h2 | h2
        · omega
        · rw [← hl, Rs.bt_ge (by rw [← Lib.size_eq]; omega)] at h9; omega
      have h94 := Lib.hid h9
      clear h9 hl
      refine hat.mono ?_
      rintro e w1 ⟨rfl, q2, rfl⟩
      have B1 := below_drewN H2.out.2.2 q2
      have L1 := H2.out.2.1.below (below_drewN (Below.refl _ _) q2)
      have R1 := H2.out.1.drewN q2
      clear hat H2
      generalize W2.drewN q2 = W1 at *
      have c1 : W1.cell? ⟨w.heap.size, 1, none⟩ = some (.int .i64 1) := R1.c1
      have f1 := R1.f1
      have R2 : Rb (W1.setCell ⟨w.heap.size, 1, none⟩ (.int .i64 2)) w.heap.size s 2 := R1.set 2
      have B2 : Below w.heap.size w (W1.setCell ⟨w.heap.size, 1, none⟩ (.int .i64 2)) := B1.setCell (Nat.le_refl _) _
      have O2 : Onl w.heap.size W1 (W1.setCell ⟨w.heap.size, 1, none⟩ (.int .i64 2)) := (Onl.refl _ _).set _ rfl _
      have H3 := Lib.hid (show _ ∧ _ ∧ _ from ⟨R2, O2.lv hR9 L1, B2⟩)
      clear R1 R2 B1 B2 O2 L1
      go_wp2_with fail
      clear c1 f1
      generalize W1.setCell ⟨w.heap.size, 1, none⟩ (.int .i64 2) = W3 at *
      refine (items_calls w.heap.size s 2 W3 H3.out.1 hk0 hs hR9 H3.out.2.1).mono ?_
      rintro e W4 ⟨ho4, hm⟩
      rw [HLEN.out.2] at hm
      cases hI : Rs.itemsS (s.size + 1) (l.drop 2) true [] with
      | none =>
        rw [hI] at hm
        dsimp only at hm
        subst hm
        have FIN := Lib.hid (RdPost.no (s := s) (by rw [HLEN.out.2]; unfold Rs.readF; rw [if_neg (by simp [h00.out]), ← HLEN.out.2, HLEN.out.1, HLEN.out.2]; rw [if_pos h94.out]; rw [hI]) (H3.out.2.2.trans (ho4.toB (Nat.le_refl _) H3.out.2.2.size)))
        clear hI ho4
        go_wp2
        go_ret3
        exact FIN.out
      | some r =>
        obtain ⟨acc, r⟩ := r
        rw [hI] at hm
        dsimp only at hm
        obtain ⟨v, k', rfl, hrow, rb4, hk', hdr, hrg, hal⟩ := hm
        have hRF : Rs.readF s.data.toList = some (Rs.notS (Rs.setOf acc), s.size - r.length) := by
          rw [HLEN.out.2]; unfold Rs.readF; rw [if_neg (by simp [h00.out]), ← HLEN.out.2, HLEN.out.1, HLEN.out.2]; rw [if_pos h94.out]; rw [hI]; simp only [if_pos h94.out]
        have hke : s.size - r.length = k' := by
          have hl' : l.length = s.size := by rw [← HLEN.out.2]; exact HLEN.out.1
          rw [← hdr, List.length_drop, hl']; omega
        rw [hke] at hRF
        have B4 : Below w.heap.size w W4 := H3.out.2.2.trans (ho4.toB (Nat.le_refl _) H3.out.2.2.size)
        obtain ⟨a4, c4, rfl, _, hs4⟩ := Sl.of_own hrow
        have hof := of_calls' a4 c4 acc W4 hs4 (by omega) hrg
        have H4 := Lib.hid (show _ ∧ _ ∧ _ ∧ _ ∧ _ from ⟨hRF, B4, rb4, hs4, Rs.setOf_right acc hrg⟩)
        clear hI ho4 hRF hke hdr hrg hrow rb4 hs4 B4
        go_wp2_with fail
        refine hof.mono ?_
        rintro e W5 ⟨v5, rfl, hrow5, hb5⟩
        obtain ⟨a5, c5, rfl, _, hs5⟩ := Sl.of_own hrow5
        have hrs := H4.out.2.2.2.2
        have hl5 := Rs.right_len hrs
        have hnt := not_calls a5 c5 (Rs.setOf acc) W5 hs5 (by omega) (Rs.right_rg hrs) (Rs.gaps_rg _ 0 (-2) (by omega) hrs)
        have B5 := Bthen H4.out.2.1 hb5
        have rb5 := H4.out.2.2.1.below hb5
        have H5 := Lib.hid (show _ ∧ _ from ⟨B5, rb5⟩)
        clear hof hrs hrow5 hs5 hb5 B5 rb5
        go_wp2_with fail
        refine hnt.mono ?_
        rintro e W6 ⟨v6, rfl, hrow6, hb6⟩
        have B6 := Bthen H5.out.1 hb6
        have rb6 := H5.out.2.below hb6
        have HF := Lib.hid (show _ ∧ _ ∧ _ from ⟨B6, rb6, ownsRow_base hrow6 H5.out.1.size⟩)
        clear hnt B6 hb6 hrow6
        have c1 := rb6.c1
        clear rb6
        go_wp2_with fail
        go_big_quiet (fail)
        go_wp2
        go_ret3
        exact RdPost.yes H4.out.1 (below_drewN HF.out.1 _) HF.out.2.2
    · have hat := is1 94 (by decide) w.heap.size s 1 W2 H2.out.1 hs1 hs' false (by rw [Rs.bt_drop, hl]; simpa using h9)
      have hk0 : 1 ≤ s.size := hs1
      have h94 := Lib.hid h9
      clear h9 hl
      refine hat.mono ?_
      rintro e w1 ⟨rfl, q2, rfl⟩
      have H3 := Lib.hid (show _ ∧ _ ∧ _ from ⟨H2.out.1.drewN q2, H2.out.2.1.below (below_drewN (Below.refl _ _) q2), below_drewN H2.out.2.2 q2⟩)
      clear hat H2
      generalize W2.drewN q2 = W3 at *
      go_wp2_with fail
      refine (items_calls w.heap.size s 1 W3 H3.out.1 hk0 hs hR9 H3.out.2.1).mono ?_
      rintro e W4 ⟨ho4, hm⟩
      rw [HLEN.out.2] at hm
      cases hI : Rs.itemsS (s.size + 1) (l.drop 1) true [] with
      | none =>
        rw [hI] at hm
        dsimp only at hm
        subst hm
        have FIN := Lib.hid (RdPost.no (s := s) (by rw [HLEN.out.2]; unfold Rs.readF; rw [if_neg (by simp [h00.out]), ← HLEN.out.2, HLEN.out.1, HLEN.out.2]; rw [if_neg h94.out]; rw [hI]) (H3.out.2.2.trans (ho4.toB (Nat.le_refl _) H3.out.2.2.size)))
        clear hI ho4
        go_wp2
        go_ret3
        exact FIN.out
      | some r =>
        obtain ⟨acc, r⟩ := r
        rw [hI] at hm
        dsimp only at hm
        obtain ⟨v, k', rfl, hrow, rb4, hk', hdr, hrg, hal⟩ := hm
        have hRF : Rs.readF s.data.toList = some (Rs.setOf acc, s.size - r.length) := by
          rw [HLEN.out.2]; unfold Rs.readF; rw [if_neg (by simp [h00.out]), ← HLEN.out.2, HLEN.out.1, HLEN.out.2]; rw [if_neg h94.out]; rw [hI]; simp only [if_neg h94.out]
        have hke : s.size - r.length = k' := by
          have hl' : l.length = s.size := by rw [← HLEN.out.2]; exact HLEN.out.1
          rw [← hdr, List.length_drop, hl']; omega
        rw [hke] at hRF
        have B4 : Below w.heap.size w W4 := H3.out.2.2.trans (ho4.toB (Nat.le_refl _) H3.out.2.2.size)
        obtain ⟨a4, c4, rfl, _, hs4⟩ := Sl.of_own hrow
        have hof := of_calls' a4 c4 acc W4 hs4 (by omega) hrg
        have H4 := Lib.hid (show _ ∧ _ ∧ _ ∧ _ ∧ _ from ⟨hRF, B4, rb4, hs4, Rs.setOf_right acc hrg⟩)
        clear hI ho4 hRF hke hdr hrg hrow rb4 hs4 B4
        go_wp2_with fail
        refine hof.mono ?_
        rintro e W5 ⟨v5, rfl, hrow5, hb5⟩
        have B6 := Bthen H4.out.2.1 hb5
        have rb6 := H4.out.2.2.1.below hb5
        have HF := Lib.hid (show _ ∧ _ ∧ _ from ⟨B6, rb6, ownsRow_base hrow5 H4.out.2.1.size⟩)
        clear hof B6 hb5 hrow5
        have c1 := rb6.c1
        clear rb6
        go_wp2_with fail
        go_big_quiet (fail)
        go_wp2
        go_ret3
        exact RdPost.yes H4.out.1 (below_drewN HF.out.1 _) HF.out.2.2
  · have his := fun W hW => is1 91 (by decide) w.heap.size s 0 W hW (Nat.zero_le _) hs' false (by rw [List.drop_zero, hl]; simpa using h0)
    have HF := Lib.hid (show Rs.readF s.data.toList = none by rw [hl]; simp [Rs.readF, h0])
    clear h0 hl
    go_enter Tryz.func28, Tryz.ntmps28
    go_wp2_with fail
    refine (his _ H1.out.1).mono ?_
    rintro e w1 ⟨rfl, q, rfl⟩
    go_wp2
    go_ret3
    exact RdPost.no HF.out (below_drewN H1.out.2.2 q)
end Go.Proofs.YtiooimdncocfdaaGreatDoor
