/- Texts of the claim, put together: TrC. -/
import Derived.Test.YtimahlimmblgkaaGreatDoorPTpA
import Derived.Test.YtimahlimmblgkaaGreatDoorPRdA
namespace Go.Proofs.YtimahlimmblgkaaGreatDoor.Sy
open Go Go.RowKit
set_option maxRecDepth 100000 in
set_option maxHeartbeats 4000000 in
theorem midx_bad (w : World) :
    Calls Tryz.prog 135 #[.string ⟨#[92, 46, 91, 93, 40, 41, 123, 125, 42, 43, 63, 124, 94, 36]⟩, .int .i32 65533] w fun e w' => e = .returned (.int .i64 (-1)) ∧ Below w.heap.size w w' := by
  have n0 : (Instr.next (.pointer (some ⟨w.heap.size, 0, none⟩)) true 0).run Tryz.prog (w.iter ⟨#[92, 46, 91, 93, 40, 41, 123, 125, 42, 43, 63, 124, 94, 36]⟩ 0) = _ := run_next_ascii w ⟨#[92, 46, 91, 93, 40, 41, 123, 125, 42, 43, 63, 124, 94, 36]⟩ 0 0 (by decide) (by decide)
  have n1 : (Instr.next (.pointer (some ⟨w.heap.size, 0, none⟩)) true 0).run Tryz.prog (w.iter ⟨#[92, 46, 91, 93, 40, 41, 123, 125, 42, 43, 63, 124, 94, 36]⟩ 1) = _ := run_next_ascii w ⟨#[92, 46, 91, 93, 40, 41, 123, 125, 42, 43, 63, 124, 94, 36]⟩ 1 0 (by decide) (by decide)
  have n2 : (Instr.next (.pointer (some ⟨w.heap.size, 0, none⟩)) true 0).run Tryz.prog (w.iter ⟨#[92, 46, 91, 93, 40, 41, 123, 125, 42, 43, 63, 124, 94, 36]⟩ 2) = _ := run_next_ascii w ⟨#[92, 46, 91, 93, 40, 41, 123, 125, 42, 43, 63, 124, 94, 36]⟩ 2 0 (by decide) (by decide)
  have n3 : (Instr.next (.pointer (some ⟨w.heap.size, 0, none⟩)) true 0).run Tryz.prog (w.iter ⟨#[92, 46, 91, 93, 40, 41, 123, 125, 42, 43, 63, 124, 94, 36]⟩ 3) = _ := run_next_ascii w ⟨#[92, 46, 91, 93, 40, 41, 123, 125, 42, 43, 63, 124, 94, 36]⟩ 3 0 (by decide) (by decide)
  have n4 : (Instr.next (.pointer (some ⟨w.heap.size, 0, none⟩)) true 0).run Tryz.prog (w.iter ⟨#[92, 46, 91, 93, 40, 41, 123, 125, 42, 43, 63, 124, 94, 36]⟩ 4) = _ := run_next_ascii w ⟨#[92, 46, 91, 93, 40, 41, 123, 125, 42, 43, 63, 124, 94, 36]⟩ 4 0 (by decide) (by decide)
  have n5 : (Instr.next (.pointer (some ⟨w.heap.size, 0, none⟩)) true 0).run Tryz.prog (w.iter ⟨#[92, 46, 91, 93, 40, 41, 123, 125, 42, 43, 63, 124, 94, 36]⟩ 5) = _ := run_next_ascii w ⟨#[92, 46, 91, 93, 40, 41, 123, 125, 42, 43, 63, 124, 94, 36]⟩ 5 0 (by decide) (by decide)
  have n6 : (Instr.next (.pointer (some ⟨w.heap.size, 0, none⟩)) true 0).run Tryz.prog (w.iter ⟨#[92, 46, 91, 93, 40, 41, 123, 125, 42, 43, 63, 124, 94, 36]⟩ 6) = _ := run_next_ascii w ⟨#[92, 46, 91, 93, 40, 41, 123, 125, 42, 43, 63, 124, 94, 36]⟩ 6 0 (by decide) (by decide)
  have n7 : (Instr.next (.pointer (some ⟨w.heap.size, 0, none⟩)) true 0).run Tryz.prog (w.iter ⟨#[92, 46, 91, 93, 40, 41, 123, 125, 42, 43, 63, 124, 94, 36]⟩ 7) = _ := run_next_ascii w ⟨#[92, 46, 91, 93, 40, 41, 123, 125, 42, 43, 63, 124, 94, 36]⟩ 7 0 (by decide) (by decide)
  have n8 : (Instr.next (.pointer (some ⟨w.heap.size, 0, none⟩)) true 0).run Tryz.prog (w.iter ⟨#[92, 46, 91, 93, 40, 41, 123, 125, 42, 43, 63, 124, 94, 36]⟩ 8) = _ := run_next_ascii w ⟨#[92, 46, 91, 93, 40, 41, 123, 125, 42, 43, 63, 124, 94, 36]⟩ 8 0 (by decide) (by decide)
  have n9 : (Instr.next (.pointer (some ⟨w.heap.size, 0, none⟩)) true 0).run Tryz.prog (w.iter ⟨#[92, 46, 91, 93, 40, 41, 123, 125, 42, 43, 63, 124, 94, 36]⟩ 9) = _ := run_next_ascii w ⟨#[92, 46, 91, 93, 40, 41, 123, 125, 42, 43, 63, 124, 94, 36]⟩ 9 0 (by decide) (by decide)
  have n10 : (Instr.next (.pointer (some ⟨w.heap.size, 0, none⟩)) true 0).run Tryz.prog (w.iter ⟨#[92, 46, 91, 93, 40, 41, 123, 125, 42, 43, 63, 124, 94, 36]⟩ 10) = _ := run_next_ascii w ⟨#[92, 46, 91, 93, 40, 41, 123, 125, 42, 43, 63, 124, 94, 36]⟩ 10 0 (by decide) (by decide)
  have n11 : (Instr.next (.pointer (some ⟨w.heap.size, 0, none⟩)) true 0).run Tryz.prog (w.iter ⟨#[92, 46, 91, 93, 40, 41, 123, 125, 42, 43, 63, 124, 94, 36]⟩ 11) = _ := run_next_ascii w ⟨#[92, 46, 91, 93, 40, 41, 123, 125, 42, 43, 63, 124, 94, 36]⟩ 11 0 (by decide) (by decide)
  have n12 : (Instr.next (.pointer (some ⟨w.heap.size, 0, none⟩)) true 0).run Tryz.prog (w.iter ⟨#[92, 46, 91, 93, 40, 41, 123, 125, 42, 43, 63, 124, 94, 36]⟩ 12) = _ := run_next_ascii w ⟨#[92, 46, 91, 93, 40, 41, 123, 125, 42, 43, 63, 124, 94, 36]⟩ 12 0 (by decide) (by decide)
  have n13 : (Instr.next (.pointer (some ⟨w.heap.size, 0, none⟩)) true 0).run Tryz.prog (w.iter ⟨#[92, 46, 91, 93, 40, 41, 123, 125, 42, 43, 63, 124, 94, 36]⟩ 13) = _ := run_next_ascii w ⟨#[92, 46, 91, 93, 40, 41, 123, 125, 42, 43, 63, 124, 94, 36]⟩ 13 0 (by decide) (by decide)
  have n14 : (Instr.next (.pointer (some ⟨w.heap.size, 0, none⟩)) true 0).run Tryz.prog (w.iter ⟨#[92, 46, 91, 93, 40, 41, 123, 125, 42, 43, 63, 124, 94, 36]⟩ 14) = _ := run_next_end w ⟨#[92, 46, 91, 93, 40, 41, 123, 125, 42, 43, 63, 124, 94, 36]⟩ 14 0 (by decide)
  simp only [Nat.zero_add, Nat.reduceAdd] at n0 n1 n2 n3 n4 n5 n6 n7 n8 n9 n10 n11 n12 n13 n14
  have v0 : ((({ data := #[92, 46, 91, 93, 40, 41, 123, 125, 42, 43, 63, 124, 94, 36] } : ByteArray)[0]'(by decide)).toNat : Int) = 92 := by decide
  have v1 : ((({ data := #[92, 46, 91, 93, 40, 41, 123, 125, 42, 43, 63, 124, 94, 36] } : ByteArray)[1]'(by decide)).toNat : Int) = 46 := by decide
  have v2 : ((({ data := #[92, 46, 91, 93, 40, 41, 123, 125, 42, 43, 63, 124, 94, 36] } : ByteArray)[2]'(by decide)).toNat : Int) = 91 := by decide
  have v3 : ((({ data := #[92, 46, 91, 93, 40, 41, 123, 125, 42, 43, 63, 124, 94, 36] } : ByteArray)[3]'(by decide)).toNat : Int) = 93 := by decide
  have v4 : ((({ data := #[92, 46, 91, 93, 40, 41, 123, 125, 42, 43, 63, 124, 94, 36] } : ByteArray)[4]'(by decide)).toNat : Int) = 40 := by decide
  have v5 : ((({ data := #[92, 46, 91, 93, 40, 41, 123, 125, 42, 43, 63, 124, 94, 36] } : ByteArray)[5]'(by decide)).toNat : Int) = 41 := by decide
  have v6 : ((({ data := #[92, 46, 91, 93, 40, 41, 123, 125, 42, 43, 63, 124, 94, 36] } : ByteArray)[6]'(by decide)).toNat : Int) = 123 := by decide
  have v7 : ((({ data := #[92, 46, 91, 93, 40, 41, 123, 125, 42, 43, 63, 124, 94, 36] } : ByteArray)[7]'(by decide)).toNat : Int) = 125 := by decide
  have v8 : ((({ data := #[92, 46, 91, 93, 40, 41, 123, 125, 42, 43, 63, 124, 94, 36] } : ByteArray)[8]'(by decide)).toNat : Int) = 42 := by decide
  have v9 : ((({ data := #[92, 46, 91, 93, 40, 41, 123, 125, 42, 43, 63, 124, 94, 36] } : ByteArray)[9]'(by decide)).toNat : Int) = 43 := by decide
  have v10 : ((({ data := #[92, 46, 91, 93, 40, 41, 123, 125, 42, 43, 63, 124, 94, 36] } : ByteArray)[10]'(by decide)).toNat : Int) = 63 := by decide
  have v11 : ((({ data := #[92, 46, 91, 93, 40, 41, 123, 125, 42, 43, 63, 124, 94, 36] } : ByteArray)[11]'(by decide)).toNat : Int) = 124 := by decide
  have v12 : ((({ data := #[92, 46, 91, 93, 40, 41, 123, 125, 42, 43, 63, 124, 94, 36] } : ByteArray)[12]'(by decide)).toNat : Int) = 94 := by decide
  have v13 : ((({ data := #[92, 46, 91, 93, 40, 41, 123, 125, 42, 43, 63, 124, 94, 36] } : ByteArray)[13]'(by decide)).toNat : Int) = 36 := by decide
  rw [v0] at n0
  rw [v1] at n1
  rw [v2] at n2
  rw [v3] at n3
  rw [v4] at n4
  rw [v5] at n5
  rw [v6] at n6
  rw [v7] at n7
  rw [v8] at n8
  rw [v9] at n9
  rw [v10] at n10
  rw [v11] at n11
  rw [v12] at n12
  rw [v13] at n13
  clear v0 v1 v2 v3 v4 v5 v6 v7 v8 v9 v10 v11 v12 v13
  go_enter Tryz.func135, Tryz.ntmps135
  go_wp2
  refine wp_loop_rounds 15 ?_
  rw [rounds_succ]
  go_wp2
  rw [rounds_succ]
  go_wp2
  rw [rounds_succ]
  go_wp2
  rw [rounds_succ]
  go_wp2
  rw [rounds_succ]
  go_wp2
  rw [rounds_succ]
  go_wp2
  rw [rounds_succ]
  go_wp2
  rw [rounds_succ]
  go_wp2
  rw [rounds_succ]
  go_wp2
  rw [rounds_succ]
  go_wp2
  rw [rounds_succ]
  go_wp2
  rw [rounds_succ]
  go_wp2
  rw [rounds_succ]
  go_wp2
  rw [rounds_succ]
  go_wp2
  rw [rounds_succ]
  go_wp2
  go_ret
  exact ⟨rfl, (Below.refl _ _).alloc (Nat.le_refl _) _⟩
set_option maxRecDepth 100000 in
set_option maxHeartbeats 4000000 in
theorem midx_high (c : Int) (hv : Utf8.valid c = true) (hc : 128 ≤ c) (hne : c ≠ 65533) (w : World) :
    Calls Tryz.prog 135 #[.string ⟨#[92, 46, 91, 93, 40, 41, 123, 125, 42, 43, 63, 124, 94, 36]⟩, .int .i32 c] w fun e w' => e = .returned (.int .i64 (-1)) ∧ Below w.heap.size w w' := by
  obtain ⟨h2, h4, hlast⟩ := encode_facts c hv hc
  have hvr := fun W => Tryz.utf8_ValidRune c W
  have hne' : (c == 65533) = false := by simpa using hne
  generalize hE : Utf8.encode c = E at h2 h4 hlast
  have hvt : Lib.validRune c = true := by
    unfold Lib.validRune
    unfold Utf8.valid at hv
    simp at hv ⊢
    omega
  rw [hvt] at hvr
  obtain ⟨z, hz⟩ : ∃ z, E[E.size - 1]'(by omega) = z := ⟨_, rfl⟩
  have hl : 128 ≤ z.toNat := by rw [← hz]; exact hlast (by omega)
  have hib : ∀ (X : ByteArray) (W : World), (∀ b ∈ X.data.toList, b.toNat < 128) → Calls Tryz.prog 66 #[.string X, .int .u8 (z.toNat : Int)] W fun e w' => e = .returned (.int .i64 (-1)) ∧ W = w' := fun X W hX => by
    refine (Tryz.strings_IndexByte X (z.toNat : Int) W).mono fun e w' h => ⟨?_, h.2.symm⟩
    rw [h.1, Int.toNat_natCast, show z.toNat.toUInt8 = z by simp, idxb_high _ hX z hl]
  have hz1 : (((({ data := #[92, 46, 91, 93, 40, 41, 123, 125, 42, 43, 63, 124, 94, 36] } : ByteArray)[1]'(by decide)).toNat : Int) != (z.toNat : Int)) = true := by
    rw [show ((({ data := #[92, 46, 91, 93, 40, 41, 123, 125, 42, 43, 63, 124, 94, 36] } : ByteArray)[1]'(by decide)).toNat : Int) = 46 by decide]; simp; omega
  have hz2 : (((({ data := #[92, 46, 91, 93, 40, 41, 123, 125, 42, 43, 63, 124, 94, 36] } : ByteArray)[2]'(by decide)).toNat : Int) != (z.toNat : Int)) = true := by
    rw [show ((({ data := #[92, 46, 91, 93, 40, 41, 123, 125, 42, 43, 63, 124, 94, 36] } : ByteArray)[2]'(by decide)).toNat : Int) = 91 by decide]; simp; omega
  have hz3 : (((({ data := #[92, 46, 91, 93, 40, 41, 123, 125, 42, 43, 63, 124, 94, 36] } : ByteArray)[3]'(by decide)).toNat : Int) != (z.toNat : Int)) = true := by
    rw [show ((({ data := #[92, 46, 91, 93, 40, 41, 123, 125, 42, 43, 63, 124, 94, 36] } : ByteArray)[3]'(by decide)).toNat : Int) = 93 by decide]; simp; omega
  clear hlast hvt hv hne
  rcases (show E.size = 2 ∨ E.size = 3 ∨ E.size = 4 by omega) with hs | hs | hs
  · have hz' : E[1]'(by omega) = z := by rw [← hz]; congr 1; omega
    clear hz h2 h4
    go_enter Tryz.func135, Tryz.ntmps135
    go_wp2_with (go_at_call 166; refine (hvr _).mono ?_; clear hvr; rintro e w' ⟨rfl, rfl⟩)
    go_step3
    go_wp2
    refine wp_loop_rounds 1 ?_
    rw [rounds_succ]
    go_wp2
    go_step3
    go_wp2_with fail
    go_big_quiet (fail)
    go_wp2_with fail
    go_big_quiet ((go_at_call 66; exact (hib _ _ (by decide)).mono fun _ _ h => ⟨h.1, _, h.2.symm⟩))
    go_wp2
    rw [Exit.noGoto_ret]
    simp only [Exit.inBlock, Exit.then, Exit.noGoto_ret]
    go_ret
    exact ⟨rfl, below_drewN (Below.refl _ _) _⟩
  · have hz' : E[2]'(by omega) = z := by rw [← hz]; congr 1; omega
    clear hz h2 h4
    go_enter Tryz.func135, Tryz.ntmps135
    go_wp2_with (go_at_call 166; refine (hvr _).mono ?_; clear hvr; rintro e w' ⟨rfl, rfl⟩)
    go_step3
    go_wp2
    refine wp_loop_rounds 1 ?_
    rw [rounds_succ]
    go_wp2
    go_step3
    go_wp2_with fail
    go_big_quiet (fail)
    go_wp2_with fail
    go_big_quiet ((go_at_call 66; exact (hib _ _ (by decide)).mono fun _ _ h => ⟨h.1, _, h.2.symm⟩))
    go_wp2
    rw [Exit.noGoto_ret]
    simp only [Exit.inBlock, Exit.then, Exit.noGoto_ret]
    go_ret
    exact ⟨rfl, below_drewN (Below.refl _ _) _⟩
  · have hz' : E[3]'(by omega) = z := by rw [← hz]; congr 1; omega
    clear hz h2 h4
    go_enter Tryz.func135, Tryz.ntmps135
    go_wp2_with (go_at_call 166; refine (hvr _).mono ?_; clear hvr; rintro e w' ⟨rfl, rfl⟩)
    go_step3
    go_wp2
    refine wp_loop_rounds 1 ?_
    rw [rounds_succ]
    go_wp2
    go_step3
    go_wp2_with fail
    go_big_quiet (fail)
    go_wp2_with fail
    go_big_quiet ((go_at_call 66; exact (hib _ _ (by decide)).mono fun _ _ h => ⟨h.1, _, h.2.symm⟩))
    go_wp2
    rw [Exit.noGoto_ret]
    simp only [Exit.inBlock, Exit.then, Exit.noGoto_ret]
    go_ret
    exact ⟨rfl, below_drewN (Below.refl _ _) _⟩
theorem meta_idx : ∀ r : Fin 128, decide (0 ≤ Lib.indexByte [92, 46, 91, 93, 40, 41, 123, 125, 42, 43, 63, 124, 94, 36] r.val.toUInt8) = isMeta (r.val : Int) := by decide +kernel
theorem meta_high {r : Int} (h : 128 ≤ r) : isMeta r = false := by
  unfold isMeta metas
  simp
  omega
set_option maxRecDepth 100000 in
theorem contains_calls (r : Int) (hr : Rs.pt r = true) (w : World) : Calls Tryz.prog 106 #[.string ⟨#[92, 46, 91, 93, 40, 41, 123, 125, 42, 43, 63, 124, 94, 36]⟩, .int .i32 r] w fun e w' => e = .returned (.bool (isMeta r)) ∧ Below w.heap.size w w' := by
  have hp := (Rs.pt_iff r).1 hr
  by_cases h : r < 128
  · refine (Tryz.strings_ContainsRune_ascii ⟨#[92, 46, 91, 93, 40, 41, 123, 125, 42, 43, 63, 124, 94, 36]⟩ r w (by omega) h).mono ?_
    rintro e w' ⟨rfl, rfl⟩
    refine ⟨?_, Below.refl _ _⟩
    have := meta_idx ⟨r.toNat, by omega⟩
    dsimp only at this
    rw [show (r.toNat : Int) = r by omega] at this
    rw [← this]
  · rw [meta_high (by omega)]
    have hI : Hid (Calls Tryz.prog 135 #[.string ⟨#[92, 46, 91, 93, 40, 41, 123, 125, 42, 43, 63, 124, 94, 36]⟩, .int .i32 r] w fun e w' => e = .returned (.int .i64 (-1)) ∧ Below w.heap.size w w') := Lib.hid (by
      by_cases hb : r = 65533
      · rw [hb]; exact midx_bad w
      · exact midx_high r (by unfold Utf8.valid; simp; omega) (by omega) hb w)
    clear hp hr
    go_enter Tryz.func106, Tryz.ntmps106
    go_wp2_with fail
    refine hI.out.mono ?_
    rintro e w1 ⟨rfl, hb⟩
    have HB := Lib.hid hb
    clear hb
    go_wp2_with fail
    go_ret
    exact ⟨rfl, HB.out⟩
end Go.Proofs.YtimahlimmblgkaaGreatDoor.Sy
