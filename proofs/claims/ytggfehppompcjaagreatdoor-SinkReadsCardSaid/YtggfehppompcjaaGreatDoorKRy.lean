/- Chapter 38: the law SinkReads: its walk. -/
import Derived.Test.YtggfehppompcjaaGreatDoorKRx
import Derived.Test.YtggfehppompcjaaGreatDoorKRz
import Derived.Test.YtggfehppompcjaaGreatDoorKwA
namespace Go.Proofs.YtggfehppompcjaaGreatDoor.Sk
open Go Go.RowKit
/-- the item of no text -/
abbrev zE : Ent := ⟨[], false, 0, false, 0, 0⟩
/-- what Read tells of a text, with its item written out -/
def RdOne (s : ByteArray) (key : ByteArray) (en : Ent) (err : Int) : Prop :=
  (err = 0 ∧ itemRight (d key) en = true ∧ EntIn en ∧ textR (d key) en = d s) ∨ (err = 383 ∧ NoText (d s) ∧ key = ⟨#[]⟩ ∧ en = zE)
theorem rdOne_of {s : ByteArray} {w w' : World} {e : Ending} (h : RdtPost s w e w') :
    ∃ (key : ByteArray) (la : Option Addr) (lc : Nat) (en : Ent) (err : Int), e = .returned (.tuple #[itAgg key la lc en, .int .i64 err]) ∧ RdOne s key en err ∧ Ll w' la lc en.lab ∧ Below w.heap.size w w' := by
  obtain ⟨h | h, hb⟩ := h
  · obtain ⟨key, la, lc, en, e, h1, h2, h3, h4, _⟩ := h
    exact ⟨key, la, lc, en, 0, e, .inl ⟨rfl, h1, h2, h3⟩, h4, hb⟩
  · obtain ⟨e, h1⟩ := h
    exact ⟨⟨#[]⟩, none, 0, zE, 383, e, .inr ⟨rfl, h1, rfl, rfl⟩, ⟨fun h => absurd rfl h, fun _ => ⟨rfl, rfl⟩, fun h => absurd rfl h⟩, hb⟩
theorem RdOne.same {s k1 k2 : ByteArray} {e1 e2 : Ent} {r1 r2 : Int} (h : RdOne s k1 e1 r1) (g : RdOne s k2 e2 r2) : k1 = k2 ∧ e1 = e2 ∧ r1 = r2 := by
  rcases h with ⟨rfl, a1, a2, a3⟩ | ⟨rfl, a1, rfl, rfl⟩ <;> rcases g with ⟨rfl, b1, b2, b3⟩ | ⟨rfl, b1, rfl, rfl⟩
  · obtain ⟨h1, h2⟩ := text_inj a1 b1 a2 b2 (a3.trans b3.symm)
    exact ⟨ByteArray.ext (Array.toList_inj.1 h1), h2, rfl⟩
  · exact absurd a3 (b1 _ _ a1 a2)
  · exact absurd b3 (a1 _ _ b1 b2)
  · exact ⟨rfl, rfl, rfl⟩
theorem RdOne.lab {s k : ByteArray} {en : Ent} {err : Int} (h : RdOne s k en err) : en.lab.length ≤ 1000000000 ∧ LabZ en.lab := by
  rcases h with ⟨_, h, _, _⟩ | ⟨_, _, _, rfl⟩
  · exact labZ_right (right_lab h)
  · exact ⟨by decide, fun x hx => by cases hx⟩
set_option maxRecDepth 100000 in
set_option maxHeartbeats 4000000 in
theorem reads_calls (s : ByteArray) (w : World) (hE : Ev w) (hS : Es w) : Calls Tryz.prog 10 #[.string s] w fun e w' => e = .returned (.bool true) ∧ Below w.heap.size w w' := by
  by_cases hs : s.size ≤ 400
  · have HE := Lib.hid (And.intro hE hS)
    clear hE hS
    go_enter Tryz.func10, Tryz.ntmps10
    go_wp2_with fail
    go_at_call 24
    refine (read_calls s (by omega) w HE.out.1 HE.out.2).mono ?_
    intro e1 w1 h1
    obtain ⟨key, la, lc, en, err, rfl, h11, h12, h13⟩ := rdOne_of h1
    have H1 := Lib.hid (And.intro h11 (And.intro h12 h13))
    clear h1 h11 h12 h13
    go_wp2_with fail
    go_at_call 38
    obtain ⟨wa, hwa⟩ : ∃ q, q = w1.alloc (.cells #[.string key, .slice la en.lab.length lc, .bool en.mark, .int .u64 en.bits, .bool en.st, .int .i64 en.time, .int .i64 en.stamp] 44) := ⟨_, rfl⟩
    obtain ⟨gx, hgx⟩ : ∃ q, q = w1.heap.size := ⟨_, rfl⟩
    have hba : Below w1.heap.size w1 wa := by rw [hwa]; exact (Below.refl _ _).alloc (Nat.le_refl _) _
    have hka : wa.heap[gx]? = some (.cells #[.string key, .slice la en.lab.length lc, .bool en.mark, .int .u64 en.bits, .bool en.st, .int .i64 en.time, .int .i64 en.stamp] 44 (0, 0)) := by rw [hwa, hgx]; exact heap_alloc_new w1 _
    rw [← hwa, ← hgx]
    have HA := Lib.hid (And.intro (Bthen H1.out.2.2 hba) (And.intro hka (H1.out.2.1.below hba (Nat.le_refl _))))
    clear hwa hgx hba hka
    refine (rrd_calls s (by omega) wa).mono ?_
    intro e2 w2 h2
    obtain ⟨key2, lb, cb, en2, err2, rfl, h21, h22, h23⟩ := rdOne_of h2
    obtain ⟨rfl, rfl, rfl⟩ := H1.out.1.same h21
    have HL := Lib.hid h21.lab
    have H2 := Lib.hid (And.intro (Bthen HA.out.1 h23) (And.intro ((h23.block _ (isT_of HA.out.2.1).lt).trans HA.out.2.1) (And.intro (HA.out.2.2.below h23 (Nat.le_refl _)) h22)))
    clear h2 h21 h22 h23 HA H1
    go_upto_region 5 with fail
    obtain ⟨wb, hwb⟩ : ∃ q, q = w2.alloc (.cells #[.string key, .slice lb en.lab.length cb, .bool en.mark, .int .u64 en.bits, .bool en.st, .int .i64 en.time, .int .i64 en.stamp] 71) := ⟨_, rfl⟩
    obtain ⟨gy, hgy⟩ : ∃ q, q = w2.heap.size := ⟨_, rfl⟩
    have hbb : Below w2.heap.size w2 wb := by rw [hwb]; exact (Below.refl _ _).alloc (Nat.le_refl _) _
    have hky : wb.heap[gy]? = some (.cells #[.string key, .slice lb en.lab.length cb, .bool en.mark, .int .u64 en.bits, .bool en.st, .int .i64 en.time, .int .i64 en.stamp] 71 (0, 0)) := by rw [hwb, hgy]; exact heap_alloc_new w2 _
    have hkx := (hbb.block _ (isT_of H2.out.2.1).lt).trans H2.out.2.1
    rw [← hwb, ← hgy]
    have H3 := Lib.hid (And.intro (Bthen H2.out.1 hbb) (And.intro (H2.out.2.2.1.below hbb (Nat.le_refl _)).rd (H2.out.2.2.2.below hbb (Nat.le_refl _)).rd))
    have HSK : Hid (∀ w' : World, Below wb.heap.size wb w' → w'.cell? ⟨gx, 0, none⟩ = some (.string key) ∧ w'.cell? ⟨gx, 1, none⟩ = some (.slice la en.lab.length lc) ∧ w'.cell? ⟨gx, 2, none⟩ = some (.bool en.mark) ∧ w'.cell? ⟨gx, 3, none⟩ = some (.int .u64 en.bits) ∧ w'.cell? ⟨gx, 4, none⟩ = some (.bool en.st) ∧ w'.cell? ⟨gx, 5, none⟩ = some (.int .i64 en.time) ∧ w'.cell? ⟨gx, 6, none⟩ = some (.int .i64 en.stamp) ∧ w'.cell? ⟨gy, 0, none⟩ = some (.string key) ∧ w'.cell? ⟨gy, 1, none⟩ = some (.slice lb en.lab.length cb) ∧ w'.cell? ⟨gy, 2, none⟩ = some (.bool en.mark) ∧ w'.cell? ⟨gy, 3, none⟩ = some (.int .u64 en.bits) ∧ w'.cell? ⟨gy, 4, none⟩ = some (.bool en.st) ∧ w'.cell? ⟨gy, 5, none⟩ = some (.int .i64 en.time) ∧ w'.cell? ⟨gy, 6, none⟩ = some (.int .i64 en.stamp)) := Lib.hid (fun w' hb => by
      have h1 := (hb.block _ (isT_of hkx).lt).trans hkx
      have h2 := (hb.block _ (isT_of hky).lt).trans hky
      exact ⟨block_cell h1 0 _ rfl, block_cell h1 1 _ rfl, block_cell h1 2 _ rfl, block_cell h1 3 _ rfl, block_cell h1 4 _ rfl, block_cell h1 5 _ rfl, block_cell h1 6 _ rfl, block_cell h2 0 _ rfl, block_cell h2 1 _ rfl, block_cell h2 2 _ rfl, block_cell h2 3 _ rfl, block_cell h2 4 _ rfl, block_cell h2 5 _ rfl, block_cell h2 6 _ rfl⟩)
    have hlx := (isT_of hkx).lt
    have hly := (isT_of hky).lt
    have x0 := block_cell hkx 0 _ rfl
    have y0 := block_cell hky 0 _ rfl
    have x1 := block_cell hkx 1 _ rfl
    have y1 := block_cell hky 1 _ rfl
    have x2 := block_cell hkx 2 _ rfl
    have y2 := block_cell hky 2 _ rfl
    have x3 := block_cell hkx 3 _ rfl
    have y3 := block_cell hky 3 _ rfl
    have x4 := block_cell hkx 4 _ rfl
    have y4 := block_cell hky 4 _ rfl
    have x5 := block_cell hkx 5 _ rfl
    have y5 := block_cell hky 5 _ rfl
    have x6 := block_cell hkx 6 _ rfl
    have y6 := block_cell hky 6 _ rfl
    clear hwb hgy hbb hkx hky H2
    go_region_held_law (fun w' : World => w'.cell? ⟨gx, 0, none⟩ = some (.string key) ∧ w'.cell? ⟨gx, 1, none⟩ = some (.slice la en.lab.length lc) ∧ w'.cell? ⟨gx, 2, none⟩ = some (.bool en.mark) ∧ w'.cell? ⟨gx, 3, none⟩ = some (.int .u64 en.bits) ∧ w'.cell? ⟨gx, 4, none⟩ = some (.bool en.st) ∧ w'.cell? ⟨gx, 5, none⟩ = some (.int .i64 en.time) ∧ w'.cell? ⟨gx, 6, none⟩ = some (.int .i64 en.stamp) ∧ w'.cell? ⟨gy, 0, none⟩ = some (.string key) ∧ w'.cell? ⟨gy, 1, none⟩ = some (.slice lb en.lab.length cb) ∧ w'.cell? ⟨gy, 2, none⟩ = some (.bool en.mark) ∧ w'.cell? ⟨gy, 3, none⟩ = some (.int .u64 en.bits) ∧ w'.cell? ⟨gy, 4, none⟩ = some (.bool en.st) ∧ w'.cell? ⟨gy, 5, none⟩ = some (.int .i64 en.time) ∧ w'.cell? ⟨gy, 6, none⟩ = some (.int .i64 en.stamp)) (first | go_keep | (with_reducible exact HSK.out _ hA) | (with_reducible exact HSK.out _ hC))
      (first
        | (go_at_call 30; refine at_worldR ?_; intro W1 hW1; have hb1 : Below wb.heap.size wb W1 := (by rw [hW1]; first | exact Below.refl _ _ | exact (Below.refl _ _).drew | exact below_drewN (Below.refl _ _) _); clear hW1; refine (theirs_calls key la en.lab.length lc en.mark en.st en.bits en.time en.stamp W1).mono ?_; rintro e w4 ⟨rfl, hb4⟩; have hA : Below wb.heap.size wb w4 := hb1.trans (hb4.mono hb1.size); clear hb1 hb4)
        | (go_at_call 39; refine at_worldR ?_; intro W3 hW3; have hb3 : Below w4.heap.size w4 W3 := (by rw [hW3]; first | exact Below.refl _ _ | exact (Below.refl _ _).drew | exact below_drewN (Below.refl _ _) _); clear hW3; refine (same_yes key la lb lc cb en W3 ((H3.out.2.1.below hA (Nat.le_refl _)).below hb3 (Nat.le_refl _)) ((H3.out.2.2.below hA (Nat.le_refl _)).below hb3 (Nat.le_refl _)) HL.out.1 HL.out.2).mono ?_; rintro e w5 ⟨rfl, hb5⟩; have hC : Below wb.heap.size wb w5 := hA.trans ((hb3.trans (hb5.mono hb3.size)).mono hA.size); have hB : Below w.heap.size w w5 := H3.out.1.trans (hC.mono H3.out.1.size); clear hb3 hb5))
    all_goals
      have HB := Lib.hid hB
      clear hB hA hC
      go_wp2_with fail
      go_ret
      first | exact ⟨rfl, HB.out⟩ | exact ⟨rfl, below_drewN HB.out _⟩
  · go_enter Tryz.func10, Tryz.ntmps10
    go_wp2
    go_ret
    exact ⟨rfl, Below.refl _ _⟩
set_option maxRecDepth 100000 in
set_option maxHeartbeats 4000000 in
theorem reads_law (s : ByteArray) (w : World) (hE : Ev w) (hS : Es w) : Calls Tryz.prog 4 #[.string s] w fun e w' => e = .returned (.bool true) ∧ Below w.heap.size w w' := by
  have HE := Lib.hid (And.intro hE hS)
  clear hE hS
  go_enter Tryz.func4, Tryz.ntmps4
  go_wp2_with fail
  go_at_call 10
  refine (reads_calls s w HE.out.1 HE.out.2).mono ?_
  rintro e w1 ⟨rfl, hb1⟩
  have H1 := Lib.hid hb1
  clear hb1
  go_wp2_with fail
  go_at_call 9
  refine (awake_calls w1 (HE.out.1.below H1.out)).mono ?_
  rintro e w2 ⟨rfl, hb2⟩
  have H2 := Lib.hid (Bthen H1.out hb2)
  clear hb2
  go_wp2_with fail
  go_ret
  exact ⟨rfl, H2.out⟩
end Go.Proofs.YtggfehppompcjaaGreatDoor.Sk
