/- Chapter 38: the law's same: slices.EqualFunc over the law's items and the reference's. -/
import Derived.Test.YtggfehppompcjaaGreatDoorKJa
import Derived.Test.YtggfehppompcjaaGreatDoorKiA
import Derived.Deep.RegionHeldLaw
namespace Go.Proofs.YtggfehppompcjaaGreatDoor.Sk
open Go Go.RowKit
theorem own_cap {w : World} {base n cap size : Nat} {T : TypeId} {a : Option Addr} {xs : List Value} (h : w.ownsRow base T size (.slice a n cap) n xs) : n ≤ cap := by
  rcases h.2 with ⟨hv, h0⟩ | ⟨g, cap', cur, hv, _, _, h1, _⟩
  · omega
  · cases hv; exact h1
set_option maxRecDepth 100000 in
set_option maxHeartbeats 4000000 in
theorem same1_yes (key : ByteArray) (la : Option Addr) (lc : Nat) (e : Ent) (w : World) (ha : RdL w la e.lab) (hl : e.lab.length ≤ 1000000000) (zl : LabZ e.lab) :
    Calls Tryz.prog 89 #[.agg #[.string key, .slice la e.lab.length lc, .bool e.mark, .int .u64 e.bits, .bool e.st, .int .i64 e.time, .int .i64 e.stamp], .agg #[.string key, .slice la e.lab.length lc, .bool e.mark, .int .u64 e.bits, .bool e.st, .int .i64 e.time, .int .i64 e.stamp]] w
      (TdPost (.bool true) w) := by
  obtain ⟨w1, hw1⟩ : ∃ q, q = w.alloc (.cells #[.string key, .slice la e.lab.length lc, .bool e.mark, .int .u64 e.bits, .bool e.st, .int .i64 e.time, .int .i64 e.stamp] 44) := ⟨_, rfl⟩
  obtain ⟨w2, hw2⟩ : ∃ q, q = w1.alloc (.cells #[.string key, .slice la e.lab.length lc, .bool e.mark, .int .u64 e.bits, .bool e.st, .int .i64 e.time, .int .i64 e.stamp] 71) := ⟨_, rfl⟩
  have hz1 : w1.heap.size = w.heap.size + 1 := by rw [hw1]; simp
  have hb1 : Below w.heap.size w w1 := by rw [hw1]; exact (Below.refl _ _).alloc (Nat.le_refl _) _
  have hb2 : Below w1.heap.size w1 w2 := by rw [hw2]; exact (Below.refl _ _).alloc (Nat.le_refl _) _
  have hbk1 : w2.heap[w.heap.size]? = some (.cells #[.string key, .slice la e.lab.length lc, .bool e.mark, .int .u64 e.bits, .bool e.st, .int .i64 e.time, .int .i64 e.stamp] 44 (0, 0)) := (hb2.block _ (by omega)).trans (by rw [hw1]; exact heap_alloc_new w _)
  obtain ⟨gy, hgy⟩ : ∃ q, q = w.heap.size + 1 := ⟨_, rfl⟩
  obtain ⟨gx, hgx⟩ : ∃ q, q = w.heap.size := ⟨_, rfl⟩
  rw [← hgx] at hbk1
  have hbk2 : w2.heap[gy]? = some (.cells #[.string key, .slice la e.lab.length lc, .bool e.mark, .int .u64 e.bits, .bool e.st, .int .i64 e.time, .int .i64 e.stamp] 71 (0, 0)) := by rw [hgy, ← hz1, hw2]; exact heap_alloc_new w1 _
  have hbw := Bthen hb1 hb2
  have HL := Lib.hid (And.intro (ha.below hbw (Nat.le_refl _)) (And.intro hl (And.intro zl hbw)))
  have HSK : Hid (∀ w' : World, Below w2.heap.size w2 w' → w'.cell? ⟨gx, 0, none⟩ = some (.string key) ∧ w'.cell? ⟨gx, 1, none⟩ = some (.slice la e.lab.length lc) ∧ w'.cell? ⟨gx, 2, none⟩ = some (.bool e.mark) ∧ w'.cell? ⟨gx, 3, none⟩ = some (.int .u64 e.bits) ∧ w'.cell? ⟨gx, 4, none⟩ = some (.bool e.st) ∧ w'.cell? ⟨gx, 5, none⟩ = some (.int .i64 e.time) ∧ w'.cell? ⟨gx, 6, none⟩ = some (.int .i64 e.stamp) ∧ w'.cell? ⟨gy, 0, none⟩ = some (.string key) ∧ w'.cell? ⟨gy, 1, none⟩ = some (.slice la e.lab.length lc) ∧ w'.cell? ⟨gy, 2, none⟩ = some (.bool e.mark) ∧ w'.cell? ⟨gy, 3, none⟩ = some (.int .u64 e.bits) ∧ w'.cell? ⟨gy, 4, none⟩ = some (.bool e.st) ∧ w'.cell? ⟨gy, 5, none⟩ = some (.int .i64 e.time) ∧ w'.cell? ⟨gy, 6, none⟩ = some (.int .i64 e.stamp)) := Lib.hid (fun w' hb => by
    have h := (hb.block _ (isT_of hbk2).lt).trans hbk2
    have h1 := (hb.block _ (isT_of hbk1).lt).trans hbk1
    exact ⟨block_cell h1 0 _ rfl, block_cell h1 1 _ rfl, block_cell h1 2 _ rfl, block_cell h1 3 _ rfl, block_cell h1 4 _ rfl, block_cell h1 5 _ rfl, block_cell h1 6 _ rfl, block_cell h 0 _ rfl, block_cell h 1 _ rfl, block_cell h 2 _ rfl, block_cell h 3 _ rfl, block_cell h 4 _ rfl, block_cell h 5 _ rfl, block_cell h 6 _ rfl⟩)
  have hl1 := (isT_of hbk1).lt
  have hl2 := (isT_of hbk2).lt
  have c0 := block_cell hbk1 0 _ rfl
  have c1 := block_cell hbk1 1 _ rfl
  have c2 := block_cell hbk1 2 _ rfl
  have c3 := block_cell hbk1 3 _ rfl
  have c4 := block_cell hbk1 4 _ rfl
  have c5 := block_cell hbk1 5 _ rfl
  have c6 := block_cell hbk1 6 _ rfl
  have d0 := block_cell hbk2 0 _ rfl
  have d1 := block_cell hbk2 1 _ rfl
  have d2 := block_cell hbk2 2 _ rfl
  have d3 := block_cell hbk2 3 _ rfl
  have d4 := block_cell hbk2 4 _ rfl
  have d5 := block_cell hbk2 5 _ rfl
  have d6 := block_cell hbk2 6 _ rfl
  have HW := Lib.hid (And.intro hw2 (And.intro hw1 (And.intro hgy hgx)))
  clear hbk1 hbk2 hb1 hb2 hbw ha hl zl hw1 hw2 hgy hgx hz1
  go_enter Tryz.func89, Tryz.ntmps89
  go_upto_region 1 with fail
  rw [← HW.out.2.1, ← HW.out.1, ← HW.out.2.2.1, ← HW.out.2.2.2]
  clear HW
  go_region_held_law (fun w' : World => w'.cell? ⟨gx, 0, none⟩ = some (.string key) ∧ w'.cell? ⟨gx, 1, none⟩ = some (.slice la e.lab.length lc) ∧ w'.cell? ⟨gx, 2, none⟩ = some (.bool e.mark) ∧ w'.cell? ⟨gx, 3, none⟩ = some (.int .u64 e.bits) ∧ w'.cell? ⟨gx, 4, none⟩ = some (.bool e.st) ∧ w'.cell? ⟨gx, 5, none⟩ = some (.int .i64 e.time) ∧ w'.cell? ⟨gx, 6, none⟩ = some (.int .i64 e.stamp) ∧ w'.cell? ⟨gy, 0, none⟩ = some (.string key) ∧ w'.cell? ⟨gy, 1, none⟩ = some (.slice la e.lab.length lc) ∧ w'.cell? ⟨gy, 2, none⟩ = some (.bool e.mark) ∧ w'.cell? ⟨gy, 3, none⟩ = some (.int .u64 e.bits) ∧ w'.cell? ⟨gy, 4, none⟩ = some (.bool e.st) ∧ w'.cell? ⟨gy, 5, none⟩ = some (.int .i64 e.time) ∧ w'.cell? ⟨gy, 6, none⟩ = some (.int .i64 e.stamp)) (first | go_keep | (with_reducible exact HSK.out _ hA) | (with_reducible exact HSK.out _ hC))
    (first
      | (go_at_call 30; refine at_worldB ?_; intro W1 hW1; have hb1 : Below w2.heap.size w2 W1 := (by rw [hW1]; first | exact Below.refl _ _ | exact (Below.refl _ _).drew | exact below_drewN (Below.refl _ _) _); clear hW1; refine (theirs_calls key la e.lab.length lc e.mark e.st e.bits e.time e.stamp W1).mono ?_; rintro en w4 ⟨rfl, hb4⟩; have hA : Below w2.heap.size w2 w4 := hb1.trans (hb4.mono hb1.size); clear hb1 hb4)
      | (go_at_call 39; refine at_worldB ?_; intro W3 hW3; have hb3 : Below w4.heap.size w4 W3 := (by rw [hW3]; first | exact Below.refl _ _ | exact (Below.refl _ _).drew | exact below_drewN (Below.refl _ _) _); clear hW3; refine (same_yes key la la lc lc e W3 ((HL.out.1.below hA (Nat.le_refl _)).below hb3 (Nat.le_refl _)) ((HL.out.1.below hA (Nat.le_refl _)).below hb3 (Nat.le_refl _)) HL.out.2.1 HL.out.2.2.1).mono ?_; rintro en w5 ⟨rfl, hb5⟩; have hC : Below w2.heap.size w2 w5 := hA.trans ((hb3.trans (hb5.mono hb3.size)).mono hA.size); have hB : Below w.heap.size w w5 := HL.out.2.2.2.trans (hC.mono HL.out.2.2.2.size); clear hb3 hb5))
  all_goals
    have HB := Lib.hid hB
    clear hB hA hC
    go_wp2_with fail
    go_ret
    exact ⟨rfl, HB.out⟩
set_option maxRecDepth 100000 in
set_option maxHeartbeats 4000000 in
theorem eqJ_yes (a b : Option Addr) (ca cb : Nat) (l : List SI) (w : World) (ha : RdJ w a l) (hb : RdJ w b l) (ho : JOk l) (hs : l.length ≤ 1000000000) :
    Calls Tryz.prog 88 #[.slice a l.length ca, .slice b l.length cb, .func (Fn.func 89) #[] #[]] w
      (TdPost (.bool true) w) := by
  have H := Lib.hid (And.intro ha (And.intro hb ho))
  clear ha hb ho
  go_enter Tryz.func88, Tryz.ntmps88
  go_wp2_with fail
  go_loopw [17] (fun i wr => ∃ k : Nat, k ≤ l.length ∧ i = .int .i64 k ∧ Below w.heap.size w wr) (fun i _ => l.length - (intOf i).toNat)
  case atStart => exact ⟨0, Nat.zero_le _, rfl, Below.refl _ _⟩
  case round =>
    obtain ⟨k, hk, rfl, hbr⟩ := hrel
    have hbs := hbr.size
    have HB := Lib.hid hbr
    clear hbr
    by_cases hlt : k < l.length
    · obtain ⟨x, hx⟩ : ∃ x, l[k]? = some x := ⟨_, List.getElem?_eq_getElem hlt⟩
      obtain ⟨ba, oa, rfl, hla, hca⟩ := (H.out.1.below HB.out).at_ hx
      obtain ⟨bb, ob, rfl, hlb, hcb⟩ := (H.out.2.1.below HB.out).at_ hx
      have hxm := List.mem_of_getElem? hx
      have HX := Lib.hid (And.intro ((H.out.1.lab x hxm).below HB.out (Nat.le_refl _)) (And.intro (H.out.2.2.ln x hxm) (H.out.2.2.sz x hxm)))
      have c0 := hca 0 _ rfl
      rw [Nat.add_zero] at c0
      have c1 := hca 1 _ rfl
      have c2 := hca 2 _ rfl
      have c3 := hca 3 _ rfl
      have c4 := hca 4 _ rfl
      have c5 := hca 5 _ rfl
      have c6 := hca 6 _ rfl
      have d0 := hcb 0 _ rfl
      rw [Nat.add_zero] at d0
      have d1 := hcb 1 _ rfl
      have d2 := hcb 2 _ rfl
      have d3 := hcb 3 _ rfl
      have d4 := hcb 4 _ rfl
      have d5 := hcb 5 _ rfl
      have d6 := hcb 6 _ rfl
      obtain ⟨w0, hw0⟩ : ∃ q, q = wr := ⟨_, rfl⟩
      subst hw0
      clear hca hcb hx hxm
      go_wp2_with fail
      go_at_call 89
      have hb2 : Below w0.heap.size w0 ((w0.alloc (.cells (iB x).toArray 44)).alloc (.cells (iB x).toArray 71)) := ((Below.refl _ _).alloc (Nat.le_refl _) _).alloc (by simp) _
      refine (same1_yes x.key x.la x.lc x.e _ (HX.out.1.below hb2 (Nat.le_refl _)) HX.out.2.1 HX.out.2.2).mono ?_
      rintro en w1 ⟨rfl, hb1⟩
      have HB1 : Hid (Below w.heap.size w w1) := Lib.hid ((HB.out.trans (hb2.mono hbs)).trans (hb1.mono (by simp; omega)))
      clear hb1 hb2 c0 c1 c2 c3 c4 c5 c6 d0 d1 d2 d3 d4 d5 d6
      go_wp2
      go_roundw
      case rel => exact ⟨k + 1, by omega, by go_num, HB1.out⟩
      case measure => simp [intOf]; omega
    · go_wp2
      go_ret
      exact ⟨rfl, HB.out⟩
set_option maxRecDepth 100000 in
theorem sameJ_yes (a b : Option Addr) (ca cb : Nat) (l : List SI) (w : World) (ha : RdJ w a l) (hb : RdJ w b l) (ho : JOk l) (hs : l.length ≤ 1000000000) :
    Calls Tryz.prog 36 #[.slice a l.length ca, .slice b l.length cb] w (TdPost (.bool true) w) := by
  have H := Lib.hid (eqJ_yes a b ca cb l w ha hb ho hs)
  clear ha hb ho
  go_enter Tryz.func36, Tryz.ntmps36
  go_wp2_with fail
  go_at_call 88
  refine H.out.mono ?_
  rintro en w1 ⟨rfl, hb1⟩
  have HB := Lib.hid hb1
  clear hb1
  go_wp2
  go_ret
  exact ⟨rfl, HB.out⟩
end Go.Proofs.YtggfehppompcjaaGreatDoor.Sk
