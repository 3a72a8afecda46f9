/- Chapter 38: the law's theirs; the reference's Same at two items that are the same. -/
import Derived.Test.YtggfehppompcjaaGreatDoorKRg
namespace Go.Proofs.YtggfehppompcjaaGreatDoor.Sk
open Go Go.RowKit
theorem isT_of' {w : World} {b : Nat} {o : Obj} (h : w.heap[b]? = some o) : b < w.heap.size := (Array.getElem?_eq_some_iff.1 h).1
set_option maxRecDepth 100000 in
set_option maxHeartbeats 2000000 in
theorem theirs_calls (key : ByteArray) (la : Option Addr) (n lc : Nat) (mk sd : Bool) (bt tm sp : Int) (w : World) :
    Calls Tryz.prog 30 #[.agg #[.string key, .slice la n lc, .bool mk, .int .u64 bt, .bool sd, .int .i64 tm, .int .i64 sp]] w
      (TdPost (.agg #[.string key, .slice la n lc, .bool mk, .int .u64 bt, .bool sd, .int .i64 tm, .int .i64 sp]) w) := by
  go_enter Tryz.func30, Tryz.ntmps30
  go_wp2
  refine bodyPost_ret (v := .agg #[.string key, .slice la n lc, .bool mk, .int .u64 bt, .bool sd, .int .i64 tm, .int .i64 sp]) (by simp [results, Tryz.results30, go_sem]) rfl ⟨rfl, ?_⟩
  exact ((Below.refl _ _).alloc (Nat.le_refl _) _).alloc (by simp) _
set_option maxRecDepth 100000 in
set_option maxHeartbeats 4000000 in
theorem same_yes (key : ByteArray) (a b : Option Addr) (ca cb : Nat) (e : Ent) (w : World) (ha : RdL w a e.lab) (hb : RdL w b e.lab) (hl : e.lab.length ≤ 1000000000) (zl : LabZ e.lab) :
    Calls Tryz.prog 39 #[.agg #[.string key, .slice a e.lab.length ca, .bool e.mark, .int .u64 e.bits, .bool e.st, .int .i64 e.time, .int .i64 e.stamp], .agg #[.string key, .slice b e.lab.length cb, .bool e.mark, .int .u64 e.bits, .bool e.st, .int .i64 e.time, .int .i64 e.stamp]] w
      (TdPost (.bool true) w) := by
  obtain ⟨w1, hw1⟩ : ∃ q, q = w.alloc (.cells #[.string key, .slice a e.lab.length ca, .bool e.mark, .int .u64 e.bits, .bool e.st, .int .i64 e.time, .int .i64 e.stamp] 71) := ⟨_, rfl⟩
  obtain ⟨w2, hw2⟩ : ∃ q, q = w1.alloc (.cells #[.string key, .slice b e.lab.length cb, .bool e.mark, .int .u64 e.bits, .bool e.st, .int .i64 e.time, .int .i64 e.stamp] 71) := ⟨_, rfl⟩
  have hz1 : w1.heap.size = w.heap.size + 1 := by rw [hw1]; simp
  have hb1 : Below w.heap.size w w1 := by rw [hw1]; exact (Below.refl _ _).alloc (Nat.le_refl _) _
  have hb2 : Below w1.heap.size w1 w2 := by rw [hw2]; exact (Below.refl _ _).alloc (Nat.le_refl _) _
  have hbk1 : w2.heap[w.heap.size]? = some (.cells #[.string key, .slice a e.lab.length ca, .bool e.mark, .int .u64 e.bits, .bool e.st, .int .i64 e.time, .int .i64 e.stamp] 71 (0, 0)) := (hb2.block _ (by omega)).trans (by rw [hw1]; exact heap_alloc_new w _)
  have hbk2 : w2.heap[w.heap.size + 1]? = some (.cells #[.string key, .slice b e.lab.length cb, .bool e.mark, .int .u64 e.bits, .bool e.st, .int .i64 e.time, .int .i64 e.stamp] 71 (0, 0)) := by rw [← hz1, hw2]; exact heap_alloc_new w1 _
  have hbw := Bthen hb1 hb2
  have hcall := alike_calls key key a b ca cb e e w2 (ha.below hbw (Nat.le_refl _)) (hb.below hbw (Nat.le_refl _)) hl hl zl zl
  rw [decide_eq_true (show key = key ∧ e.lab = e.lab from ⟨rfl, rfl⟩)] at hcall
  have HC := Lib.hid hcall
  have H2 := Lib.hid (And.intro hbk1 (And.intro hbk2 hbw))
  rw [hw1] at hw2
  clear hcall hbk1 hbk2 hbw hb1 hb2 hz1 hw1 ha hb hl zl
  go_enter Tryz.func39, Tryz.ntmps39
  go_wp2_with fail
  go_at_call 95
  rw [← hw2]
  refine HC.out.mono ?_
  rintro en w3 ⟨rfl, hb3⟩
  have k1 := (hb3.block _ (isT_of' H2.out.1)).trans H2.out.1
  have k2 := (hb3.block _ (isT_of' H2.out.2.1)).trans H2.out.2.1
  have HB3 := Lib.hid (H2.out.2.2.trans (hb3.mono H2.out.2.2.size))
  have c2 := bk_cell k1 2 _ rfl
  have c3 := bk_cell k1 3 _ rfl
  have c4 := bk_cell k1 4 _ rfl
  have c5 := bk_cell k1 5 _ rfl
  have c6 := bk_cell k1 6 _ rfl
  have e2 := bk_cell k2 2 _ rfl
  have e3 := bk_cell k2 3 _ rfl
  have e4 := bk_cell k2 4 _ rfl
  have e5 := bk_cell k2 5 _ rfl
  have e6 := bk_cell k2 6 _ rfl
  clear k1 k2 hb3 hw2
  go_wp2
  go_ret
  exact ⟨rfl, HB3.out⟩
end Go.Proofs.YtggfehppompcjaaGreatDoor.Sk
