/- Texts of the claim, put together: SlC. -/
import Derived.Test.YtimahlimmblgkaaGreatDoorPBaC
import Derived.Test.YtimahlimmblgkaaGreatDoorPSlB
import Derived.Laws.StructEq
namespace Go.Proofs.YtimahlimmblgkaaGreatDoor
namespace Rs
theorem cnt_len : ∀ (l : S) (h : Int), rightA h l = true → (l.length : Int) ≤ cnt l
  | [], _, _ => by simp [cnt]
  | r :: l, h, hr => by
    obtain ⟨ho, hl, ht⟩ := (rightA_cons h r l).1 hr
    have := (okR_iff r).1 ho
    have h2 := cnt_len l r.2 ht
    simp only [cnt, List.length_cons] at *
    push_cast
    omega
theorem right_len {l : S} (h : right l = true) : l.length ≤ 1114113 := by
  have h1 := cnt_len l _ h
  have h2 := cnt_le h
  omega
def err (b : Bool) : Int := if b then 0 else 60
def notE (l : S) : S := if right l then notS l else []
end Rs
open Go.RowKit Go.Shelf
set_option maxRecDepth 100000 in
set_option maxHeartbeats 1000000 in
theorem Not_calls (a : Option Addr) (cap : Nat) (l : Rs.S) (w : World) (h : Sl w a cap l) (hn : l.length < 4611686018427387904) :
    Calls Tryz.prog 131 #[.slice a l.length cap] w fun e w' => ∃ v, e = .returned (.tuple #[v, .int .i64 (Rs.err (Rs.right l))]) ∧ w'.ownsRow w.heap.size 84 2 v (Rs.notE l).length (rFlat (Rs.notE l)) ∧ Below w.heap.size w w' := by
  have hr := right_calls a cap l w h.rd hn
  cases hp : Rs.right l
  · rw [hp] at hr
    go_enter Tryz.func131, Tryz.ntmps131
    go_wp2_with (go_at_call 100; refine hr.mono ?_; clear hr; rintro e w1 ⟨rfl, hb⟩)
    go_ret2
    exact ⟨_, rfl, by simp only [Rs.notE, hp]; exact World.ownsRow_nil _ _ _ _, hb⟩
  · rw [hp] at hr
    have hlen := Rs.right_len hp
    have hnt := fun w1 (hb : Below w.heap.size w w1) => not_calls a cap l w1 (h.below hb) (by omega) (Rs.right_rg hp) (Rs.gaps_rg l 0 (-2) (by omega) hp)
    have HP := Lib.hid hp
    clear hp h
    go_enter Tryz.func131, Tryz.ntmps131
    go_wp2_with (first
      | (go_at_call 100; refine hr.mono ?_; clear hr; rintro e w1 ⟨rfl, hb⟩; replace hnt := hnt w1 hb)
      | (go_at_call 162; refine hnt.mono ?_; clear hnt; rintro e w2 ⟨v, rfl, hown, hb2⟩))
    go_ret2
    exact ⟨_, rfl, by simp only [Rs.notE, HP.out, if_true]; exact ownsRow_base hown hb.size, hb.trans (hb2.mono hb.size)⟩
theorem Bthen {w w1 w2 : World} (h : Below w.heap.size w w1) (k : Below w1.heap.size w1 w2) : Below w.heap.size w w2 := h.trans (k.mono h.size)
theorem Bnew {w w1 : World} (h : Below w.heap.size w w1) (o : Obj) : Below w.heap.size w (w1.alloc o) := h.alloc h.size o
theorem LsR.two (W : World) (x y : Option Addr × Nat × Rs.S) (T : TypeId) (hx : Sl W x.1 x.2.1 x.2.2) (hy : Sl W y.1 y.2.1 y.2.2) :
    LsR (W.alloc (.cells #[.slice x.1 x.2.2.length x.2.1, .slice y.1 y.2.2.length y.2.1] T)) W.heap.size 0 [x, y] := by
  refine ⟨by simp, fun i z hz => ?_⟩
  match i, hz with
  | 0, hz => cases hz; exact ⟨by simp only [World.cell?, World.alloc_heap_new]; rfl, hx.alloc _⟩
  | 1, hz => cases hz; exact ⟨by simp only [World.cell?, World.alloc_heap_new]; rfl, hy.alloc _⟩
end Go.Proofs.YtimahlimmblgkaaGreatDoor
namespace Go.Proofs.YtimahlimmblgkaaGreatDoor
namespace Rs
end Rs
open Go.RowKit Go.Shelf
end Go.Proofs.YtimahlimmblgkaaGreatDoor
namespace Go.Proofs.YtimahlimmblgkaaGreatDoor
open Go.RowKit Go.Shelf
theorem run_neq_R (x y : Rs.R) (w : World) : (binOp .neq 84 (.agg #[.int .i64 x.1, .int .i64 x.2]) (.agg #[.int .i64 y.1, .int .i64 y.2])).run Tryz.prog w = .ok (.bool (!decide (x = y))) w := by
  rw [show decide (x = y) = (x.1 == y.1 && x.2 == y.2) by
    obtain ⟨x1, x2⟩ := x
    obtain ⟨y1, y2⟩ := y
    rw [Bool.eq_iff_iff]; simp]
  go_simp
  by_cases h1 : x.1 = y.1 <;> by_cases h2 : x.2 = y.2 <;> simp [h1, h2]
set_option maxRecDepth 100000 in
set_option maxHeartbeats 2000000 in
theorem eq_calls (a b : Option Addr) (ca cb : Nat) (l m : Rs.S) (w : World) (ha : Sl w a ca l) (hb : Sl w b cb m) (hn : l.length < 4611686018427387904) :
    Calls Tryz.prog 53 #[.slice a l.length ca, .slice b m.length cb] w fun e w' => e = .returned (.bool (decide (l = m))) ∧ ∃ n, w' = w.drewN n := by
  have HA := Lib.hid ha
  have HB := Lib.hid hb
  clear ha hb
  by_cases hl : l.length = m.length
  · have hneq : ((l.length : Int) != (m.length : Int)) = false := by simp; omega
    have hl1 : l.length ≤ m.length := by omega
    have hl2 : m.length ≤ l.length := by omega
    clear hl
    go_enter Tryz.func53, Tryz.ntmps53
    go_wp2
    go_loopw [13] (fun i wr => ∃ k n : Nat, k ≤ l.length ∧ i = .int .i64 k ∧ Hid (l.take k = m.take k) ∧ Hid (wr = w.drewN n)) (fun i _ => l.length - (intOf i).toNat)
    case atStart => exact ⟨0, 0, Nat.zero_le _, rfl, Lib.hid (by simp), Lib.hid rfl⟩
    case round =>
      obtain ⟨k, n, hk, rfl, HT, HW⟩ := hrel
      by_cases hlt : k < l.length
      · obtain ⟨ba, oa, rfl, _, hca⟩ := HA.out.rd (by intro e; subst e; simp at hlt)
        obtain ⟨bb, ob, rfl, _, hcb⟩ := HB.out.rd (by intro e; rw [e] at hl1; simp at hl1; rw [hl1] at hlt; simp at hlt)
        obtain ⟨x, hx⟩ : ∃ x, l[k]? = some x := ⟨_, List.getElem?_eq_getElem hlt⟩
        obtain ⟨y, hy⟩ : ∃ y, m[k]? = some y := ⟨_, List.getElem?_eq_getElem (by omega)⟩
        obtain ⟨c0, c1⟩ := hca k _ hx
        obtain ⟨d0, d1⟩ := hcb k _ hy
        rw [← show wr.cell? _ = w.cell? _ by rw [HW.out]; rfl] at c0 c1 d0 d1
        have hne := fun W => run_neq_R x y W
        have HX := Lib.hid (show _ ∧ _ from ⟨hx, hy⟩)
        have hlt2 : k < m.length := by omega
        clear hx hy hca hcb
        by_cases hxy : x = y
        · rw [show (!decide (x = y)) = false by simp [hxy]] at hne
          have HE := Lib.hid hxy
          clear hxy
          go_wp2_with fail
          go_big_quiet (fail)
          go_wp2
          go_roundw
          case rel => exact ⟨k + 1, n + nq, by omega, by go_num, Lib.hid (by rw [Rs.take_succ HX.out.1, Rs.take_succ HX.out.2, HT.out, HE.out]), Lib.hid (by rw [HW.out, World.drewN_drewN])⟩
          case measure => simp [intOf]; omega
        · rw [show (!decide (x = y)) = true by simp [hxy]] at hne
          have HE : Hid (decide (l = m) = false) := Lib.hid (by simp; intro e; subst e; have := HX.out.1.symm.trans HX.out.2; cases this; exact hxy rfl)
          clear hxy
          go_wp2_with fail
          go_big_quiet (fail)
          go_wp2
          go_ret
          exact ⟨by rw [HE.out]; rfl, n + nq, by rw [HW.out, World.drewN_drewN]⟩
      · have hkl : k = l.length := by omega
        have HE : Hid (decide (l = m) = true) := Lib.hid (by have := HT.out; rw [List.take_of_length_le (by omega), List.take_of_length_le (by omega)] at this; simpa using this)
        have hge : ¬ (k : Int) < (l.length : Int) := by omega
        clear hkl
        go_wp2
        go_ret
        exact ⟨by rw [HE.out]; rfl, n, HW.out⟩
  · have hneq : ((l.length : Int) != (m.length : Int)) = true := by simp; omega
    have HE : Hid (decide (l = m) = false) := Lib.hid (by simp; intro e; exact hl (by rw [e]))
    clear hl
    go_enter Tryz.func53, Tryz.ntmps53
    go_wp2
    go_ret
    exact ⟨by rw [HE.out]; rfl, 0, rfl⟩
end Go.Proofs.YtimahlimmblgkaaGreatDoor
