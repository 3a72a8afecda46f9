/- Chapter 38, for the law SinkSmall: a region that makes four entries, in any order, and stores into them, one after the other. -/
import Derived.Test.YtmagojckhfkcdaaGreatDoorKTl
import Derived.Deep.RegionHeldLaw
import Derived.Deep.RegionHeld3
namespace Go.Proofs.YtmagojckhfkcdaaGreatDoor.Sk
open Go Go.RowKit
def remL : List Bool → Nat
  | [] => 0
  | b :: l => (if b = true then 0 else 1) + remL l
theorem remL_set : ∀ (l : List Bool) (i : Nat), l[i]? = some false → remL (l.set i true) + 1 = remL l
  | [], _, h => by simp at h
  | b :: l, 0, h => by
    have : b = false := by simpa using h
    subst this
    simp [remL, Nat.add_comm]
  | b :: l, i + 1, h => by
    have := remL_set l i (by simpa using h)
    simp only [List.set_cons_succ, remL]
    omega
theorem remL_zero : ∀ (l : List Bool), remL l = 0 → ∀ (i : Nat) (b : Bool), l[i]? = some b → b = true
  | [], _, _, _, h => by simp at h
  | c :: l, h0, 0, b, h => by
    cases c
    · simp [remL] at h0
    · simpa using h.symm
  | c :: l, h0, i + 1, b, h => by
    refine remL_zero l ?_ i b (by simpa using h)
    unfold remL at h0
    omega
theorem wpAnyH_inv {P : Program} {md : Region.Mode} {ops : Array Oper} {Q : Exit → Act → World → Prop} {S : World → Prop} (Inv : Array Bool → Act → World → Prop)
    (h0 : ∀ l a w, Inv l a w → Region.ready md ops l = [] → Q .normal a w)
    (hs : ∀ l a w, Inv l a w → ∀ i ∈ Region.ready md ops l, wpOp P ops Q i (fun a' w' => S w' ∧ Inv (l.setIfInBounds i true) a' w') a w) :
    ∀ n l a w, remL l.toList = n → Inv l a w → wpAnyH P md ops Q S n l a w
  | 0, l, a, w, hn, h => by
    have hr : Region.ready md ops l = [] := List.eq_nil_iff_forall_not_mem.2 fun i hi => by
      have h1 := (mem_ready.1 hi).1
      rcases Nat.lt_or_ge i l.size with h' | h'
      · have h2 := remL_zero l.toList hn i l[i] (by simp [h'])
        simp [h'] at h1
        rw [h1] at h2
        cases h2
      · simp [Array.getElem?_eq_none h'] at h1
    exact ⟨hr, h0 l a w h hr⟩
  | n + 1, l, a, w, hn, h => ⟨fun e => h0 l a w h e, fun i hi => wpOp_mono (fun a' w' h' => ⟨h'.1, wpAnyH_inv Inv h0 hs n _ a' w' (by
      have h1 := (mem_ready.1 hi).1
      have h' : i < l.size := by
        rcases Nat.lt_or_ge i l.size with h' | h'
        · exact h'
        · simp [Array.getElem?_eq_none h'] at h1
      have h2 := remL_set l.toList i (by simp [h'] at h1 ⊢; exact h1)
      rw [Array.toList_setIfInBounds]
      omega) h'.2⟩) (hs l a w h i hi)⟩
def zE6 : Array Value := #[.slice none 0 0, .bool false, .int .u64 0, .bool false, .int .i64 0, .int .i64 0]
theorem alloc_wp {o : Oper} (h : o.op = .alloc 34) {a : Act} {w : World} {K : Act → World → Prop} {Q : Exit → Act → World → Prop} (hK : K (a.put o.dst (.pointer (some ⟨w.heap.size, 0, none⟩))) (w.alloc (.cells zE6 34))) : o.wp Tryz.prog a w K Q := by
  obtain ⟨dst, op, ty, pos, af, gd⟩ := o
  dsimp only at h hK
  subst h
  unfold zE6 at hK
  go_simp
  exact hK
def enA (x : SE) : Array Value := #[.slice x.la x.e.lab.length x.lc, .bool x.e.mark, .int .u64 x.e.bits, .bool x.e.st, .int .i64 x.e.time, .int .i64 x.e.stamp]
def set6 (w : World) (g : Nat) (v : Array Value) : World := (((((w.setCell ⟨g, 0, none⟩ (v.getD 0 undef)).setCell ⟨g, 1, none⟩ (v.getD 1 undef)).setCell ⟨g, 2, none⟩ (v.getD 2 undef)).setCell ⟨g, 3, none⟩ (v.getD 3 undef)).setCell ⟨g, 4, none⟩ (v.getD 4 undef)).setCell ⟨g, 5, none⟩ (v.getD 5 undef)
theorem store_wp {o : Oper} {p q : Nat} (h : o.op = .store 34 (.tmp p) (.tmp q)) (hd : o.dst = none) {a : Act} {w : World} {K : Act → World → Prop} {Q : Exit → Act → World → Prop} {g : Nat} {y : SE} (hp : a.tmps[p]?.getD undef = .pointer (some ⟨g, 0, none⟩)) (hq : a.tmps[q]?.getD undef = .agg (enA y))
    (hb : w.heap[g]? = some (.cells zE6 34 (0, 0))) (hK : K a (set6 w g (enA y))) : o.wp Tryz.prog a w K Q := by
  obtain ⟨dst, op, ty, pos, af, gd⟩ := o
  dsimp only at h hd
  subst h
  subst hd
  have c0 := block_cell hb 0 _ rfl
  have c1 := block_cell hb 1 _ rfl
  have c2 := block_cell hb 2 _ rfl
  have c3 := block_cell hb 3 _ rfl
  have c4 := block_cell hb 4 _ rfl
  have c5 := block_cell hb 5 _ rfl
  have f0 := block_froz hb 0
  have f1 := block_froz hb 1
  have f2 := block_froz hb 2
  have f3 := block_froz hb 3
  have f4 := block_froz hb 4
  have f5 := block_froz hb 5
  have hlt := (isT_of hb).lt
  unfold enA at hq
  replace hK : K a ((((((w.setCell ⟨g, 0, none⟩ (.slice y.la y.e.lab.length y.lc)).setCell ⟨g, 1, none⟩ (.bool y.e.mark)).setCell ⟨g, 2, none⟩ (.int .u64 y.e.bits)).setCell ⟨g, 3, none⟩ (.bool y.e.st)).setCell ⟨g, 4, none⟩ (.int .i64 y.e.time)).setCell ⟨g, 5, none⟩ (.int .i64 y.e.stamp)) := hK
  clear hb
  go_simp
  exact hK
theorem set6_block {w : World} {g : Nat} {v : Array Value} (hb : w.heap[g]? = some (.cells zE6 34 (0, 0))) (hv : v.size = 6) : (set6 w g v).heap[g]? = some (.cells v 34 (0, 0)) := by
  obtain ⟨l⟩ := v
  match l, hv with
  | [x0, x1, x2, x3, x4, x5], _ =>
    unfold set6 World.setCell
    simp only [Array.getElem?_modify, hb]
    rfl
theorem set6_other {w : World} {g k : Nat} {v : Array Value} (h : k ≠ g) : (set6 w g v).heap[k]? = w.heap[k]? := by
  unfold set6
  iterate 5 (refine (Below.heap_setCell _ _ _ k h).trans ?_)
  exact Below.heap_setCell _ _ _ k h
theorem set6_below {w0 w : World} {g : Nat} {v : Array Value} (h : Below w0.heap.size w0 w) (hg : w0.heap.size ≤ g) : Below w0.heap.size w0 (set6 w g v) := by
  unfold set6
  iterate 6 (refine Below.setCell (p := ⟨g, _, none⟩) ?_ hg _)
  exact h
/-- a slot, before and behind its making -/
def slv (u : Value) : Option Nat → Value
  | none => u
  | some g => .pointer (some ⟨g, 0, none⟩)
def At6 (w0 w : World) (o : Option Nat) (s : Bool) (v : Array Value) : Prop := (s = true → o ≠ none) ∧ ∀ g, o = some g → w0.heap.size ≤ g ∧ w.heap[g]? = some (.cells (if s = true then v else zE6) 34 (0, 0))
def Ne6 (o p : Option Nat) : Prop := ∀ g h, o = some g → p = some h → g ≠ h
def LB6 (b5 b6 b7 b8 s5 s6 s7 s8 : Bool) : Array Bool := #[true, true, true, true, true, true, true, true, true, true, true, true, true, true, true, true, true, true, true, true, true, true, b5, b6, b7, b8, s5, s6, s7, s8]
theorem At6.alloc {w0 w : World} {o : Option Nat} {s : Bool} {v : Array Value} (h : At6 w0 w o s v) (x : Obj) : At6 w0 (w.alloc x) o s v :=
  ⟨h.1, fun g e => ⟨(h.2 g e).1, (Below.heap_alloc w x g (Array.getElem?_eq_some_iff.1 (h.2 g e).2).1).trans (h.2 g e).2⟩⟩
theorem At6.new {w0 w : World} {v : Array Value} (hw : w0.heap.size ≤ w.heap.size) : At6 w0 (w.alloc (.cells zE6 34)) (some w.heap.size) false v :=
  ⟨(fun h => by cases h), (fun g e => by cases e; exact ⟨hw, heap_alloc_new w _⟩)⟩
theorem At6.set {w0 w : World} {o p : Option Nat} {s : Bool} {v u : Array Value} {g : Nat} (h : At6 w0 w o s v) (hg : p = some g) (hn : Ne6 o p) : At6 w0 (set6 w g u) o s v :=
  ⟨h.1, fun k e => ⟨(h.2 k e).1, (set6_other (hn k g e hg)).trans (h.2 k e).2⟩⟩
theorem At6.put {w0 w : World} {g : Nat} {v : Array Value} (h : At6 w0 w (some g) false v) (hv : v.size = 6) : At6 w0 (set6 w g v) (some g) true v :=
  ⟨(fun _ => by simp), (fun k e => by cases e; exact ⟨(h.2 g rfl).1, set6_block (h.2 g rfl).2 hv⟩)⟩
theorem Ne6.new {w0 w : World} {o : Option Nat} {s : Bool} {v : Array Value} (h : At6 w0 w o s v) : Ne6 o (some w.heap.size) := fun g k e1 e2 => by
  cases e2
  have := (Array.getElem?_eq_some_iff.1 (h.2 g e1).2).1
  omega
theorem Ne6.symm {o p : Option Nat} (h : Ne6 o p) : Ne6 p o := fun g k e1 e2 e => h k g e2 e1 e.symm
def Inv6 (w0 : World) (y5 y6 y7 y8 : SE) (F : Value → Value → Value → Value → Act) (u5 u6 u7 u8 : Value) (l : Array Bool) (a : Act) (w : World) : Prop :=
  ∃ (o5 o6 o7 o8 : Option Nat) (s5 s6 s7 s8 : Bool), l = LB6 o5.isSome o6.isSome o7.isSome o8.isSome s5 s6 s7 s8 ∧ a = F (slv u5 o5) (slv u6 o6) (slv u7 o7) (slv u8 o8) ∧ (At6 w0 w o5 s5 (enA y5) ∧ At6 w0 w o6 s6 (enA y6) ∧ At6 w0 w o7 s7 (enA y7) ∧ At6 w0 w o8 s8 (enA y8)) ∧ (Ne6 o5 o6 ∧ Ne6 o5 o7 ∧ Ne6 o5 o8 ∧ Ne6 o6 o7 ∧ Ne6 o6 o8 ∧ Ne6 o7 o8) ∧ Below w0.heap.size w0 w
def rdy6 (i : Nat) (b5 b6 b7 b8 s5 s6 s7 s8 : Bool) : Bool := (decide (i = 22) && !b5) || (decide (i = 23) && !b6) || (decide (i = 24) && !b7) || (decide (i = 25) && !b8) || (decide (i = 26) && !s5 && b5) || (decide (i = 27) && !s6 && s5 && b6) || (decide (i = 28) && !s7 && s6 && b7) || (decide (i = 29) && !s8 && s7 && b8)
def AlI (ops : Array Oper) (i : Nat) (t : Tmp) : Prop := ∃ o : Oper, ops[i]? = some o ∧ o.op = Op.alloc 34 ∧ o.dst = some t ∧ o.guard = none
def StI (ops : Array Oper) (i : Nat) (t q : Tmp) : Prop := ∃ o : Oper, ops[i]? = some o ∧ o.op = Op.store 34 (Operand.tmp t) (Operand.tmp q) ∧ o.dst = none ∧ o.guard = none
set_option maxHeartbeats 4000000 in
theorem region6 {ops : Array Oper} {Q : Exit → Act → World → Prop} {S : World → Prop} {w0 : World} {y5 y6 y7 y8 : SE} {F : Value → Value → Value → Value → Act} {u5 u6 u7 u8 : Value} {q5 q6 q7 q8 : Nat}
    (hR : ∀ b5 b6 b7 b8 s5 s6 s7 s8 : Bool, (Region.ready .any ops (LB6 b5 b6 b7 b8 s5 s6 s7 s8)).all (fun i => rdy6 i b5 b6 b7 b8 s5 s6 s7 s8) = true)
    (hN : ∀ b5 b6 b7 b8 s5 s6 s7 s8 : Bool, (s5 = true → b5 = true) → (s6 = true → b6 = true) → (s7 = true → b7 = true) → (s8 = true → b8 = true) → (Region.ready .any ops (LB6 b5 b6 b7 b8 s5 s6 s7 s8)).isEmpty = true → (b5 && b6 && b7 && b8 && s5 && s6 && s7 && s8) = true)
    (hA5 : AlI ops 22 5)
    (hA6 : AlI ops 23 6)
    (hA7 : AlI ops 24 7)
    (hA8 : AlI ops 25 8)
    (hB5 : StI ops 26 5 q5)
    (hB6 : StI ops 27 6 q6)
    (hB7 : StI ops 28 7 q7)
    (hB8 : StI ops 29 8 q8)
    (hF5 : ∀ x5 x6 x7 x8 v, (F x5 x6 x7 x8).put (some 5) v = F v x6 x7 x8)
    (hE5 : ∀ x5 x6 x7 x8, (F x5 x6 x7 x8).tmps[(5 : Nat)]?.getD undef = x5 ∧ (F x5 x6 x7 x8).tmps[q5]?.getD undef = .agg (enA y5))
    (hF6 : ∀ x5 x6 x7 x8 v, (F x5 x6 x7 x8).put (some 6) v = F x5 v x7 x8)
    (hE6 : ∀ x5 x6 x7 x8, (F x5 x6 x7 x8).tmps[(6 : Nat)]?.getD undef = x6 ∧ (F x5 x6 x7 x8).tmps[q6]?.getD undef = .agg (enA y6))
    (hF7 : ∀ x5 x6 x7 x8 v, (F x5 x6 x7 x8).put (some 7) v = F x5 x6 v x8)
    (hE7 : ∀ x5 x6 x7 x8, (F x5 x6 x7 x8).tmps[(7 : Nat)]?.getD undef = x7 ∧ (F x5 x6 x7 x8).tmps[q7]?.getD undef = .agg (enA y7))
    (hF8 : ∀ x5 x6 x7 x8 v, (F x5 x6 x7 x8).put (some 8) v = F x5 x6 x7 v)
    (hE8 : ∀ x5 x6 x7 x8, (F x5 x6 x7 x8).tmps[(8 : Nat)]?.getD undef = x8 ∧ (F x5 x6 x7 x8).tmps[q8]?.getD undef = .agg (enA y8))
    (hS : ∀ w, Below w0.heap.size w0 w → S w)
    (hQ : ∀ g5 g6 g7 g8 w, Below w0.heap.size w0 w → w.heap[g5]? = some (.cells (enA y5) 34 (0, 0)) → w.heap[g6]? = some (.cells (enA y6) 34 (0, 0)) → w.heap[g7]? = some (.cells (enA y7) 34 (0, 0)) → w.heap[g8]? = some (.cells (enA y8) 34 (0, 0)) → Q .normal (F (.pointer (some ⟨g5, 0, none⟩)) (.pointer (some ⟨g6, 0, none⟩)) (.pointer (some ⟨g7, 0, none⟩)) (.pointer (some ⟨g8, 0, none⟩))) w)
    {w : World} (hw : Below w0.heap.size w0 w) : wpAnyH Tryz.prog .any ops Q S 8 (LB6 false false false false false false false false) (F u5 u6 u7 u8) w := by
  refine wpAnyH_inv (Inv6 w0 y5 y6 y7 y8 F u5 u6 u7 u8) ?_ ?_ 8 _ _ w (by unfold LB6; simp [remL]) ⟨none, none, none, none, false, false, false, false, rfl, rfl, ⟨?_, ?_, ?_, ?_⟩, ⟨?_, ?_, ?_, ?_, ?_, ?_⟩, hw⟩
  · rintro l a w ⟨o5, o6, o7, o8, s5, s6, s7, s8, rfl, rfl, ⟨h5, h6, h7, h8⟩, _, hb⟩ he
    have h1 := hN o5.isSome o6.isSome o7.isSome o8.isSome s5 s6 s7 s8 (fun e => by cases o5; exact absurd rfl (h5.1 e); rfl) (fun e => by cases o6; exact absurd rfl (h6.1 e); rfl) (fun e => by cases o7; exact absurd rfl (h7.1 e); rfl) (fun e => by cases o8; exact absurd rfl (h8.1 e); rfl) (by rw [he]; rfl)
    simp only [Bool.and_eq_true] at h1
    obtain ⟨⟨⟨⟨⟨⟨⟨e5, e6⟩, e7⟩, e8⟩, rfl⟩, rfl⟩, rfl⟩, rfl⟩ := h1
    obtain ⟨g5, rfl⟩ := Option.isSome_iff_exists.1 e5
    obtain ⟨g6, rfl⟩ := Option.isSome_iff_exists.1 e6
    obtain ⟨g7, rfl⟩ := Option.isSome_iff_exists.1 e7
    obtain ⟨g8, rfl⟩ := Option.isSome_iff_exists.1 e8
    exact hQ g5 g6 g7 g8 w hb (h5.2 g5 rfl).2 (h6.2 g6 rfl).2 (h7.2 g7 rfl).2 (h8.2 g8 rfl).2
  · rintro l a w ⟨o5, o6, o7, o8, s5, s6, s7, s8, rfl, rfl, ⟨h5, h6, h7, h8⟩, ⟨n56, n57, n58, n67, n68, n78⟩, hb⟩ i hi
    have h1 := List.all_eq_true.1 (hR o5.isSome o6.isSome o7.isSome o8.isSome s5 s6 s7 s8) i hi
    unfold rdy6 at h1
    simp only [Bool.or_eq_true, Bool.and_eq_true, decide_eq_true_eq, Bool.not_eq_true'] at h1
    rcases h1 with ((((((⟨rfl, e⟩ | ⟨rfl, e⟩) | ⟨rfl, e⟩) | ⟨rfl, e⟩) | ⟨⟨rfl, es⟩, e⟩) | ⟨⟨⟨rfl, es⟩, ep⟩, e⟩) | ⟨⟨⟨rfl, es⟩, ep⟩, e⟩) | ⟨⟨⟨rfl, es⟩, ep⟩, e⟩
    · obtain ⟨o, ho, hop, hod, hog⟩ := hA5
      have hz : o5 = none := by cases o5; rfl; cases e
      subst hz
      have hs0 : s5 = false := by cases s5; rfl; exact absurd rfl (h5.1 rfl)
      subst hs0
      unfold wpOp
      simp only [ho]
      rw [if_pos (by unfold Region.wanted; rw [hog])]
      refine .inl (alloc_wp hop ?_)
      rw [hod, hF5]
      refine ⟨hS _ (hb.alloc hb.size _), ?_⟩
      exact ⟨some w.heap.size, o6, o7, o8, false, s6, s7, s8, rfl, rfl, ⟨At6.new hb.size, h6.alloc _, h7.alloc _, h8.alloc _⟩, ⟨(Ne6.new h6).symm, (Ne6.new h7).symm, (Ne6.new h8).symm, n67, n68, n78⟩, hb.alloc hb.size _⟩
    · obtain ⟨o, ho, hop, hod, hog⟩ := hA6
      have hz : o6 = none := by cases o6; rfl; cases e
      subst hz
      have hs0 : s6 = false := by cases s6; rfl; exact absurd rfl (h6.1 rfl)
      subst hs0
      unfold wpOp
      simp only [ho]
      rw [if_pos (by unfold Region.wanted; rw [hog])]
      refine .inl (alloc_wp hop ?_)
      rw [hod, hF6]
      refine ⟨hS _ (hb.alloc hb.size _), ?_⟩
      exact ⟨o5, some w.heap.size, o7, o8, s5, false, s7, s8, rfl, rfl, ⟨h5.alloc _, At6.new hb.size, h7.alloc _, h8.alloc _⟩, ⟨Ne6.new h5, n57, n58, (Ne6.new h7).symm, (Ne6.new h8).symm, n78⟩, hb.alloc hb.size _⟩
    · obtain ⟨o, ho, hop, hod, hog⟩ := hA7
      have hz : o7 = none := by cases o7; rfl; cases e
      subst hz
      have hs0 : s7 = false := by cases s7; rfl; exact absurd rfl (h7.1 rfl)
      subst hs0
      unfold wpOp
      simp only [ho]
      rw [if_pos (by unfold Region.wanted; rw [hog])]
      refine .inl (alloc_wp hop ?_)
      rw [hod, hF7]
      refine ⟨hS _ (hb.alloc hb.size _), ?_⟩
      exact ⟨o5, o6, some w.heap.size, o8, s5, s6, false, s8, rfl, rfl, ⟨h5.alloc _, h6.alloc _, At6.new hb.size, h8.alloc _⟩, ⟨n56, Ne6.new h5, n58, Ne6.new h6, n68, (Ne6.new h8).symm⟩, hb.alloc hb.size _⟩
    · obtain ⟨o, ho, hop, hod, hog⟩ := hA8
      have hz : o8 = none := by cases o8; rfl; cases e
      subst hz
      have hs0 : s8 = false := by cases s8; rfl; exact absurd rfl (h8.1 rfl)
      subst hs0
      unfold wpOp
      simp only [ho]
      rw [if_pos (by unfold Region.wanted; rw [hog])]
      refine .inl (alloc_wp hop ?_)
      rw [hod, hF8]
      refine ⟨hS _ (hb.alloc hb.size _), ?_⟩
      exact ⟨o5, o6, o7, some w.heap.size, s5, s6, s7, false, rfl, rfl, ⟨h5.alloc _, h6.alloc _, h7.alloc _, At6.new hb.size⟩, ⟨n56, n57, Ne6.new h5, n67, Ne6.new h6, Ne6.new h7⟩, hb.alloc hb.size _⟩
    · obtain ⟨o, ho, hop, hod, hog⟩ := hB5
      obtain ⟨g, rfl⟩ := Option.isSome_iff_exists.1 e
      subst es
      unfold wpOp
      simp only [ho]
      rw [if_pos (by unfold Region.wanted; rw [hog])]
      refine .inl (store_wp hop hod (hE5 _ _ _ _).1 (hE5 _ _ _ _).2 (h5.2 g rfl).2 ?_)
      refine ⟨hS _ (set6_below hb (h5.2 g rfl).1), ?_⟩
      exact ⟨some g, o6, o7, o8, true, s6, s7, s8, rfl, rfl, ⟨h5.put rfl, h6.set rfl n56.symm, h7.set rfl n57.symm, h8.set rfl n58.symm⟩, ⟨n56, n57, n58, n67, n68, n78⟩, set6_below hb (h5.2 g rfl).1⟩
    · obtain ⟨o, ho, hop, hod, hog⟩ := hB6
      obtain ⟨g, rfl⟩ := Option.isSome_iff_exists.1 e
      subst es
      unfold wpOp
      simp only [ho]
      rw [if_pos (by unfold Region.wanted; rw [hog])]
      refine .inl (store_wp hop hod (hE6 _ _ _ _).1 (hE6 _ _ _ _).2 (h6.2 g rfl).2 ?_)
      refine ⟨hS _ (set6_below hb (h6.2 g rfl).1), ?_⟩
      exact ⟨o5, some g, o7, o8, s5, true, s7, s8, rfl, rfl, ⟨h5.set rfl n56, h6.put rfl, h7.set rfl n67.symm, h8.set rfl n68.symm⟩, ⟨n56, n57, n58, n67, n68, n78⟩, set6_below hb (h6.2 g rfl).1⟩
    · obtain ⟨o, ho, hop, hod, hog⟩ := hB7
      obtain ⟨g, rfl⟩ := Option.isSome_iff_exists.1 e
      subst es
      unfold wpOp
      simp only [ho]
      rw [if_pos (by unfold Region.wanted; rw [hog])]
      refine .inl (store_wp hop hod (hE7 _ _ _ _).1 (hE7 _ _ _ _).2 (h7.2 g rfl).2 ?_)
      refine ⟨hS _ (set6_below hb (h7.2 g rfl).1), ?_⟩
      exact ⟨o5, o6, some g, o8, s5, s6, true, s8, rfl, rfl, ⟨h5.set rfl n57, h6.set rfl n67, h7.put rfl, h8.set rfl n78.symm⟩, ⟨n56, n57, n58, n67, n68, n78⟩, set6_below hb (h7.2 g rfl).1⟩
    · obtain ⟨o, ho, hop, hod, hog⟩ := hB8
      obtain ⟨g, rfl⟩ := Option.isSome_iff_exists.1 e
      subst es
      unfold wpOp
      simp only [ho]
      rw [if_pos (by unfold Region.wanted; rw [hog])]
      refine .inl (store_wp hop hod (hE8 _ _ _ _).1 (hE8 _ _ _ _).2 (h8.2 g rfl).2 ?_)
      refine ⟨hS _ (set6_below hb (h8.2 g rfl).1), ?_⟩
      exact ⟨o5, o6, o7, some g, s5, s6, s7, true, rfl, rfl, ⟨h5.set rfl n58, h6.set rfl n68, h7.set rfl n78, h8.put rfl⟩, ⟨n56, n57, n58, n67, n68, n78⟩, set6_below hb (h8.2 g rfl).1⟩
  · exact ⟨(fun h => by cases h), (fun g e => by cases e)⟩
  · exact ⟨(fun h => by cases h), (fun g e => by cases e)⟩
  · exact ⟨(fun h => by cases h), (fun g e => by cases e)⟩
  · exact ⟨(fun h => by cases h), (fun g e => by cases e)⟩
  all_goals exact fun g h e => by cases e
theorem wpAnyH_at {P : Program} {md : Region.Mode} {ops : Array Oper} {Q : Exit → Act → World → Prop} {S : World → Prop} {n m : Nat} {l l0 : Array Bool} {a : Act} {w : World} (F : Act → Act) (hn : n = m) (hl : l = l0) (hF : F a = a) (h : ∀ A, A = a → wpAnyH P md ops Q S m l0 (F A) w) : wpAnyH P md ops Q S n l a w := by rw [hn, hl]; have := h a rfl; rwa [hF] at this
def putF (A : Act) (x5 x6 x7 x8 : Value) : Act := (((A.put (some 5) x5).put (some 6) x6).put (some 7) x7).put (some 8) x8
/-- what the region leaves -/
structure R6 (y5 y6 y7 y8 : SE) (w0 : World) (g5 g6 g7 g8 : Nat) (w : World) : Prop where
  b5 : w.heap[g5]? = some (.cells (enA y5) 34 (0, 0))
  b6 : w.heap[g6]? = some (.cells (enA y6) 34 (0, 0))
  b7 : w.heap[g7]? = some (.cells (enA y7) 34 (0, 0))
  b8 : w.heap[g8]? = some (.cells (enA y8) 34 (0, 0))
  bel : Below w0.heap.size w0 w
end Go.Proofs.YtmagojckhfkcdaaGreatDoor.Sk
