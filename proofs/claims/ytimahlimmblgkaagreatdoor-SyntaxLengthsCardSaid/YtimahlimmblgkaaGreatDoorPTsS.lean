/- Chapter 07: a region that makes two trees, each in a box of its own, in whatever order. -/
import Derived.Test.YtimahlimmblgkaaGreatDoorPTsP
import Derived.Deep.RegionHeldLaw
import Derived.Deep.RegionHeld3
namespace Go.Proofs.YtimahlimmblgkaaGreatDoor.Sy
open Go Go.RowKit
def remL : List Bool → Nat
  | [] => 0
  | b :: l => (if b = true then 0 else 1) + remL l
theorem remL_set : ∀ (l : List Bool) (i : Nat), l[i]? = some false → remL (l.set i true) + 1 = remL l
  | [], _, h => by simp at h
  | b :: l, 0, h => by
    have : b = false := by simpa using h
    subst this
    simp [remL, Nat.add_comm]
  | b :: l, i + 1, h => by
    have := remL_set l i (by simpa using h)
    simp only [List.set_cons_succ, remL]
    omega
theorem remL_zero : ∀ (l : List Bool), remL l = 0 → ∀ (i : Nat) (b : Bool), l[i]? = some b → b = true
  | [], _, _, _, h => by simp at h
  | c :: l, h0, 0, b, h => by
    cases c
    · simp [remL] at h0
    · simpa using h.symm
  | c :: l, h0, i + 1, b, h => by
    refine remL_zero l ?_ i b (by simpa using h)
    unfold remL at h0
    omega
theorem wpAnyH_inv {P : Program} {md : Region.Mode} {ops : Array Oper} {Q : Exit → Act → World → Prop} {S : World → Prop} (Inv : Array Bool → Act → World → Prop)
    (h0 : ∀ l a w, Inv l a w → Region.ready md ops l = [] → Q .normal a w)
    (hs : ∀ l a w, Inv l a w → ∀ i ∈ Region.ready md ops l, wpOp P ops Q i (fun a' w' => S w' ∧ Inv (l.setIfInBounds i true) a' w') a w) :
    ∀ n l a w, remL l.toList = n → Inv l a w → wpAnyH P md ops Q S n l a w
  | 0, l, a, w, hn, h => by
    have hr : Region.ready md ops l = [] := List.eq_nil_iff_forall_not_mem.2 fun i hi => by
      have h1 := (mem_ready.1 hi).1
      rcases Nat.lt_or_ge i l.size with h' | h'
      · have h2 := remL_zero l.toList hn i l[i] (by simp [h'])
        simp [h'] at h1
        rw [h1] at h2
        cases h2
      · simp [Array.getElem?_eq_none h'] at h1
    exact ⟨hr, h0 l a w h hr⟩
  | n + 1, l, a, w, hn, h => ⟨fun e => h0 l a w h e, fun i hi => wpOp_mono (fun a' w' h' => ⟨h'.1, wpAnyH_inv Inv h0 hs n _ a' w' (by
      have h1 := (mem_ready.1 hi).1
      have h' : i < l.size := by
        rcases Nat.lt_or_ge i l.size with h' | h'
        · exact h'
        · simp [Array.getElem?_eq_none h'] at h1
      have h2 := remL_set l.toList i (by simp [h'] at h1 ⊢; exact h1)
      rw [Array.toList_setIfInBounds]
      omega) h'.2⟩) (hs l a w h i hi)⟩
theorem wpAnyH_at {P : Program} {md : Region.Mode} {ops : Array Oper} {Q : Exit → Act → World → Prop} {S : World → Prop} {n m : Nat} {l l0 : Array Bool} {a : Act} {w : World} (F : Act → Act) (hn : n = m) (hl : l = l0) (hF : F a = a) (h : ∀ A, A = a → wpAnyH P md ops Q S m l0 (F A) w) : wpAnyH P md ops Q S n l a w := by rw [hn, hl]; have := h a rfl; rwa [hF] at this
def tm (a : Act) (p : Nat) : Value := a.tmps[p]?.getD undef
theorem tm_eval (a : Act) (p : Nat) : a.eval (.tmp p) = tm a p := by simp [Act.eval, tm]
theorem put_same (A : Act) (t : Tmp) (v u : Value) : (A.put (some t) v).put (some t) u = A.put (some t) u := by simp [Act.put]
theorem put_swap {t q : Tmp} (h : t ≠ q) (A : Act) (v u : Value) : (A.put (some t) v).put (some q) u = (A.put (some q) u).put (some t) v := Act.put_comm A v u (fun d e1 e2 => by cases e1; cases e2; exact h rfl)
theorem tm_same {A : Act} {t : Tmp} (h : t < A.tmps.size) (v : Value) : tm (A.put (some t) v) t = v := by simp [tm, Act.put, h]
theorem tm_ne {A : Act} {t p : Tmp} (h : t ≠ p) (v : Value) : tm (A.put (some t) v) p = tm A p := by simp [tm, Act.put, h]
theorem size_put (A : Act) (t : Tmp) (v : Value) : (A.put (some t) v).tmps.size = A.tmps.size := by simp [Act.put]
def zC : List Value := [.int .u8 0, .slice none 0 0, .int .i64 0, .int .i64 0, .bool false, .slice none 0 0]
theorem alloc_wpN {o : Oper} (h : o.op = .alloc 27) {a : Act} {w : World} {K : Act → World → Prop} {Q : Exit → Act → World → Prop} (hK : K (a.put o.dst (.pointer (some ⟨w.heap.size, 0, none⟩))) (w.alloc (.cells zC.toArray 27))) : o.wp Tryz.prog a w K Q := by
  obtain ⟨dst, op, ty, pos, af, gd⟩ := o
  dsimp only at h hK
  subst h
  unfold zC at hK
  go_simp
  exact hK
def setN (w : World) (g : Nat) : L → World
  | .mk k sa sc s mn mx lz na nc l => (((((w.setCell ⟨g, 0, none⟩ (.int .u8 k)).setCell ⟨g, 1, none⟩ (.slice sa s.length sc)).setCell ⟨g, 2, none⟩ (.int .i64 mn)).setCell ⟨g, 3, none⟩ (.int .i64 mx)).setCell ⟨g, 4, none⟩ (.bool lz)).setCell ⟨g, 5, none⟩ (.slice na l.length nc)
theorem store_wpN {o : Oper} {p q : Nat} (h : o.op = .store 27 (.tmp p) (.tmp q)) (hd : o.dst = none) {a : Act} {w : World} {K : Act → World → Prop} {Q : Exit → Act → World → Prop} {g : Nat} {y : L} (hp : tm a p = .pointer (some ⟨g, 0, none⟩)) (hq : tm a q = y.val)
    (hb : w.heap[g]? = some (.cells zC.toArray 27 (0, 0))) (hK : K a (setN w g y)) : o.wp Tryz.prog a w K Q := by
  obtain ⟨k, sa, sc, s, mn, mx, lz, na, nc, l⟩ := y
  obtain ⟨dst, op, ty, pos, af, gd⟩ := o
  dsimp only at h hd
  subst h
  subst hd
  unfold zC at hb
  have c0 := block_cell hb 0 _ rfl
  have c1 := block_cell hb 1 _ rfl
  have c2 := block_cell hb 2 _ rfl
  have c3 := block_cell hb 3 _ rfl
  have c4 := block_cell hb 4 _ rfl
  have c5 := block_cell hb 5 _ rfl
  have f0 := block_froz hb 0
  have f1 := block_froz hb 1
  have f2 := block_froz hb 2
  have f3 := block_froz hb 3
  have f4 := block_froz hb 4
  have f5 := block_froz hb 5
  have hlt := (isT_of hb).lt
  rw [val_mk] at hq
  unfold tm at hp hq
  unfold setN at hK
  clear hb
  go_simp
  exact hK
set_option maxRecDepth 100000 in
theorem call_wpN {o : Oper} {f : FuncId} (he : ∀ args w, (callFunc f args).run Tryz.prog w = .ok (.enter f args) w) {p : Nat} {ty : Array TypeId} (h : o.op = .call { callee := .value (.func f), args := #[.tmp p], argTypes := ty }) {a : Act} {w : World} {K : Act → World → Prop} {Q : Exit → Act → World → Prop} {v : Value} (hp : tm a p = v)
    (H : Calls Tryz.prog f #[v] w fun e w' => ∃ u, e = .returned u ∧ K (a.put o.dst u) w') : o.wp Tryz.prog a w K Q := by
  obtain ⟨dst, op, t, pos, af, gd⟩ := o
  dsimp only at h H
  subst h
  unfold tm at hp
  subst hp
  go_simp
  refine Calls.mono H ?_
  rintro e w' ⟨u, rfl, hk⟩
  exact hk
theorem setN_block {w : World} {g : Nat} {y : L} (hb : w.heap[g]? = some (.cells zC.toArray 27 (0, 0))) : (setN w g y).heap[g]? = some (.cells y.cs.toArray 27 (0, 0)) := by
  obtain ⟨k, sa, sc, s, mn, mx, lz, na, nc, l⟩ := y
  exact six_cells hb
theorem setN_fr {w : World} {g : Nat} {y : L} : Fr (fun k => k = g) w (setN w g y) := by
  obtain ⟨k, sa, sc, s, mn, mx, lz, na, nc, l⟩ := y
  exact six_fr
theorem setN_below {w0 w : World} {g : Nat} {y : L} (h : Below w0.heap.size w0 w) (hg : w0.heap.size ≤ g) : Below w0.heap.size w0 (setN w g y) :=
  h.trans (setN_fr.below (B := w0.heap.size) (fun k hk e => by omega) h.size)
/-- a slot, before and behind its making -/
def bxv (u : Value) : Option Nat → Value
  | none => u
  | some g => .pointer (some ⟨g, 0, none⟩)
def trv (u : Value) : Option L → Value
  | none => u
  | some x => x.val
def csO : Option L → List Value
  | none => zC
  | some x => x.cs
/-- one of the two trees: it is made or not, its box is made or not, it lies in its box or not -/
structure Var3 (w0 w : World) (t : T) (c : Option L) (b : Option Nat) (d : Bool) (b' : Option Nat) : Prop where
  st : d = true → c ≠ none ∧ b ≠ none
  tr : ∀ x, c = some x → x.tree = t ∧ RdT (fun k => b ≠ some k ∧ b' ≠ some k) w x
  bx : ∀ g, b = some g → w0.heap.size ≤ g ∧ w.heap[g]? = some (.cells (if d = true then csO c else zC).toArray 27 (0, 0))
section
variable {w0 w w' : World} {t : T} {c : Option L} {b b' : Option Nat} {d : Bool}
theorem Var3.bel (h : Var3 w0 w t c b d b') (hb : Below w.heap.size w w') : Var3 w0 w' t c b d b' :=
  ⟨h.st, fun x e => ⟨(h.tr x e).1, (h.tr x e).2.bel hb⟩, fun g e => ⟨(h.bx g e).1, (hb.block g (isT_of (h.bx g e).2).lt).trans (h.bx g e).2⟩⟩
theorem Var3.made {x : L} (h : Var3 w0 w t none b d b') (hb : Below w.heap.size w w') (hx : x.tree = t) (hr : RdT (fun k => w.heap.size ≤ k) w' x) (hb' : ∀ g, b' = some g → g < w.heap.size) : Var3 w0 w' t (some x) b d b' := by
  have hd : d = false := by cases d; rfl; exact absurd rfl (h.st rfl).1
  subst hd
  refine ⟨fun e => (by cases e), fun y e => ?_, fun g e => ⟨(h.bx g e).1, (hb.block g (isT_of (h.bx g e).2).lt).trans (h.bx g e).2⟩⟩
  cases e
  refine ⟨hx, hr.mono (fun k hk _ => ⟨fun e => ?_, fun e => ?_⟩)⟩
  · have := (isT_of (h.bx k e).2).lt; omega
  · have := hb' k e; omega
theorem Var3.box (h : Var3 w0 w t c none d b') (hw : w0.heap.size ≤ w.heap.size) : Var3 w0 (w.alloc (.cells zC.toArray 27)) t c (some w.heap.size) d b' := by
  have hd : d = false := by cases d; rfl; exact absurd rfl (h.st rfl).2
  subst hd
  refine ⟨fun e => (by cases e), fun x e => ⟨(h.tr x e).1, ((h.tr x e).2.mono (Q := fun k => some w.heap.size ≠ some k ∧ b' ≠ some k) (fun k hk hl => ⟨fun e => (by cases e; omega), hk.2⟩)).bel ((Below.refl _ _).alloc (Nat.le_refl _) _)⟩, fun g e => ?_⟩
  cases e
  exact ⟨hw, heap_alloc_new w _⟩
theorem Var3.box' (h : Var3 w0 w t c b d none) (o : Obj) : Var3 w0 (w.alloc o) t c b d (some w.heap.size) :=
  ⟨h.st, fun x e => ⟨(h.tr x e).1, ((h.tr x e).2.mono (Q := fun k => b ≠ some k ∧ some w.heap.size ≠ some k) (fun k hk hl => ⟨hk.1, fun e => by cases e; omega⟩)).bel ((Below.refl _ _).alloc (Nat.le_refl _) _)⟩,
    fun g e => ⟨(h.bx g e).1, (Below.heap_alloc w o g (isT_of (h.bx g e).2).lt).trans (h.bx g e).2⟩⟩
theorem Var3.put {x : L} {g : Nat} (h : Var3 w0 w t (some x) (some g) false b') : Var3 w0 (setN w g x) t (some x) (some g) true b' := by
  refine ⟨fun _ => ⟨by simp, by simp⟩, fun y e => ?_, fun k e => ?_⟩
  · exact ⟨(h.tr y e).1, (h.tr y e).2.fr setN_fr (fun k hk _ e => hk.1 (by rw [e]))⟩
  · cases e
    exact ⟨(h.bx g rfl).1, setN_block (h.bx g rfl).2⟩
theorem Var3.put' {x : L} {g : Nat} (h : Var3 w0 w t c b d (some g)) (hn : ∀ k, b = some k → k ≠ g) : Var3 w0 (setN w g x) t c b d (some g) :=
  ⟨h.st, fun y e => ⟨(h.tr y e).1, (h.tr y e).2.fr setN_fr (fun k hk _ e => hk.2 (by rw [e]))⟩, fun k e => ⟨(h.bx k e).1, (setN_fr.block k (isT_of (h.bx k e).2).lt (hn k e)).trans (h.bx k e).2⟩⟩
end
def LB3 (c1 c2 b1 b2 d1 d2 : Bool) : Array Bool := #[true, true, true, true, true, c1, true, true, true, true, true, c2, b1, b2, d1, d2]
def rdy3 (i : Nat) (c1 c2 b1 b2 d1 d2 : Bool) : Bool := (decide (i = 5) && !c1) || (decide (i = 11) && !c2) || (decide (i = 12) && !b1) || (decide (i = 13) && !b2) || (decide (i = 14) && !d1 && c1 && b1) || (decide (i = 15) && !d2 && c2 && b2)
def Inv3 (w0 : World) (t1 t2 : T) (F : Value → Value → Value → Value → Act) (u5 u6 v1 v2 : Value) (l : Array Bool) (a : Act) (w : World) : Prop :=
  ∃ (c1 c2 : Option L) (b1 b2 : Option Nat) (d1 d2 : Bool), l = LB3 c1.isSome c2.isSome b1.isSome b2.isSome d1 d2 ∧ a = F (bxv u5 b1) (bxv u6 b2) (trv v1 c1) (trv v2 c2) ∧ (Var3 w0 w t1 c1 b1 d1 b2 ∧ Var3 w0 w t2 c2 b2 d2 b1) ∧ (∀ g k, b1 = some g → b2 = some k → g ≠ k) ∧ Below w0.heap.size w0 w
def CaN (ops : Array Oper) (i : Nat) (f : FuncId) (p t : Tmp) : Prop := ∃ o : Oper, ops[i]? = some o ∧ (∃ ty, o.op = Op.call { callee := .value (.func f), args := #[.tmp p], argTypes := ty }) ∧ o.dst = some t ∧ o.guard = none
def AlN (ops : Array Oper) (i : Nat) (t : Tmp) : Prop := ∃ o : Oper, ops[i]? = some o ∧ o.op = Op.alloc 27 ∧ o.dst = some t ∧ o.guard = none
def StN (ops : Array Oper) (i : Nat) (t q : Tmp) : Prop := ∃ o : Oper, ops[i]? = some o ∧ o.op = Op.store 27 (Operand.tmp t) (Operand.tmp q) ∧ o.dst = none ∧ o.guard = none
set_option maxHeartbeats 4000000 in
theorem region_two {ops : Array Oper} {Q : Exit → Act → World → Prop} {S : World → Prop} {w0 : World} {t1 t2 : T} {F : Value → Value → Value → Value → Act} {u5 u6 v1 v2 : Value} {f : FuncId} {p1 p2 q1 q2 : Nat} {x1 x2 : Value}
    (hR : ∀ c1 c2 b1 b2 d1 d2 : Bool, (Region.ready .any ops (LB3 c1 c2 b1 b2 d1 d2)).all (fun i => rdy3 i c1 c2 b1 b2 d1 d2) = true)
    (hN : ∀ c1 c2 b1 b2 d1 d2 : Bool, (Region.ready .any ops (LB3 c1 c2 b1 b2 d1 d2)).isEmpty = true → (d1 = true → c1 = true ∧ b1 = true) → (d2 = true → c2 = true ∧ b2 = true) → (c1 && c2 && b1 && b2 && d1 && d2) = true)
    (eC : ∀ args w, (callFunc f args).run Tryz.prog w = .ok (.enter f args) w)
    (o5 : CaN ops 5 f p1 q1) (o11 : CaN ops 11 f p2 q2) (o12 : AlN ops 12 5) (o13 : AlN ops 13 6) (o14 : StN ops 14 5 q1) (o15 : StN ops 15 6 q2)
    (f5 : ∀ a b c d v, (F a b c d).put (some 5) v = F v b c d) (f6 : ∀ a b c d v, (F a b c d).put (some 6) v = F a v c d) (fq1 : ∀ a b c d v, (F a b c d).put (some q1) v = F a b v d) (fq2 : ∀ a b c d v, (F a b c d).put (some q2) v = F a b c v)
    (e5 : ∀ a b c d, tm (F a b c d) 5 = a) (e6 : ∀ a b c d, tm (F a b c d) 6 = b) (eq1 : ∀ a b c d, tm (F a b c d) q1 = c) (eq2 : ∀ a b c d, tm (F a b c d) q2 = d) (ep1 : ∀ a b c d, tm (F a b c d) p1 = x1) (ep2 : ∀ a b c d, tm (F a b c d) p2 = x2)
    (hS : ∀ w, Below w0.heap.size w0 w → S w)
    (h1 : ∀ W, Below w0.heap.size w0 W → Calls Tryz.prog f #[x1] W (GivesP (fun b => W.heap.size ≤ b) W t1))
    (h2 : ∀ W, Below w0.heap.size w0 W → Calls Tryz.prog f #[x2] W (GivesP (fun b => W.heap.size ≤ b) W t2))
    (hQ : ∀ x y A C w, x.tree = t1 → y.tree = t2 → TwoAt w0 x y A C w → Q .normal (F (.pointer (some ⟨A, 0, none⟩)) (.pointer (some ⟨C, 0, none⟩)) x.val y.val) w)
    {w : World} (hw : Below w0.heap.size w0 w) : wpAnyH Tryz.prog .any ops Q S 6 (LB3 false false false false false false) (F u5 u6 v1 v2) w := by
  refine wpAnyH_inv (Inv3 w0 t1 t2 F u5 u6 v1 v2) ?_ ?_ 6 _ _ w (by unfold LB3; simp [remL]) ⟨none, none, none, none, false, false, rfl, rfl, ⟨⟨fun e => (by cases e), fun _ e => (by cases e), fun _ e => (by cases e)⟩, ⟨fun e => (by cases e), fun _ e => (by cases e), fun _ e => (by cases e)⟩⟩, fun _ _ e => (by cases e), hw⟩
  · rintro l a w ⟨c1, c2, b1, b2, d1, d2, rfl, rfl, ⟨V1, V2⟩, hne, hb⟩ he
    have h1 := hN c1.isSome c2.isSome b1.isSome b2.isSome d1 d2 (by rw [he]; rfl) (fun e => ⟨by have := (V1.st e).1; cases c1; exact absurd rfl this; rfl, by have := (V1.st e).2; cases b1; exact absurd rfl this; rfl⟩) (fun e => ⟨by have := (V2.st e).1; cases c2; exact absurd rfl this; rfl, by have := (V2.st e).2; cases b2; exact absurd rfl this; rfl⟩)
    simp only [Bool.and_eq_true] at h1
    obtain ⟨⟨⟨⟨⟨g1, g2⟩, g3⟩, g4⟩, rfl⟩, rfl⟩ := h1
    obtain ⟨x, rfl⟩ := Option.isSome_iff_exists.1 g1
    obtain ⟨y, rfl⟩ := Option.isSome_iff_exists.1 g2
    obtain ⟨A, rfl⟩ := Option.isSome_iff_exists.1 g3
    obtain ⟨C, rfl⟩ := Option.isSome_iff_exists.1 g4
    exact hQ x y A C w (V1.tr x rfl).1 (V2.tr y rfl).1 ⟨hb, (V1.bx A rfl).2, (V2.bx C rfl).2, (V1.tr x rfl).2.all, (V2.tr y rfl).2.all⟩
  · rintro l a w ⟨c1, c2, b1, b2, d1, d2, rfl, rfl, ⟨V1, V2⟩, hne, hb⟩ i hi
    have h0 := List.all_eq_true.1 (hR c1.isSome c2.isSome b1.isSome b2.isSome d1 d2) i hi
    unfold rdy3 at h0
    simp only [Bool.or_eq_true, Bool.and_eq_true, decide_eq_true_eq, Bool.not_eq_true'] at h0
    rcases h0 with ((((⟨rfl, e⟩ | ⟨rfl, e⟩) | ⟨rfl, e⟩) | ⟨rfl, e⟩) | ⟨⟨⟨rfl, es⟩, ec⟩, eb⟩) | ⟨⟨⟨rfl, es⟩, ec⟩, eb⟩
    · obtain ⟨o, ho, ⟨ty, hop⟩, hod, hog⟩ := o5
      obtain rfl : c1 = none := by cases c1; rfl; cases e
      unfold wpOp
      simp only [ho]
      rw [if_pos (by unfold Region.wanted; rw [hog])]
      refine .inl (call_wpN eC hop (ep1 _ _ _ _) ((h1 w hb).mono ?_))
      rintro e w' ⟨x, rfl, hx, hr, hbw⟩
      refine ⟨x.val, rfl, ?_⟩
      rw [hod, fq1]
      have hb' := hb.trans (hbw.mono hb.size)
      refine ⟨hS _ hb', ?_⟩
      exact ⟨some x, c2, b1, b2, d1, d2, rfl, rfl, ⟨V1.made hbw hx hr (fun g e => (isT_of (V2.bx g e).2).lt), V2.bel hbw⟩, hne, hb'⟩
    · obtain ⟨o, ho, ⟨ty, hop⟩, hod, hog⟩ := o11
      obtain rfl : c2 = none := by cases c2; rfl; cases e
      unfold wpOp
      simp only [ho]
      rw [if_pos (by unfold Region.wanted; rw [hog])]
      refine .inl (call_wpN eC hop (ep2 _ _ _ _) ((h2 w hb).mono ?_))
      rintro e w' ⟨x, rfl, hx, hr, hbw⟩
      refine ⟨x.val, rfl, ?_⟩
      rw [hod, fq2]
      have hb' := hb.trans (hbw.mono hb.size)
      refine ⟨hS _ hb', ?_⟩
      exact ⟨c1, some x, b1, b2, d1, d2, rfl, rfl, ⟨V1.bel hbw, V2.made hbw hx hr (fun g e => (isT_of (V1.bx g e).2).lt)⟩, hne, hb'⟩
    · obtain ⟨o, ho, hop, hod, hog⟩ := o12
      obtain rfl : b1 = none := by cases b1; rfl; cases e
      unfold wpOp
      simp only [ho]
      rw [if_pos (by unfold Region.wanted; rw [hog])]
      refine .inl (alloc_wpN hop ?_)
      rw [hod, f5]
      refine ⟨hS _ (hb.alloc hb.size _), ?_⟩
      exact ⟨c1, c2, some w.heap.size, b2, d1, d2, rfl, rfl, ⟨V1.box hb.size, V2.box' _⟩, fun g k e1 e2 => by cases e1; have := (isT_of (V2.bx k e2).2).lt; omega, hb.alloc hb.size _⟩
    · obtain ⟨o, ho, hop, hod, hog⟩ := o13
      obtain rfl : b2 = none := by cases b2; rfl; cases e
      unfold wpOp
      simp only [ho]
      rw [if_pos (by unfold Region.wanted; rw [hog])]
      refine .inl (alloc_wpN hop ?_)
      rw [hod, f6]
      refine ⟨hS _ (hb.alloc hb.size _), ?_⟩
      exact ⟨c1, c2, b1, some w.heap.size, d1, d2, rfl, rfl, ⟨V1.box' _, V2.box hb.size⟩, fun g k e1 e2 => by cases e2; have := (isT_of (V1.bx g e1).2).lt; omega, hb.alloc hb.size _⟩
    · obtain ⟨o, ho, hop, hod, hog⟩ := o14
      obtain ⟨x, rfl⟩ := Option.isSome_iff_exists.1 ec
      obtain ⟨g, rfl⟩ := Option.isSome_iff_exists.1 eb
      subst es
      unfold wpOp
      simp only [ho]
      rw [if_pos (by unfold Region.wanted; rw [hog])]
      refine .inl (store_wpN hop hod (e5 _ _ _ _) (eq1 _ _ _ _) (V1.bx g rfl).2 ?_)
      have hb' := setN_below (y := x) hb (V1.bx g rfl).1
      refine ⟨hS _ hb', ?_⟩
      exact ⟨some x, c2, some g, b2, true, d2, rfl, rfl, ⟨V1.put, V2.put' (fun k e => (hne g k rfl e).symm)⟩, hne, hb'⟩
    · obtain ⟨o, ho, hop, hod, hog⟩ := o15
      obtain ⟨x, rfl⟩ := Option.isSome_iff_exists.1 ec
      obtain ⟨g, rfl⟩ := Option.isSome_iff_exists.1 eb
      subst es
      unfold wpOp
      simp only [ho]
      rw [if_pos (by unfold Region.wanted; rw [hog])]
      refine .inl (store_wpN hop hod (e6 _ _ _ _) (eq2 _ _ _ _) (V2.bx g rfl).2 ?_)
      have hb' := setN_below (y := x) hb (V2.bx g rfl).1
      refine ⟨hS _ hb', ?_⟩
      exact ⟨c1, some x, b1, some g, d1, true, rfl, rfl, ⟨V1.put' (fun k e => hne k g e rfl), V2.put⟩, hne, hb'⟩
def putT (q1 q2 : Nat) (A : Act) (a b c d : Value) : Act := (((A.put (some 5) a).put (some 6) b).put (some q1) c).put (some q2) d
section
variable {q1 q2 : Nat} {A : Act}
theorem putT_5 (h1 : 6 < q1) (h2 : q1 < q2) : ∀ a b c d v, (putT q1 q2 A a b c d).put (some 5) v = putT q1 q2 A v b c d := fun a b c d v => by
  have a1 : q2 ≠ 5 := by omega
  have a2 : q1 ≠ 5 := by omega
  unfold putT
  rw [put_swap (t := q2) (q := 5) a1, put_swap (t := q1) (q := 5) a2, put_swap (t := 6) (q := 5) (by decide), put_same]
theorem putT_6 (h1 : 6 < q1) (h2 : q1 < q2) : ∀ a b c d v, (putT q1 q2 A a b c d).put (some 6) v = putT q1 q2 A a v c d := fun a b c d v => by
  have a1 : q2 ≠ 6 := by omega
  have a2 : q1 ≠ 6 := by omega
  unfold putT
  rw [put_swap (t := q2) (q := 6) a1, put_swap (t := q1) (q := 6) a2, put_same]
theorem putT_q1 (h2 : q1 < q2) : ∀ a b c d v, (putT q1 q2 A a b c d).put (some q1) v = putT q1 q2 A a b v d := fun a b c d v => by
  have a1 : q2 ≠ q1 := by omega
  unfold putT
  rw [put_swap (t := q2) (q := q1) a1, put_same]
theorem putT_q2 : ∀ a b c d v, (putT q1 q2 A a b c d).put (some q2) v = putT q1 q2 A a b c v := fun a b c d v => by
  unfold putT
  rw [put_same]
theorem tmT_5 (h1 : 6 < q1) (h2 : q1 < q2) (hs : q2 < A.tmps.size) : ∀ a b c d, tm (putT q1 q2 A a b c d) 5 = a := fun a b c d => by
  have a1 : q2 ≠ 5 := by omega
  have a2 : q1 ≠ 5 := by omega
  have a3 : 5 < A.tmps.size := by omega
  unfold putT
  rw [tm_ne (t := q2) (p := 5) a1, tm_ne (t := q1) (p := 5) a2, tm_ne (t := 6) (p := 5) (by decide), tm_same a3]
theorem tmT_6 (h1 : 6 < q1) (h2 : q1 < q2) (hs : q2 < A.tmps.size) : ∀ a b c d, tm (putT q1 q2 A a b c d) 6 = b := fun a b c d => by
  have a1 : q2 ≠ 6 := by omega
  have a2 : q1 ≠ 6 := by omega
  have a3 : 6 < (A.put (some 5) a).tmps.size := by rw [size_put]; omega
  unfold putT
  rw [tm_ne (t := q2) (p := 6) a1, tm_ne (t := q1) (p := 6) a2, tm_same a3]
theorem tmT_q1 (h2 : q1 < q2) (hs : q2 < A.tmps.size) : ∀ a b c d, tm (putT q1 q2 A a b c d) q1 = c := fun a b c d => by
  have a1 : q2 ≠ q1 := by omega
  have a3 : q1 < ((A.put (some 5) a).put (some 6) b).tmps.size := by rw [size_put, size_put]; omega
  unfold putT
  rw [tm_ne (t := q2) (p := q1) a1, tm_same a3]
theorem tmT_q2 (hs : q2 < A.tmps.size) : ∀ a b c d, tm (putT q1 q2 A a b c d) q2 = d := fun a b c d => by
  have a3 : q2 < (((A.put (some 5) a).put (some 6) b).put (some q1) c).tmps.size := by rw [size_put, size_put, size_put]; exact hs
  unfold putT
  rw [tm_same a3]
theorem tmT_no {p : Nat} (h5 : 5 ≠ p) (h6 : 6 ≠ p) (h1 : q1 ≠ p) (h2 : q2 ≠ p) : ∀ a b c d, tm (putT q1 q2 A a b c d) p = tm A p := fun a b c d => by
  unfold putT
  rw [tm_ne h2, tm_ne h1, tm_ne h6, tm_ne h5]
end
end Go.Proofs.YtimahlimmblgkaaGreatDoor.Sy
