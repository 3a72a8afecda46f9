/- Texts of the claim, put together: OwR, BaA. -/
import Derived.RangeFuncBox
import Derived.Laws.AppendOwn
import Derived.StillTail
import Derived.StillTailTactics
import Derived.Deep.Quiet
import Derived.BigQuiet
import Derived.OrdersIn
import Derived.TacticsIn
import Derived.RangeFuncCalls
import Derived.WalkKit
import Derived.Test.YtimahlimmblgkaaGreatDoorProg
import Derived.Test.YtimahlimmblgkaaGreatDoorPPlA
import Derived.WalkSpells
import Derived.WalkLawsBesides
import Derived.Lib.Hide
import Derived.Deep.QuietTactic
namespace Go.Proofs.YtimahlimmblgkaaGreatDoor
open Go Go.RowKit
theorem ownsRow_base {W : World} {base base' : Nat} {e : TypeId} {size : Nat} {v : Value} {k : Nat} {xs : List Value} (h : W.ownsRow base e size v k xs) (hb : base' ≤ base) : W.ownsRow base' e size v k xs := by
  refine ⟨h.1, ?_⟩
  rcases h.2 with hn | ⟨g, cap, cur, hv, hbg, rest⟩
  · exact .inl hn
  · exact .inr ⟨g, cap, cur, hv, Nat.le_trans hb hbg, rest⟩
theorem ownsRow_block {W : World} {base : Nat} {e : TypeId} {size : Nat} {g : Nat} {k cap : Nat} {xs : List Value} (h : W.ownsRow base e size (.slice (some ⟨g, 0, none⟩) k cap) k xs) :
    base ≤ g ∧ g < W.heap.size ∧ ∃ cur, W.heap[g]? = some (.cells cur e (0, 0)) ∧ k ≤ cap ∧ cap ≤ maxLen ∧ cur.size = cap * size ∧ cur.toList.take (k * size) = xs := by
  rcases h.2 with ⟨hn, _⟩ | ⟨g', cap', cur, hv, hbg, hh, h1, h2, h3, h4⟩
  · cases hn
  · cases hv
    exact ⟨hbg, (Array.getElem?_eq_some_iff.1 hh).1, cur, hh, h1, h2, h3, h4⟩
/-- The cell at place j of an owned row. -/
theorem ownsRow_cell {W : World} {base : Nat} {e : TypeId} {size : Nat} {g : Nat} {k cap : Nat} {xs : List Value} (h : W.ownsRow base e size (.slice (some ⟨g, 0, none⟩) k cap) k xs) {j : Nat} {u : Value} (hu : xs[j]? = some u) :
    W.cell? ⟨g, j, none⟩ = some u ∧ W.frozen? ⟨g, j, none⟩ = false := by
  obtain ⟨_, _, cur, hh, h1, h2, h3, h4⟩ := ownsRow_block h
  rw [← h4, List.getElem?_take] at hu
  split at hu
  · refine ⟨?_, by simp [World.frozen?, hh]⟩
    simp only [World.cell?, hh]
    simpa using hu
  · cases hu
/-- A store into a cell of the row. -/
theorem ownsRow_set {W : World} {base : Nat} {e : TypeId} {size : Nat} {g : Nat} {k cap : Nat} {xs : List Value} (h : W.ownsRow base e size (.slice (some ⟨g, 0, none⟩) k cap) k xs) {j : Nat} (hj : j < xs.length) (u : Value) :
    (W.setCell ⟨g, j, none⟩ u).ownsRow base e size (.slice (some ⟨g, 0, none⟩) k cap) k (xs.set j u) := by
  obtain ⟨hb, hlt, cur, hh, h1, h2, h3, h4⟩ := ownsRow_block h
  have hsz : j < cur.size := by
    rw [← h4, List.length_take] at hj
    have : j < cur.toList.length := by omega
    simpa using this
  have hset : (W.setCell ⟨g, j, none⟩ u).heap[g]? = some (.cells (cur.setIfInBounds j u) e (0, 0)) := by
    show (W.heap.modify g _)[g]? = _
    have hk := (Array.getElem?_eq_some_iff.1 hh).2
    rw [Array.getElem?_eq_getElem (by rw [Array.size_modify]; exact hlt), Array.getElem_modify_self, hk]
    simp
  refine ⟨by rw [List.length_set]; exact h.1, .inr ⟨g, cap, _, rfl, hb, hset, h1, h2, by simpa using h3, ?_⟩⟩
  rw [Array.toList_setIfInBounds, List.take_set, h4]
/-- What owns more cells than block B holds is another block. -/
theorem ownsRow_not_small {W : World} {base : Nat} {e : TypeId} {size : Nat} {v : Value} {k : Nat} {xs : List Value} (h : W.ownsRow base e size v k xs) {B : Nat} {bp : Array Value} {t : TypeId} {fz : Nat × Nat} (hB : W.heap[B]? = some (.cells bp t fz)) (hz : bp.size < k * size) : v.ownBlock ≠ some B := by
  rcases h.2 with ⟨rfl, _⟩ | ⟨g, cap, cur, rfl, _, hgb, h1, _, h3, _⟩
  · simp [Value.ownBlock]
  · intro e'
    obtain rfl : g = B := by simpa [Value.ownBlock] using e'
    rw [hgb] at hB; cases hB
    have : k * size ≤ cap * size := Nat.mul_le_mul_right _ h1
    omega
theorem ownsRow_new {W : World} {base : Nat} {e : TypeId} {size : Nat} {v : Value} {k : Nat} {xs : List Value} (h : W.ownsRow base e size v k xs) {B : Nat} (hB : B < base) : v.ownBlock ≠ some B := by
  rcases h.2 with ⟨rfl, _⟩ | ⟨g, cap, cur, rfl, hb, _⟩
  · simp [Value.ownBlock]
  · simp [Value.ownBlock]; omega
theorem cells_new (W : World) (xs : Array Value) (t : TypeId) (a : Addr) (ha : a = ⟨W.heap.size, 0, none⟩) : ∀ j u, xs.toList[j]? = some u → (W.alloc (.cells xs t)).cell? (a.add j) = some u := by
  intro j u hj
  subst ha
  rw [Addr.add_lit]
  simp only [World.cell?, World.alloc_heap_new, Nat.zero_add]
  simpa using hj
theorem cells_new_drew (W : World) (xs : Array Value) (t : TypeId) (a : Addr) (ha : a = ⟨W.heap.size, 0, none⟩) : ∀ j u, xs.toList[j]? = some u → (W.alloc (.cells xs t)).drew.cell? (a.add j) = some u := cells_new W xs t a ha
end Go.Proofs.YtimahlimmblgkaaGreatDoor
namespace Go.Proofs.YtimahlimmblgkaaGreatDoor
open Go
def noDeferB (l : List Oper) : Bool := l.all fun o => match o.op with | .defer _ => false | _ => true
theorem noDefer_spec {l : List Oper} (h : noDeferB l = true) {i : Nat} {o : Oper} (hi : l.toArray[i]? = some o) : ∀ c, o.op ≠ .defer c := by
  intro c hc
  have hm : o ∈ l := List.mem_of_getElem? (by simpa using hi)
  have := List.all_eq_true.1 h o hm
  rw [hc] at this
  cases this
section
variable {P : Program} {l : List Oper} {lr m : Nat} {w : World}
theorem wpIn_of_still {o : Oper} {a : Act} {K : Act → Prop} {K' : Act → World → Prop} {Q' : Exit → Act → World → Prop} (hnd : ∀ c, o.op ≠ .defer c) (h : ∀ a, K a → K' a w) (hh : o.still P a w K) :
    o.wpIn (Fence.wide.inRound lr) m P a w K' Q' := by
  unfold Oper.still at hh
  unfold Oper.wpIn
  refine ⟨fun _ _ => trivial, ?_⟩
  rw [Oper.semAt_eq _ _ _ hnd]
  generalize (execOp a.eval o).run P w = r at *
  cases r with
  | ok x w' =>
    cases x <;> simp only [Oper.stillUpon] at hh <;> simp only [Oper.uponIn]
    case value u => obtain ⟨e1, e2⟩ := hh; rw [e1]; exact h _ e2
    case skip => obtain ⟨e1, e2⟩ := hh; rw [e1]; exact h _ e2
    case enter f args =>
      obtain ⟨e1, v, hc, hk⟩ := hh
      rw [e1]
      exact ⟨(fun hd => by cases hd), (CallsIn.inRound lr (callsIn_wide.2 hc)).mono fun e w'' ⟨he, hw''⟩ => by subst he; subst hw''; exact h _ hk⟩
  | halt x w' => simp only [Oper.stillUpon] at hh
theorem wpOpIn_of_stOp {i : Nat} {a : Act} {K : Act → Prop} {K' : Act → World → Prop} {Q' : Exit → Act → World → Prop} (hnd : noDeferB l = true) (h : ∀ a, K a → K' a w) (hh : stOp P l.toArray w i K a) :
    wpOpIn (Fence.wide.inRound lr) m P l.toArray Q' i K' a w := by
  unfold stOp at hh
  unfold wpOpIn
  split
  · rename_i ho; simp only [ho] at hh; exact h _ hh
  · rename_i o ho
    simp only [ho] at hh
    split
    · rename_i hw; simp only [hw, if_true] at hh; exact wpIn_of_still (noDefer_spec hnd ho) h hh
    · rename_i hw; simp only [hw] at hh; exact ⟨fun _ _ => trivial, h _ hh⟩
theorem wpAnyIn_of_head {md : Region.Mode} {n g : Nat} {L : Array Bool → Act → Prop} {Q' : Exit → Act → World → Prop} (hnd : noDeferB l = true) (hL : ∀ listed a, L listed a → wpAnyIn (Fence.wide.inRound lr) m P md l.toArray Q' g listed a w) :
    ∀ (f : Nat) (listed : Array Bool) (a : Act), wpAnyL P md l.toArray w n L f listed a → wpAnyIn (Fence.wide.inRound lr) m P md l.toArray Q' (f + g) listed a w
  | 0, listed, a, h => by rw [Nat.zero_add]; exact hL _ _ h
  | f + 1, listed, a, h => by
    rw [show f + 1 + g = (f + g) + 1 by omega]
    exact ⟨fun h0 => absurd h0 h.1, fun i hi => wpOpIn_of_stOp hnd (fun a' h' => wpAnyIn_of_head hnd hL f _ a' h') (h.2 i hi).2⟩
theorem wpAnyIn_of_seq {md : Region.Mode} {Q' : Exit → Act → World → Prop} : ∀ (l' : List Oper) (k : Nat) (listed : Array Bool) (a : Act) (w : World), (∀ j : Nat, l'[j]? = l.toArray[k + j]?) →
    Region.seqB md l.toArray l'.length k listed = true → wpListIn (Fence.wide.inRound lr) m P l.toArray Q' l' a w → wpAnyIn (Fence.wide.inRound lr) m P md l.toArray Q' l'.length listed a w
  | [], _, _, _, _, _, hB, h => ⟨by simpa [Region.seqB] using hB, h⟩
  | o :: l', k, listed, a, w, hl, hB, h => by
    have h0 : l.toArray[k]? = some o := by simpa using (hl 0).symm
    simp only [List.length_cons, Region.seqB, Bool.and_eq_true, decide_eq_true_eq] at hB
    refine ⟨fun h1 => (by rw [hB.1] at h1; cases h1), fun i hi => ?_⟩
    rw [hB.1] at hi
    have hik : i = k := by simpa using hi
    subst hik
    have hw : wpOpIn (Fence.wide.inRound lr) m P l.toArray Q' i (wpListIn (Fence.wide.inRound lr) m P l.toArray Q' l') a w := by unfold wpOpIn; simp only [h0]; exact h
    exact wpOpIn_mono (fun a' w' h' => wpAnyIn_of_seq l' (i + 1) _ a' w' (fun j => by have := hl (j + 1); simpa [Nat.add_assoc, Nat.add_comm 1 j] using this) hB.2 h') hw
theorem wpIn_region_still_tailR {id : Nat} {Q : Exit → Act → World → Prop} {a : Act} (n : Nat) (hm : P.follows .mixedOrders = true) (hnd : noDeferB l = true) (hB : Region.lexTailB .any l.toArray n = true)
    (h : wpStill P l.toArray w.drew (fun a' => wpListIn (Fence.wide.inRound lr) m P l.toArray Q (l.drop n) a' w.drew) (l.take n) a) : (Code.region id l.toArray true).wpIn (Fence.wide.inRound lr) m P Q a w := by
  simp only [Region.lexTailB, Bool.and_eq_true, decide_eq_true_eq] at hB
  obtain ⟨⟨⟨⟨hsel, hn⟩, hs⟩, hc⟩, hlex⟩ := hB
  have hn' : n < l.length := by simpa using hn
  have htl : (l.take n).length = n := by simp; omega
  have hdl : (l.drop n).length = l.toArray.size - n := by simp
  have inv0 : HeadInv .any l.toArray n (Array.replicate l.toArray.size false) :=
    ⟨by simp, fun j oj _ hl => (by rw [getD_replicate_false] at hl; cases hl), fun t _ ht => getD_in (by simpa using ht) (getD_replicate_false _ _)⟩
  have H := wpAnyL_lex (md := .any) (g := l.toArray.size - n) hsel hs hc hn (l.take n) 0 _ a (fun j hj => by
    have hj' : j < n := by rw [htl] at hj; exact hj
    simp [hj']) (by simpa using htl) inv0 (by rw [htl]; exact hlex) h
  refine wpIn_region_any hm ?_
  have := wpAnyIn_of_head (lr := lr) (m := m) (Q' := Q) (g := l.toArray.size - n) hnd (fun listed a' hL => by
    have := wpAnyIn_of_seq (lr := lr) (m := m) (md := .any) (Q' := Q) (l.drop n) n listed a' w.drew (fun j => by simp [List.getElem?_drop]) (by rw [hdl]; exact hL.1) hL.2
    rwa [hdl] at this) _ _ _ H
  rw [htl, show n + (l.toArray.size - n) = l.toArray.size by omega] at this
  exact this
theorem still_of_quiet {o : Oper} {a : Act} {K : Act → Prop} (hh : o.quiet P a (fun w' => w' = w) K) : o.still P a w K := by
  obtain ⟨v, h1, h2⟩ := hh
  have h3 := h1 w rfl
  unfold Oper.quietAt at h3
  unfold Oper.still
  generalize (execOp a.eval o).run P w = r at *
  cases r with
  | ok x w' =>
    cases x <;> simp only [Oper.quietUpon] at h3 <;> simp only [Oper.stillUpon]
    case value u => obtain ⟨e1, e2⟩ := h3; subst e2; exact ⟨e1, h2⟩
    case skip => obtain ⟨e1, e2⟩ := h3; subst e2; exact ⟨e1, h2⟩
    case enter f args => obtain ⟨e1, hc⟩ := h3; exact ⟨e1, v, hc, h2⟩
  | halt x w' => simp only [Oper.quietUpon] at h3
theorem wpStill_of_quiet {ops : Array Oper} {Q : Act → Prop} : ∀ (l : List Oper) (a : Act), wpQuiet P ops (fun w' => w' = w) Q l a → wpStill P ops w Q l a
  | [], _, h => h
  | o :: l, a, h => by
    unfold wpQuiet at h
    unfold wpStill
    split
    · rename_i hw
      rw [if_pos hw] at h
      obtain ⟨v, h1, h2⟩ := h
      exact Oper.still_mono (fun a' h' => wpStill_of_quiet l a' h') (still_of_quiet ⟨v, h1, h2⟩)
    · rename_i hw
      rw [if_neg hw] at h
      exact wpStill_of_quiet l _ h
theorem wpIn_region_quiet_tailR {id : Nat} {Q : Exit → Act → World → Prop} {a : Act} (n : Nat) (hm : P.follows .mixedOrders = true) (hnd : noDeferB l = true) (hB : Region.lexTailB .any l.toArray n = true)
    (h : wpQuiet P l.toArray (fun w' => w' = w.drew) (fun a' => wpListIn (Fence.wide.inRound lr) m P l.toArray Q (l.drop n) a' w.drew) (l.take n) a) : (Code.region id l.toArray true).wpIn (Fence.wide.inRound lr) m P Q a w :=
  wpIn_region_still_tailR n hm hnd hB (wpStill_of_quiet _ _ h)
end
end Go.Proofs.YtimahlimmblgkaaGreatDoor
namespace Go.Proofs.YtimahlimmblgkaaGreatDoor
open Go.RowKit
theorem ret_bool {a b : Bool} (h : a = b) : Ending.returned (.bool a) = .returned (.bool b) := by rw [h]
theorem below_drewN {B : Nat} {a w : World} (h : Below B a w) (n : Nat) : Below B a (w.drewN n) := h.trans ⟨rfl, rfl, rfl, Nat.le_refl _, fun _ _ => rfl⟩
/-- The slice at a reads, in w, as the ranges l. -/
def RdR (w : World) (a : Option Addr) (l : Rs.S) : Prop :=
  l ≠ [] → ∃ b off, a = some ⟨b, off, none⟩ ∧ b < w.heap.size ∧ ∀ (i : Nat) (r : Rs.R), l[i]? = some r → w.cell? ⟨b, off + i * 2, none⟩ = some (.int .i64 r.1) ∧ w.cell? ⟨b, off + i * 2 + 1, none⟩ = some (.int .i64 r.2)
theorem RdR.below {w w1 : World} {a : Option Addr} {l : Rs.S} {B : Nat} (h : RdR w a l) (hb : Below B w w1) (hB : ∀ b off, a = some ⟨b, off, none⟩ → b < B) : RdR w1 a l := by
  intro hl
  obtain ⟨b, off, rfl, h1, h2⟩ := h hl
  refine ⟨b, off, rfl, by have := hb.size; omega, fun i r hr => ?_⟩
  have hbb := hB b off rfl
  rw [hb.cell (p := ⟨b, off + i * 2, none⟩) hbb, hb.cell (p := ⟨b, off + i * 2 + 1, none⟩) hbb]
  exact h2 i r hr
theorem RdR.nil (w : World) (a : Option Addr) : RdR w a [] := fun h => absurd rfl h
end Go.Proofs.YtimahlimmblgkaaGreatDoor
