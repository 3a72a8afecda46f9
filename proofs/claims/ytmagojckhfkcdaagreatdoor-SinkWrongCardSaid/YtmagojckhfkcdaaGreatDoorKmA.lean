/- Chapter 38's memory: labels as they lie in memory; what is as it was but for some blocks. -/
import Derived.Test.YtmagojckhfkcdaaGreatDoorKuA
import Derived.Laws.AppendOwn
import Derived.Deep.Draws
import Derived.Maps.AppendAt
import Derived.Test.YtmagojckhfkcdaaGreatDoorOwR
namespace Go.Proofs.YtmagojckhfkcdaaGreatDoor.Sk
open Go Go.RowKit
/-- a block of cells of a type -/
def isT (w : World) (b : Nat) (t : TypeId) : Prop := ∃ cur fz, w.heap[b]? = some (.cells cur t fz)
theorem isT.lt {w : World} {b : Nat} {t : TypeId} (h : isT w b t) : b < w.heap.size := by
  obtain ⟨cur, fz, h⟩ := h
  exact (Array.getElem?_eq_some_iff.1 h).1
theorem isT.ne {w : World} {b c : Nat} {t u : TypeId} (h : isT w b t) (k : isT w c u) (hne : t ≠ u) : b ≠ c := by
  rintro rfl
  obtain ⟨cur, fz, h⟩ := h
  obtain ⟨cur', fz', k⟩ := k
  rw [h] at k
  injection k with k
  injection k with _ ht
  exact hne ht
/-- all blocks but those of X are as they were -/
structure Fr (X : Nat → Prop) (w w' : World) : Prop where
  os : w'.os = w.os
  tape : w'.tape = w.tape
  output : w'.output = w.output
  size : w.heap.size ≤ w'.heap.size
  block : ∀ k, k < w.heap.size → ¬ X k → w'.heap[k]? = w.heap[k]?
section
variable {X Y : Nat → Prop} {w w' w'' : World}
theorem Fr.refl (X : Nat → Prop) (w : World) : Fr X w w := ⟨rfl, rfl, rfl, Nat.le_refl _, fun _ _ _ => rfl⟩
theorem Fr.trans (h : Fr X w w') (k : Fr X w' w'') : Fr X w w'' :=
  ⟨k.os.trans h.os, k.tape.trans h.tape, k.output.trans h.output, Nat.le_trans h.size k.size, fun i hi hx => (k.block i (Nat.lt_of_lt_of_le hi h.size) hx).trans (h.block i hi hx)⟩
theorem Fr.mono (h : Fr X w w') (hXY : ∀ k, k < w.heap.size → X k → Y k) : Fr Y w w' := ⟨h.os, h.tape, h.output, h.size, fun i hi hy => h.block i hi (fun hx => hy (hXY i hi hx))⟩
theorem Fr.of_below {B : Nat} (h : Below B w w') : Fr (fun k => B ≤ k) w w' := ⟨h.os, h.tape, h.output, h.size, fun i _ hx => h.block i (Nat.lt_of_not_le hx)⟩
theorem Fr.below {B : Nat} (h : Fr X w w') (hX : ∀ k, k < B → ¬ X k) (hB : B ≤ w.heap.size) : Below B w w' := ⟨h.os, h.tape, h.output, h.size, fun i hi => h.block i (Nat.lt_of_lt_of_le hi hB) (hX i hi)⟩
theorem Fr.cell (h : Fr X w w') {b o : Nat} (hb : b < w.heap.size) (hx : ¬ X b) : w'.cell? ⟨b, o, none⟩ = w.cell? ⟨b, o, none⟩ := by
  simp only [World.cell?, h.block b hb hx]
theorem Fr.isT {b : Nat} {t : TypeId} (h : Fr X w w') (k : isT w b t) (hx : ¬ X b) : isT w' b t := by
  have := k.lt
  obtain ⟨cur, fz, k⟩ := k
  exact ⟨cur, fz, (h.block b this hx).trans k⟩
end
/-- the slice at a reads as the labels l -/
def RdL (w : World) (a : Option Addr) (l : List Lab) : Prop :=
  l ≠ [] → ∃ b off, a = some ⟨b, off, none⟩ ∧ b < w.heap.size ∧ ∀ (i : Nat) (x : Lab), l[i]? = some x → w.cell? ⟨b, off + i * 2, none⟩ = some (.string x.1) ∧ w.cell? ⟨b, off + i * 2 + 1, none⟩ = some (.string x.2)
theorem RdL.fr {X : Nat → Prop} {w w' : World} {a : Option Addr} {l : List Lab} (h : RdL w a l) (hf : Fr X w w') (hx : l ≠ [] → ∀ q, a = some q → ¬ X q.block) : RdL w' a l := by
  intro hl
  obtain ⟨b, off, e, ht, hc⟩ := h hl
  have hb : ¬ X b := hx hl _ e
  refine ⟨b, off, e, Nat.lt_of_lt_of_le ht hf.size, fun i x hi => ?_⟩
  rw [hf.cell ht hb, hf.cell ht hb]
  exact hc i x hi
theorem RdL.below {B : Nat} {w w' : World} {a : Option Addr} {l : List Lab} (h : RdL w a l) (hb : Below B w w') (hB : w.heap.size ≤ B) : RdL w' a l := by
  refine h.fr (Fr.of_below hb) (fun hl q e hx => ?_)
  obtain ⟨b, off, e', ht, _⟩ := h hl
  obtain rfl := Option.some.inj (e.symm.trans e')
  have hx : B ≤ b := hx
  omega
theorem RdL.nil (w : World) (a : Option Addr) : RdL w a [] := fun h => absurd rfl h
def labB (x : Lab) : List Value := [.string x.1, .string x.2]
def lFlat (l : List Lab) : List Value := l.flatMap labB
theorem lFlat_append (l m : List Lab) : lFlat (l ++ m) = lFlat l ++ lFlat m := by simp [lFlat]
theorem lFlat_length : ∀ l : List Lab, (lFlat l).length = l.length * 2
  | [] => rfl
  | x :: l => by
    have := lFlat_length l
    unfold lFlat at *
    simp only [List.flatMap_cons, List.length_append, this, labB, List.length_cons, List.length_nil]
    omega
theorem lFlat_at : ∀ {l : List Lab} {i : Nat} {x : Lab}, l[i]? = some x → (lFlat l)[i * 2]? = some (.string x.1) ∧ (lFlat l)[i * 2 + 1]? = some (.string x.2)
  | [], _, _, h => by simp at h
  | y :: l, 0, _, h => by cases h; exact ⟨rfl, rfl⟩
  | y :: l, i + 1, x, h => by
    have ih := lFlat_at (l := l) (i := i) (x := x) (by simpa using h)
    rw [show (i + 1) * 2 = i * 2 + 1 + 1 by omega]
    exact ih
/-- what owns a row of labels reads as them -/
theorem RdL.of_own {w : World} {base n cap k : Nat} {a : Option Addr} {l : List Lab} (h : w.ownsRow base 66 2 (.slice a n cap) k (lFlat l)) : RdL w a l := by
  intro hl
  rcases h.2 with ⟨hn, hx⟩ | ⟨g, cap', cur, hv, hb, hg, h1, h2, h3, h4⟩
  · have h1 := h.1
    rw [lFlat_length] at h1
    exact absurd (List.eq_nil_of_length_eq_zero (by omega)) hl
  · cases hv
    refine ⟨g, 0, rfl, (Array.getElem?_eq_some_iff.1 hg).1, fun i x hi => ?_⟩
    have hcell : ∀ j u, (lFlat l)[j]? = some u → w.cell? ⟨g, j, none⟩ = some u := fun j u hu => by
      rw [← h4, List.getElem?_take] at hu
      split at hu
      · simp only [World.cell?, hg]
        simpa using hu
      · cases hu
    obtain ⟨e0, e1⟩ := lFlat_at hi
    rw [Nat.zero_add]
    exact ⟨hcell _ _ e0, hcell _ _ e1⟩
theorem new_cell (w : World) (xs : Array Value) (t : TypeId) (j : Nat) (v : Value) (h : xs[j]? = some v) : (w.alloc (.cells xs t)).cell? ⟨w.heap.size, j, none⟩ = some v := by
  simp only [World.cell?, heap_alloc_new]
  exact h
theorem Bthen {a b c : World} (h : Below a.heap.size a b) (k : Below b.heap.size b c) : Below a.heap.size a c := h.trans (k.mono h.size)
theorem Bnew {B : Nat} {w w1 : World} (h : Below B w w1) (hB : B ≤ w1.heap.size) (o : Obj) : Below B w (w1.alloc o) := h.alloc hB o
theorem below_drewN {B : Nat} {w w1 : World} (h : Below B w w1) (n : Nat) : Below B w (w1.drewN n) := by
  induction n with
  | zero => exact h
  | succ n ih => exact ih.drew
/-- append of cells onto a row of the call's own -/
theorem wpList_app {P : Program} {W : World} {ops : Array Oper} {rest : List Oper} {o : Oper} {a : Act} {Q : Exit → Act → World → Prop} (hg : o.guard = none) (s x : Operand) (ST T : TypeId) (size bytes : Nat) (z : Value)
    (hop : o.op = Op.call { callee := Callee.builtin Builtin.append, args := #[s, x], argTypes := #[ST, ST] }) (hu : P.underlying ST = some (.slice T)) (hinfo : (P.info? T).map (fun i => (i.zero, i.size, i.bytes)) = some (some z, size, bytes)) (hzs : z.cells.size = size) (hsz : 0 < size)
    (hby : bytes ≤ 100) (base : Nat) (v : Value) (k : Nat) (xs : List Value) (hs : a.eval s = v) (hown : W.ownsRow base T size v k xs) (ad : Addr) (m c : Nat) (news : List Value) (hx : a.eval x = .slice (some ad) m c) (hl : news.length = m * size)
    (hnews : ∀ j u, news[j]? = some u → W.cell? (ad.add j) = some u) (h1 : ∀ u ∈ news, u.oneCell' = true) (hk : k + m ≤ 1000000000) (hbase : base ≤ W.heap.size)
    (hK : ∀ v' w', w'.ownsRow base T size v' (k + m) (xs ++ news) → W.grownBy w' v.ownBlock → (v'.ownBlock = v.ownBlock ∨ v'.ownBlock = some W.heap.size) → (∀ w0, Below base w0 W → Below base w0 w') → wpList P ops Q rest (a.put o.dst v') w') : wpList P ops Q (o :: rest) a W := by
  obtain ⟨i0, hi0, hz0, hz1, hz2⟩ := info_parts hinfo
  have hb2 : (k + m) * bytes ≤ 1000000000 * 100 := Nat.mul_le_mul hk hby
  refine wpList_append_own_at W hg s x ST hop base T i0 z size bytes hu hi0 hz0 hz1 hz2 hzs hsz v k xs hs hown ad m c news hx hl hnews h1 (by unfold maxLen; omega) (by omega) hbase (fun v' w' h1 h2 _ h4 => hK v' w' h1 h2 h4 (fun w0 hb => hb.grown h2 hbase fun j e => ?_))
  rcases hown.2 with ⟨rfl, _⟩ | ⟨g, cap, cur, rfl, hg, _⟩
  · simp [Value.ownBlock] at e
  · obtain rfl : g = j := by simpa [Value.ownBlock] using e
    exact hg
end Go.Proofs.YtmagojckhfkcdaaGreatDoor.Sk
