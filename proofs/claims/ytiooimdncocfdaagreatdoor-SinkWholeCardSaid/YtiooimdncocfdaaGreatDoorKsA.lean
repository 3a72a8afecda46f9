/- Chapter 38's sink as it lies in memory. -/
import Derived.Test.YtiooimdncocfdaaGreatDoorKgA
import Derived.Test.YtiooimdncocfdaaGreatDoorKaA
namespace Go.Proofs.YtiooimdncocfdaaGreatDoor.Sk
open Go Go.RowKit
/-- labels behind an address: nil only if there are none -/
structure Ll (w : World) (a : Option Addr) (cap : Nat) (l : List Lab) : Prop where
  rd : RdL w a l
  nil : a = none → l = [] ∧ cap = 0
theorem Ll.below {B : Nat} {w w' : World} {a : Option Addr} {cap : Nat} {l : List Lab} (h : Ll w a cap l) (hb : Below B w w') (hB : w.heap.size ≤ B) : Ll w' a cap l := ⟨h.rd.below hb hB, h.nil⟩
theorem Ll.fr {X : Nat → Prop} {w w' : World} {a : Option Addr} {cap : Nat} {l : List Lab} (h : Ll w a cap l) (hf : Fr X w w') (hx : ∀ b, isT w b 165 → ¬ X b) : Ll w' a cap l := ⟨h.rd.fr hf hx, h.nil⟩
theorem Ll.of_own {w : World} {base n cap : Nat} {a : Option Addr} {l : List Lab} (h : w.ownsRow base 165 2 (.slice a n cap) l.length (lFlat l)) : Ll w a cap l := by
  refine ⟨RdL.of_own h, fun e => ?_⟩
  subst e
  rcases h.2 with ⟨hv, h0⟩ | ⟨g, cap', cur, hv, _⟩
  · injection hv with _ _ hc
    exact ⟨List.eq_nil_of_length_eq_zero h0, hc⟩
  · cases hv
/-- an entry with the place of its labels -/
structure SE where
  la : Option Addr
  lc : Nat
  e : Ent
def eB (x : SE) : List Value := [.slice x.la x.e.lab.length x.lc, .bool x.e.mark, .int .u64 x.e.bits, .bool x.e.st, .int .i64 x.e.time, .int .i64 x.e.stamp]
def eFlat (l : List SE) : List Value := l.flatMap eB
/-- an item with the place of its labels -/
structure SI where
  key : ByteArray
  la : Option Addr
  lc : Nat
  e : Ent
def iB (x : SI) : List Value := [.string x.key, .slice x.la x.e.lab.length x.lc, .bool x.e.mark, .int .u64 x.e.bits, .bool x.e.st, .int .i64 x.e.time, .int .i64 x.e.stamp]
def iFlat (l : List SI) : List Value := l.flatMap iB
def SI.it (x : SI) : It := ⟨x.key, x.e⟩
theorem iFlat_append (l m : List SI) : iFlat (l ++ m) = iFlat l ++ iFlat m := by simp [iFlat]
theorem flat_len {α : Type} (f : α → List Value) (n : Nat) (h : ∀ x, (f x).length = n) : ∀ l : List α, (l.flatMap f).length = l.length * n
  | [] => by simp
  | x :: l => by
    simp only [List.flatMap_cons, List.length_append, h, flat_len f n h l, List.length_cons, Nat.add_mul]
    omega
theorem flat_at {α : Type} (f : α → List Value) (n : Nat) (h : ∀ x, (f x).length = n) : ∀ {l : List α} {i j : Nat} {x : α} {v : Value}, l[i]? = some x → (f x)[j]? = some v → (l.flatMap f)[i * n + j]? = some v
  | [], i, _, _, _, hi, _ => by simp at hi
  | y :: l, 0, j, x, v, hi, hj => by
    simp at hi
    subst hi
    rw [List.flatMap_cons, Nat.zero_mul, Nat.zero_add, List.getElem?_append_left (List.getElem?_eq_some_iff.1 hj).1]
    exact hj
  | y :: l, i + 1, j, x, v, hi, hj => by
    have ih := flat_at f n h (l := l) (i := i) (j := j) (by simpa using hi) hj
    rw [List.flatMap_cons, List.getElem?_append_right (by rw [h, Nat.add_mul]; omega), h, show (i + 1) * n + j - n = i * n + j by rw [Nat.add_mul]; omega]
    exact ih
theorem iFlat_length (l : List SI) : (iFlat l).length = l.length * 7 := flat_len iB 7 (fun _ => rfl) l
theorem eFlat_length (l : List SE) : (eFlat l).length = l.length * 6 := flat_len eB 6 (fun _ => rfl) l
/-- the slice at a reads as the entries l -/
structure RdE (w : World) (a : Option Addr) (l : List SE) : Prop where
  rd : l ≠ [] → ∃ b off, a = some ⟨b, off, none⟩ ∧ isT w b 59 ∧ ∀ j u, (eFlat l)[j]? = some u → w.cell? ⟨b, off + j, none⟩ = some u
  lab : ∀ x ∈ l, Ll w x.la x.lc x.e.lab
theorem RdE.fr {X : Nat → Prop} {w w' : World} {a : Option Addr} {l : List SE} (h : RdE w a l) (hf : Fr X w w') (hx : ∀ b, isT w b 165 ∨ isT w b 59 → ¬ X b) : RdE w' a l := by
  refine ⟨fun hl => ?_, fun x hx' => (h.lab x hx').fr hf (fun b hb => hx b (.inl hb))⟩
  obtain ⟨b, off, e, ht, hc⟩ := h.rd hl
  exact ⟨b, off, e, hf.isT ht (hx b (.inr ht)), fun j u hu => (hf.cell ht.lt (hx b (.inr ht))).trans (hc j u hu)⟩
theorem RdE.below {B : Nat} {w w' : World} {a : Option Addr} {l : List SE} (h : RdE w a l) (hb : Below B w w') (hB : w.heap.size ≤ B) : RdE w' a l :=
  h.fr (Fr.of_below hb) (fun b hb' hx => by rcases hb' with h | h <;> (have := h.lt; omega))
/-- the six cells of the entry at k -/
theorem RdE.at_ {w : World} {a : Option Addr} {l : List SE} (h : RdE w a l) {k : Nat} {x : SE} (hx : l[k]? = some x) :
    ∃ b off, a = some ⟨b, off, none⟩ ∧ b < w.heap.size ∧ isT w b 59 ∧ ∀ j u, (eB x)[j]? = some u → w.cell? ⟨b, off + k * 6 + j, none⟩ = some u := by
  obtain ⟨b, off, e, ht, hc⟩ := h.rd (by intro e; subst e; simp at hx)
  refine ⟨b, off, e, ht.lt, ht, fun j u hu => ?_⟩
  rw [Nat.add_assoc]
  exact hc _ _ (flat_at eB 6 (fun _ => rfl) hx hu)
/-- the sink at p: its items, and what is known of its lines -/
structure SinkAt (w : World) (p base mb n : Nat) (v : Value) (l : List SI) : Prop where
  cells : w.heap[p]? = some (.cells #[v, .map (some mb)] 144 (0, 0))
  own : w.ownsRow base 61 7 v l.length (iFlat l)
  lab : ∀ x ∈ l, Ll w x.la x.lc x.e.lab
  map : MapIs w mb n (lastOf (l.map SI.it))
  le : n ≤ 2 * l.length
  len : l.length ≤ 65536
  ok : ∀ x ∈ l, itemRight (d x.key) x.e = true ∧ x.key.size ≤ 1000000
  bs : base ≤ w.heap.size
end Go.Proofs.YtiooimdncocfdaaGreatDoor.Sk
