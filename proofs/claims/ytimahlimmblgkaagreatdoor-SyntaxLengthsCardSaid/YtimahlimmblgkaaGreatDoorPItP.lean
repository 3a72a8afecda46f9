/- Texts of the claim, put together: ItP. -/
import Derived.Test.YtimahlimmblgkaaGreatDoorPBkQ
import Derived.Test.YtimahlimmblgkaaGreatDoorPRdA
import Derived.Test.YtimahlimmblgkaaGreatDoorPSlB
namespace Go.Proofs.YtimahlimmblgkaaGreatDoor
open Go.RowKit Go.Shelf
theorem Onl.below {R : Nat} {a w w' : World} (h : Onl R a w) (hb : Below a.heap.size w w') : Onl R a w' :=
  ⟨hb.os.trans h.os, hb.tape.trans h.tape, hb.output.trans h.output, Nat.le_trans h.size hb.size, fun i hi hn => (hb.block i hi).trans (h.block i hi hn)⟩
/-- what items leaves -/
def ItPost (R : Nat) (s : ByteArray) (k0 : Nat) (w : World) (e : Ending) (w' : World) : Prop :=
  Onl R w w' ∧ (match Rs.itemsS (s.size + 1) (s.data.toList.drop k0) true [] with
    | some (acc, r) => ∃ v k', e = .returned (.tuple #[v, .bool true]) ∧ w'.ownsRow w.heap.size 84 2 v acc.length (rFlat acc) ∧ Rb w' R s k' ∧ k' ≤ s.size ∧ s.data.toList.drop k' = r ∧ (∀ q ∈ acc, Rs.rg q) ∧ acc.length ≤ 8 * s.size
    | none => e = .returned (.tuple #[.slice none 0 0, .bool false]))
theorem ItPost.yes {R : Nat} {s : ByteArray} {k0 : Nat} {w w' : World} {acc : Rs.S} {r : List UInt8} {v : Value} {k' : Nat} (hO : Onl R w w') (h : Rs.itemsS (s.size + 1) (s.data.toList.drop k0) true [] = some (acc, r)) (h1 : w'.ownsRow w.heap.size 84 2 v acc.length (rFlat acc)) (h2 : Rb w' R s k') (h3 : k' ≤ s.size) (h4 : s.data.toList.drop k' = r) (h5 : ∀ q ∈ acc, Rs.rg q) (h6 : acc.length ≤ 8 * s.size) :
    ItPost R s k0 w (.returned (.tuple #[v, .bool true])) w' := by
  unfold ItPost; rw [h]; exact ⟨hO, v, k', rfl, h1, h2, h3, h4, h5, h6⟩
theorem ItPost.no {R : Nat} {s : ByteArray} {k0 : Nat} {w w' : World} (hO : Onl R w w') (h : Rs.itemsS (s.size + 1) (s.data.toList.drop k0) true [] = none) :
    ItPost R s k0 w (.returned (.tuple #[.slice none 0 0, .bool false])) w' := by
  unfold ItPost; rw [h]; exact ⟨hO, rfl⟩
/-- what holds at the head of a round of items -/
structure ItRel (R : Nat) (s : ByteArray) (k0 : Nat) (w : World) (k : Nat) (acc : Rs.S) (v : Value) (wr : World) : Prop where
  rb : Rb wr R s k
  le : k0 ≤ k
  ks : k ≤ s.size
  onl : Onl R w wr
  row : wr.ownsRow w.heap.size 84 2 v acc.length (rFlat acc)
  len : acc.length ≤ 8 * k
  rg : ∀ q ∈ acc, Rs.rg q
  it : ∃ f, s.size - k ≤ f ∧ Rs.itemsS (s.size + 1) (s.data.toList.drop k0) true [] = Rs.itemsS (f + 1) (s.data.toList.drop k) (decide (k = k0)) acc
/-- one item more -/
theorem ItRel.next {R : Nat} {s : ByteArray} {k0 : Nat} {w : World} {k : Nat} {acc : Rs.S} {v : Value} {wr : World} (h : ItRel R s k0 w k acc v wr) (hc : ¬ (k ≠ k0 ∧ Rs.bt (s.data.toList.drop k) 0 = 93)) {l : Rs.S} {n : Nat} (hi : Rs.itemS (s.data.toList.drop k) (decide (k = k0)) = some (l, n)) (hn : 1 ≤ n) (hk : k + n ≤ s.size) (hl : l.length ≤ 8) (hrg : ∀ q ∈ l, Rs.rg q)
    {v' : Value} {w' : World} (hb : Rb w' R s (k + n)) (ho : Onl R w w') (hr : w'.ownsRow w.heap.size 84 2 v' (acc.length + l.length) (rFlat acc ++ rFlat l)) : ItRel R s k0 w (k + n) (acc ++ l) v' w' := by
  obtain ⟨f, hf, he⟩ := h.it
  refine ⟨hb, by have := h.le; omega, hk, ho, ?_, ?_, ?_, ?_⟩
  · rw [List.length_append]; simpa [rFlat] using hr
  · have := h.len; rw [List.length_append]; omega
  · intro q hq
    rcases List.mem_append.1 hq with h1 | h1
    · exact h.rg q h1
    · exact hrg q h1
  · rw [Rs.it_step (by simpa using hc) hi] at he
    match f, hf, he with
    | 0, hf, _ => omega
    | f + 1, hf, he =>
      refine ⟨f, by omega, ?_⟩
      rw [he, List.drop_drop, show decide (k + n = k0) = false by have := h.le; simp; omega]
theorem ItRel.fail {R : Nat} {s : ByteArray} {k0 : Nat} {w : World} {k : Nat} {acc : Rs.S} {v : Value} {wr : World} (h : ItRel R s k0 w k acc v wr) (hc : ¬ (k ≠ k0 ∧ Rs.bt (s.data.toList.drop k) 0 = 93)) (hi : Rs.itemS (s.data.toList.drop k) (decide (k = k0)) = none) : Rs.itemsS (s.size + 1) (s.data.toList.drop k0) true [] = none := by
  obtain ⟨f, hf, he⟩ := h.it
  rw [he, Rs.it_fail (by simpa using hc) hi]
theorem ItRel.done {R : Nat} {s : ByteArray} {k0 : Nat} {w : World} {k : Nat} {acc : Rs.S} {v : Value} {wr : World} (h : ItRel R s k0 w k acc v wr) (h1 : k ≠ k0) (h2 : Rs.bt (s.data.toList.drop k) 0 = 93) : Rs.itemsS (s.size + 1) (s.data.toList.drop k0) true [] = some (acc, s.data.toList.drop (k + 1)) := by
  obtain ⟨f, hf, he⟩ := h.it
  rw [he, show decide (k = k0) = false by simpa using h1, Rs.it_done h2, List.drop_drop]
end Go.Proofs.YtimahlimmblgkaaGreatDoor
