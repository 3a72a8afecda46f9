/- Where the block of a slice that was made lies. -/
import Derived.Test.YtiooimdncocfdaaGreatDoorKep
namespace Go.Proofs.YtiooimdncocfdaaGreatDoor
open Go.RowKit Go.Shelf
theorem Blk.below {w w1 : World} {g n : Nat} (h : Blk w g n) (hb : Below w.heap.size w w1) : Blk w1 g n := by
  obtain ⟨cur, h1, h2⟩ := h
  exact ⟨cur, by rw [hb.block g (Array.getElem?_eq_some_iff.1 h1).1]; exact h1, h2⟩
theorem Blk.kept {S : List Nat} {w w1 : World} {g n : Nat} (h : Blk w g n) (hb : KeptB S w w1) (hg : g ∉ S) : Blk w1 g n := by
  obtain ⟨cur, h1, h2⟩ := h
  exact ⟨cur, by rw [hb.block g (Array.getElem?_eq_some_iff.1 h1).1 hg]; exact h1, h2⟩
/-- What a slice that was made holds for the law: where its block lies, and that it may be written. -/
theorem own_all {w : World} {base n : Nat} {v : Value} {l : Rs.S} {T : TypeId} (h : w.ownsRow base T 2 v n (rFlat l)) :
    ∃ a cap, v = .slice a l.length cap ∧ Sl w a cap l ∧ (∀ p, a = some p → base ≤ p.block ∧ p.block < w.heap.size) := by
  obtain ⟨a, cap, rfl, hn, hs⟩ := Sl.of_ownT h
  refine ⟨a, cap, rfl, hs, fun p e => ⟨?_, (hs.sp p e).2⟩⟩
  subst e
  rcases h.2 with ⟨e, _⟩ | ⟨g, cap', cur, e, hb, _⟩
  · cases e
  · cases e; exact hb
theorem own_blk {w : World} {base n cap : Nat} {a : Option Addr} {l : Rs.S} (h : w.ownsRow base 27 2 (.slice a l.length cap) n (rFlat l)) : l ≠ [] → ∃ g, a = some ⟨g, 0, none⟩ ∧ Blk w g l.length := by
  intro hne
  have hn : n = l.length := by have := h.1; rw [rFlat_length] at this; omega
  subst hn
  rcases h.2 with ⟨_, h0⟩ | ⟨g, cap', cur, e, hb, hg, h1, h2, h3, _⟩
  · exact absurd (List.eq_nil_of_length_eq_zero h0) hne
  · cases e
    exact ⟨g, rfl, cur, hg, by rw [h3]; exact Nat.mul_le_mul_right _ h1⟩
def blks (a : Option Addr) : List Nat := (a.map (·.block)).toList
theorem blks_mem {a : Option Addr} {i : Nat} : i ∈ blks a ↔ ∃ p, a = some p ∧ p.block = i := by
  cases a <;> simp [blks, eq_comm]
theorem KeptB.of_alloc {S : List Nat} {w w' : World} {o : Obj} (h : KeptB S (w.alloc o) w') : KeptB S w w' :=
  ⟨h.os, h.tape, h.output, by have := h.size; simp at this; omega, fun i hi hn => by rw [h.block i (by simp; omega) hn, Below.heap_alloc w o i hi]⟩
/-- Where the block of a slice lies. -/
def In (a : Option Addr) (x y : Nat) : Prop := ∀ p, a = some p → x ≤ p.block ∧ p.block < y
theorem In.not {a o : Option Addr} {x y u v : Nat} (h : In a x y) (k : In o u v) (hd : y ≤ u ∨ v ≤ x) : ∀ p, a = some p → p.block ∉ blks o := by
  intro p e hm
  obtain ⟨q, e', hq⟩ := blks_mem.1 hm
  have h1 := h p e
  have h2 := k q e'
  omega
theorem In.ge {o : Option Addr} {u v : Nat} (k : In o u v) {B : Nat} (hB : B ≤ u) : ∀ i ∈ blks o, B ≤ i := by
  intro i hm
  obtain ⟨q, e', hq⟩ := blks_mem.1 hm
  have h2 := k q e'
  omega
theorem alloc_cell (w : World) (xs : Array Value) (T : TypeId) (i : Nat) (v : Value) (h : xs[i]? = some v) : (w.alloc (.cells xs T)).cell? ⟨w.heap.size, i, none⟩ = some v := by
  simp only [World.cell?, World.alloc_heap_new]
  exact h
end Go.Proofs.YtiooimdncocfdaaGreatDoor
