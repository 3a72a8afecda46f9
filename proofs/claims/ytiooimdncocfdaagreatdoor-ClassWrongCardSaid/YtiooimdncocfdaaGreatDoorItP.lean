/- Package class: items, the plain law: steps of itemsS. -/
import Derived.Test.YtiooimdncocfdaaGreatDoorRdA
import Derived.Test.YtiooimdncocfdaaGreatDoorSlB
namespace Go.Proofs.YtiooimdncocfdaaGreatDoor
namespace Rs
theorem namedO_eq (c : Int) : namedO c = if namedB c then some (namedS c) else none := by
  unfold namedO namedB namedS
  by_cases h1 : c = 100
  · subst h1; rfl
  by_cases h2 : c = 115
  · subst h2; rfl
  by_cases h3 : c = 119
  · subst h3; rfl
  by_cases h4 : c = 68
  · subst h4; rfl
  by_cases h5 : c = 83
  · subst h5; rfl
  by_cases h6 : c = 87
  · subst h6; rfl
  simp [h1, h2, h3, h4, h5, h6]
def rgAll (l : S) : Bool := l.all fun r => decide (0 ≤ r.1) && decide (r.1 ≤ r.2) && decide (r.2 ≤ 1114111)
theorem rgAll_rg {l : S} (h : rgAll l = true) : ∀ r ∈ l, rg r := by
  intro r hr
  have := List.all_eq_true.1 h r hr
  simp at this
  exact ⟨this.1.1, this.1.2, this.2⟩
theorem namedS_rg (c : Int) : (∀ r ∈ namedS c, rg r) ∧ (namedS c).length ≤ 8 := by
  unfold namedS
  split
  · rename_i h
    rcases h with rfl | rfl | rfl <;> exact ⟨rgAll_rg (by decide), by decide⟩
  · split
    · rename_i h
      rcases h with rfl | rfl | rfl <;> exact ⟨rgAll_rg (by decide +kernel), by decide +kernel⟩
    · simp
theorem it_done {f : Nat} {t : List UInt8} {acc : S} (h : bt t 0 = 93) : itemsS (f + 1) t false acc = some (acc, t.drop 1) := by
  unfold itemsS; rw [if_pos ⟨rfl, h⟩]
theorem it_step {f n : Nat} {t : List UInt8} {first : Bool} {acc l : S} (h : ¬ (first = false ∧ bt t 0 = 93)) (hi : itemS t first = some (l, n)) : itemsS (f + 1) t first acc = itemsS f (t.drop n) false (acc ++ l) := by
  rw [itemsS, if_neg h, hi]
theorem it_fail {f : Nat} {t : List UInt8} {first : Bool} {acc : S} (h : ¬ (first = false ∧ bt t 0 = 93)) (hi : itemS t first = none) : itemsS (f + 1) t first acc = none := by
  unfold itemsS; rw [if_neg h, hi]
theorem item_named {t : List UInt8} {first : Bool} (h0 : bt t 0 = 92) (h1 : 1 < t.length) (hn : namedB (bt t 1) = true) : itemS t first = some (namedS (bt t 1), 2) := by
  unfold itemS; rw [if_pos ⟨h0, h1⟩, namedO_eq, if_pos hn]
theorem not_named {t : List UInt8} (h : ¬ (bt t 0 = 92 ∧ 1 < t.length ∧ namedB (bt t 1) = true)) : (if bt t 0 = 92 ∧ 1 < t.length then namedO (bt t 1) else none) = none := by
  split
  · rename_i h'
    rw [namedO_eq, if_neg (fun e => h ⟨h'.1, h'.2, e⟩)]
  · rfl
theorem item_dash {t : List UInt8} {first : Bool} (h0 : bt t 0 = 45) (h1 : first = true ∨ bt t 1 = 93) : itemS t first = some ([(45, 45)], 1) := by
  unfold itemS
  rw [not_named (fun e => by rw [h0] at e; omega), if_pos ⟨h0, h1⟩]
theorem item_none {t : List UInt8} {first : Bool} (hn : ¬ (bt t 0 = 92 ∧ 1 < t.length ∧ namedB (bt t 1) = true)) (hd : ¬ (bt t 0 = 45 ∧ (first = true ∨ bt t 1 = 93))) (hp : partS t = none) : itemS t first = none := by
  unfold itemS
  rw [not_named hn, if_neg hd, hp]
theorem item_one {t : List UInt8} {first : Bool} {a : Int} {n : Nat} (hn : ¬ (bt t 0 = 92 ∧ 1 < t.length ∧ namedB (bt t 1) = true)) (hd : ¬ (bt t 0 = 45 ∧ (first = true ∨ bt t 1 = 93))) (hp : partS t = some (a, n)) (h : ¬ (bt t n = 45 ∧ bt t (n + 1) ≠ 93)) : itemS t first = some ([(a, a)], n) := by
  unfold itemS
  rw [not_named hn, if_neg hd, hp]
  simp only
  rw [if_neg h]
theorem item_two {t : List UInt8} {first : Bool} {a : Int} {n : Nat} (hn : ¬ (bt t 0 = 92 ∧ 1 < t.length ∧ namedB (bt t 1) = true)) (hd : ¬ (bt t 0 = 45 ∧ (first = true ∨ bt t 1 = 93))) (hp : partS t = some (a, n)) (h : bt t n = 45 ∧ bt t (n + 1) ≠ 93) :
    itemS t first = match partS (t.drop (n + 1)) with
          | none => none
          | some (b, m) => if b < a then none else some ([(a, b)], n + 1 + m) := by
  unfold itemS
  rw [not_named hn, if_neg hd, hp]
  simp only
  rw [if_pos h]
  rcases partS (t.drop (n + 1)) with _ | ⟨b, m⟩ <;> rfl
end Rs
open Go.RowKit Go.Shelf
theorem Onl.below {R : Nat} {a w w' : World} (h : Onl R a w) (hb : Below a.heap.size w w') : Onl R a w' :=
  ⟨hb.os.trans h.os, hb.tape.trans h.tape, hb.output.trans h.output, Nat.le_trans h.size hb.size, fun i hi hn => (hb.block i hi).trans (h.block i hi hn)⟩
/-- what items leaves -/
def ItPost (R : Nat) (s : ByteArray) (k0 : Nat) (w : World) (e : Ending) (w' : World) : Prop :=
  Onl R w w' ∧ (match Rs.itemsS (s.size + 1) (s.data.toList.drop k0) true [] with
    | some (acc, r) => ∃ v k', e = .returned (.tuple #[v, .bool true]) ∧ w'.ownsRow w.heap.size 27 2 v acc.length (rFlat acc) ∧ Rb w' R s k' ∧ k' ≤ s.size ∧ s.data.toList.drop k' = r ∧ (∀ q ∈ acc, Rs.rg q) ∧ acc.length ≤ 8 * s.size
    | none => e = .returned (.tuple #[.slice none 0 0, .bool false]))
theorem ItPost.yes {R : Nat} {s : ByteArray} {k0 : Nat} {w w' : World} {acc : Rs.S} {r : List UInt8} {v : Value} {k' : Nat} (hO : Onl R w w') (h : Rs.itemsS (s.size + 1) (s.data.toList.drop k0) true [] = some (acc, r)) (h1 : w'.ownsRow w.heap.size 27 2 v acc.length (rFlat acc)) (h2 : Rb w' R s k') (h3 : k' ≤ s.size) (h4 : s.data.toList.drop k' = r) (h5 : ∀ q ∈ acc, Rs.rg q) (h6 : acc.length ≤ 8 * s.size) :
    ItPost R s k0 w (.returned (.tuple #[v, .bool true])) w' := by
  unfold ItPost; rw [h]; exact ⟨hO, v, k', rfl, h1, h2, h3, h4, h5, h6⟩
theorem ItPost.no {R : Nat} {s : ByteArray} {k0 : Nat} {w w' : World} (hO : Onl R w w') (h : Rs.itemsS (s.size + 1) (s.data.toList.drop k0) true [] = none) :
    ItPost R s k0 w (.returned (.tuple #[.slice none 0 0, .bool false])) w' := by
  unfold ItPost; rw [h]; exact ⟨hO, rfl⟩
/-- what holds at the head of a round of items -/
structure ItRel (R : Nat) (s : ByteArray) (k0 : Nat) (w : World) (k : Nat) (acc : Rs.S) (v : Value) (wr : World) : Prop where
  rb : Rb wr R s k
  le : k0 ≤ k
  ks : k ≤ s.size
  onl : Onl R w wr
  row : wr.ownsRow w.heap.size 27 2 v acc.length (rFlat acc)
  len : acc.length ≤ 8 * k
  rg : ∀ q ∈ acc, Rs.rg q
  it : ∃ f, s.size - k ≤ f ∧ Rs.itemsS (s.size + 1) (s.data.toList.drop k0) true [] = Rs.itemsS (f + 1) (s.data.toList.drop k) (decide (k = k0)) acc
/-- one item more -/
theorem ItRel.next {R : Nat} {s : ByteArray} {k0 : Nat} {w : World} {k : Nat} {acc : Rs.S} {v : Value} {wr : World} (h : ItRel R s k0 w k acc v wr) (hc : ¬ (k ≠ k0 ∧ Rs.bt (s.data.toList.drop k) 0 = 93)) {l : Rs.S} {n : Nat} (hi : Rs.itemS (s.data.toList.drop k) (decide (k = k0)) = some (l, n)) (hn : 1 ≤ n) (hk : k + n ≤ s.size) (hl : l.length ≤ 8) (hrg : ∀ q ∈ l, Rs.rg q)
    {v' : Value} {w' : World} (hb : Rb w' R s (k + n)) (ho : Onl R w w') (hr : w'.ownsRow w.heap.size 27 2 v' (acc.length + l.length) (rFlat acc ++ rFlat l)) : ItRel R s k0 w (k + n) (acc ++ l) v' w' := by
  obtain ⟨f, hf, he⟩ := h.it
  refine ⟨hb, by have := h.le; omega, hk, ho, ?_, ?_, ?_, ?_⟩
  · rw [List.length_append]; simpa [rFlat] using hr
  · have := h.len; rw [List.length_append]; omega
  · intro q hq
    rcases List.mem_append.1 hq with h1 | h1
    · exact h.rg q h1
    · exact hrg q h1
  · rw [Rs.it_step (by simpa using hc) hi] at he
    match f, hf, he with
    | 0, hf, _ => omega
    | f + 1, hf, he =>
      refine ⟨f, by omega, ?_⟩
      rw [he, List.drop_drop, show decide (k + n = k0) = false by have := h.le; simp; omega]
theorem ItRel.fail {R : Nat} {s : ByteArray} {k0 : Nat} {w : World} {k : Nat} {acc : Rs.S} {v : Value} {wr : World} (h : ItRel R s k0 w k acc v wr) (hc : ¬ (k ≠ k0 ∧ Rs.bt (s.data.toList.drop k) 0 = 93)) (hi : Rs.itemS (s.data.toList.drop k) (decide (k = k0)) = none) : Rs.itemsS (s.size + 1) (s.data.toList.drop k0) true [] = none := by
  obtain ⟨f, hf, he⟩ := h.it
  rw [he, Rs.it_fail (by simpa using hc) hi]
theorem ItRel.done {R : Nat} {s : ByteArray} {k0 : Nat} {w : World} {k : Nat} {acc : Rs.S} {v : Value} {wr : World} (h : ItRel R s k0 w k acc v wr) (h1 : k ≠ k0) (h2 : Rs.bt (s.data.toList.drop k) 0 = 93) : Rs.itemsS (s.size + 1) (s.data.toList.drop k0) true [] = some (acc, s.data.toList.drop (k + 1)) := by
  obtain ⟨f, hf, he⟩ := h.it
  rw [he, show decide (k = k0) = false by simpa using h1, Rs.it_done h2, List.drop_drop]
end Go.Proofs.YtiooimdncocfdaaGreatDoor
