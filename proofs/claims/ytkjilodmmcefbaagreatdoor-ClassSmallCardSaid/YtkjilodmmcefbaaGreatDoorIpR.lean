/- The reference's item and Read: the plain law. -/
import Derived.Test.YtkjilodmmcefbaaGreatDoorItP
import Derived.Test.YtkjilodmmcefbaaGreatDoorReA
namespace Go.Proofs.YtkjilodmmcefbaaGreatDoor
namespace Rs
def itemL (t : List UInt8) (f : Bool) : S := ((itemS t f).map (·.1)).getD []
def itemN (t : List UInt8) (f : Bool) : Nat := ((itemS t f).map (·.2)).getD 0
theorem item_yes {t : List UInt8} {f : Bool} {l : S} {n : Nat} (h : itemS t f = some (l, n)) : itemL t f = l ∧ itemN t f = n := by simp [itemL, itemN, h]
theorem item_no {t : List UInt8} {f : Bool} (h : itemS t f = none) : itemL t f = [] ∧ itemN t f = 0 := by simp [itemL, itemN, h]
theorem pt_rg {a : Int} (h : pt a = true) : 0 ≤ a ∧ a ≤ 1114111 := by rw [pt_iff] at h; omega
theorem itemS_all {t : List UInt8} {f : Bool} {l : S} {n : Nat} (h : itemS t f = some (l, n)) : 1 ≤ n ∧ n ≤ t.length ∧ l.length ≤ 8 ∧ ∀ q ∈ l, rg q := by
  by_cases hn : bt t 0 = 92 ∧ 1 < t.length ∧ namedB (bt t 1) = true
  · rw [item_named hn.1 hn.2.1 hn.2.2] at h
    cases h
    exact ⟨by decide, by omega, (namedS_rg _).2, (namedS_rg _).1⟩
  · by_cases hd : bt t 0 = 45 ∧ (f = true ∨ bt t 1 = 93)
    · rw [item_dash hd.1 hd.2] at h
      cases h
      refine ⟨Nat.le_refl _, ?_, by decide, ?_⟩
      · rcases Nat.lt_or_ge 0 t.length with hl | hl
        · exact hl
        · rw [bt_ge hl] at hd; omega
      · intro q hq
        cases List.mem_singleton.1 hq
        exact ⟨by decide, by decide, by decide⟩
    · cases hp : partS t with
      | none => rw [item_none hn hd hp] at h; cases h
      | some r =>
        obtain ⟨a, m⟩ := r
        obtain ⟨pa, m1, m2⟩ := partS_ok hp
        have ra := pt_rg pa
        by_cases hc : bt t m = 45 ∧ bt t (m + 1) ≠ 93
        · rw [item_two hn hd hp hc] at h
          cases hp2 : partS (t.drop (m + 1)) with
          | none => rw [hp2] at h; cases h
          | some r2 =>
            obtain ⟨b, k⟩ := r2
            obtain ⟨pb, k1, k2⟩ := partS_ok hp2
            have rb := pt_rg pb
            rw [hp2] at h
            dsimp only at h
            rw [List.length_drop] at k2
            by_cases hba : b < a
            · rw [if_pos hba] at h; cases h
            · rw [if_neg hba] at h
              cases h
              refine ⟨by omega, by omega, by simp, ?_⟩
              intro q hq
              cases List.mem_singleton.1 hq
              exact ⟨ra.1, by simp only; omega, rb.2⟩
        · rw [item_one hn hd hp hc] at h
          cases h
          refine ⟨m1, m2, by simp, ?_⟩
          intro q hq
          cases List.mem_singleton.1 hq
          exact ⟨ra.1, Int.le_refl _, ra.2⟩
/-- what holds ahead of an item: no named set, no dash that stands for itself -/
def Plain (t : List UInt8) (f : Bool) : Prop := ¬ (bt t 0 = 92 ∧ 1 < t.length ∧ namedB (bt t 1) = true) ∧ ¬ (bt t 0 = 45 ∧ (f = true ∨ bt t 1 = 93))
theorem item_p_none {t : List UInt8} {f : Bool} (h : Plain t f) (hp : partS t = none) : itemL t f = [] ∧ itemN t f = 0 := item_no (item_none h.1 h.2 hp)
theorem item_p_one {t : List UInt8} {f : Bool} (h : Plain t f) {a : Int} {n : Nat} (hp : partS t = some (a, n)) (hc : ¬ (bt t n = 45 ∧ bt t (n + 1) ≠ 93)) : itemL t f = [(a, a)] ∧ itemN t f = n := item_yes (item_one h.1 h.2 hp hc)
theorem item_p_two {t : List UInt8} {f : Bool} (h : Plain t f) {a b : Int} {n m : Nat} (hp : partS t = some (a, n)) (hc : bt t n = 45 ∧ bt t (n + 1) ≠ 93) (hp2 : partS (t.drop (n + 1)) = some (b, m)) (hba : ¬ b < a) : itemL t f = [(a, b)] ∧ itemN t f = n + 1 + m :=
  item_yes (by rw [item_two h.1 h.2 hp hc, hp2]; simp only; rw [if_neg hba])
theorem item_p_bad {t : List UInt8} {f : Bool} (h : Plain t f) {a : Int} {n : Nat} (hp : partS t = some (a, n)) (hc : bt t n = 45 ∧ bt t (n + 1) ≠ 93) (hb : partS (t.drop (n + 1)) = none ∨ ∃ b m, partS (t.drop (n + 1)) = some (b, m) ∧ b < a) : itemL t f = [] ∧ itemN t f = 0 := by
  apply item_no
  rw [item_two h.1 h.2 hp hc]
  rcases hb with hb | ⟨b, m, hb, hlt⟩
  · rw [hb]
  · rw [hb]; simp only; rw [if_pos hlt]
theorem part_dash {t : List UInt8} (h : bt t 0 = 45) : partS t = none := by
  have hl : t.length ≠ 0 := by
    intro e
    rw [bt_ge (by omega)] at h
    omega
  have hne : t ≠ [] := fun e => hl (by rw [e]; rfl)
  unfold partS
  rw [if_neg hl, if_neg (by omega)]
  have hd : (decS t).1 = 45 := by
    have q0 : bt t 0 = (((t.getD 0 0).toNat : Nat) : Int) := rfl
    unfold decS
    rw [if_neg hne, Lib.decodeL_N]
    unfold Lib.decodeN
    rw [if_pos (by omega)]
    show (t.getD 0 0).toNat = 45
    omega
  rw [if_neg (fun x => x.2.2.2 hd)]
theorem part_one {t : List UInt8} (h : bt t 0 = 92) (hl : t.length ≤ 1) : partS t = none := by
  unfold partS
  by_cases e : t.length = 0
  · rw [if_pos e]
  · rw [if_neg e, if_pos h]
    unfold escS
    rw [if_pos (by omega)]
end Rs
open Go.RowKit Go.Shelf
/-- what holds at the head of a round of the reference's Read -/
structure RtRel (s : ByteArray) (k0 : Nat) (w : World) (k : Nat) (acc : Rs.S) (v : Value) (wr : World) : Prop where
  le : k0 ≤ k
  ks : k ≤ s.size
  blw : Below w.heap.size w wr
  row : wr.ownsRow w.heap.size 59 2 v acc.length (rFlat acc)
  len : acc.length ≤ 8 * k
  rg : ∀ q ∈ acc, Rs.rg q
  it : ∃ f, s.size - k ≤ f ∧ Rs.itemsS (s.size + 1) (s.data.toList.drop k0) true [] = Rs.itemsS (f + 1) (s.data.toList.drop k) (decide (k = k0)) acc
theorem RtRel.next {s : ByteArray} {k0 : Nat} {w : World} {k : Nat} {acc : Rs.S} {v : Value} {wr : World} (h : RtRel s k0 w k acc v wr) (hc : ¬ (k ≠ k0 ∧ Rs.bt (s.data.toList.drop k) 0 = 93)) {l : Rs.S} {n : Nat} (hi : Rs.itemS (s.data.toList.drop k) (decide (k = k0)) = some (l, n))
    {v' : Value} {w' : World} (ho : Below w.heap.size w w') (hr : w'.ownsRow w.heap.size 59 2 v' (acc.length + l.length) (rFlat acc ++ rFlat l)) : RtRel s k0 w (k + n) (acc ++ l) v' w' := by
  obtain ⟨f, hf, he⟩ := h.it
  obtain ⟨hn, hn2, hl, hrg⟩ := Rs.itemS_all hi
  rw [List.length_drop, ← Lib.size_eq] at hn2
  have hks := h.ks
  refine ⟨by have := h.le; omega, by omega, ho, ?_, ?_, ?_, ?_⟩
  · rw [List.length_append]; simpa [rFlat] using hr
  · have := h.len; rw [List.length_append]; omega
  · intro q hq
    rcases List.mem_append.1 hq with h1 | h1
    · exact h.rg q h1
    · exact hrg q h1
  · rw [Rs.it_step (by simpa using hc) hi] at he
    match f, hf, he with
    | 0, hf, _ => omega
    | f + 1, hf, he =>
      refine ⟨f, by omega, ?_⟩
      rw [he, List.drop_drop, show decide (k + n = k0) = false by have := h.le; simp; omega]
theorem RtRel.fail {s : ByteArray} {k0 : Nat} {w : World} {k : Nat} {acc : Rs.S} {v : Value} {wr : World} (h : RtRel s k0 w k acc v wr) (hc : ¬ (k ≠ k0 ∧ Rs.bt (s.data.toList.drop k) 0 = 93)) (hi : Rs.itemS (s.data.toList.drop k) (decide (k = k0)) = none) : Rs.itemsS (s.size + 1) (s.data.toList.drop k0) true [] = none := by
  obtain ⟨f, hf, he⟩ := h.it
  rw [he, Rs.it_fail (by simpa using hc) hi]
theorem RtRel.done {s : ByteArray} {k0 : Nat} {w : World} {k : Nat} {acc : Rs.S} {v : Value} {wr : World} (h : RtRel s k0 w k acc v wr) (h1 : k ≠ k0) (h2 : Rs.bt (s.data.toList.drop k) 0 = 93) : Rs.itemsS (s.size + 1) (s.data.toList.drop k0) true [] = some (acc, s.data.toList.drop (k + 1)) := by
  obtain ⟨f, hf, he⟩ := h.it
  rw [he, show decide (k = k0) = false by simpa using h1, Rs.it_done h2, List.drop_drop]
/-- behind the last byte: no item more -/
theorem RtRel.out {s : ByteArray} {k0 : Nat} {w : World} {acc : Rs.S} {v : Value} {wr : World} (h : RtRel s k0 w s.size acc v wr) : Rs.itemsS (s.size + 1) (s.data.toList.drop k0) true [] = none := by
  have e : s.data.toList.drop s.size = [] := List.drop_of_length_le (by rw [← Lib.size_eq]; exact Nat.le_refl _)
  refine h.fail (fun x => ?_) ?_
  · rw [e] at x
    have := x.2
    rw [Rs.bt_ge (by simp)] at this
    omega
  · rw [e]
    exact Rs.item_none (fun x => by rw [Rs.bt_ge (by simp)] at x; omega) (fun x => by rw [Rs.bt_ge (by simp)] at x; omega) rfl
/-- what the reference's Read gives back -/
def RtPost (s : ByteArray) (w : World) (e : Ending) (w' : World) : Prop :=
  ∃ v, e = .returned (.tuple #[v, .int .i64 (Rs.readN s.data.toList), .int .i64 (Rs.readE s.data.toList)]) ∧ w'.ownsRow w.heap.size 59 2 v (Rs.readL s.data.toList).length (rFlat (Rs.readL s.data.toList)) ∧ Below w.heap.size w w'
theorem RtPost.no {s : ByteArray} {w w' : World} (h : Rs.readF s.data.toList = none) (hb : Below w.heap.size w w') : RtPost s w (.returned (.tuple #[.slice none 0 0, .int .i64 0, .int .i64 61])) w' := by
  obtain ⟨e1, e2, e3⟩ := Rs.read_none h
  unfold RtPost
  rw [e1, e2, e3]
  exact ⟨_, rfl, World.ownsRow_nil _ _ _ _, hb⟩
theorem RtPost.yes {s : ByteArray} {w w' : World} {l : Rs.S} {n : Nat} {v : Value} (h : Rs.readF s.data.toList = some (l, n)) (hb : Below w.heap.size w w') (hr : w'.ownsRow w.heap.size 59 2 v l.length (rFlat l)) : RtPost s w (.returned (.tuple #[v, .int .i64 n, .int .i64 0])) w' := by
  obtain ⟨e1, e2, e3⟩ := Rs.read_some h
  unfold RtPost
  rw [e1, e2, e3]
  exact ⟨_, rfl, hr, hb⟩
end Go.Proofs.YtkjilodmmcefbaaGreatDoor
