/- Chapter 38: the reference's Read. -/
import Derived.Test.YtggfehppompcjaaGreatDoorKRv
import Derived.Test.YtggfehppompcjaaGreatDoorKRl
import Derived.Test.YtggfehppompcjaaGreatDoorKbR
namespace Go.Proofs.YtggfehppompcjaaGreatDoor.Sk
open Go Go.RowKit
theorem words_q {s : ByteArray} {Q : List ByteArray} (hQ : Q.map d = cutAt 32 (d s)) {k : B} {en : Ent} (h : textR k en = d s) : Q.map d = wordsT k en := by rw [hQ, ← h, cut_text]
theorem noText_q {s : ByteArray} {Q : List ByteArray} (hQ : Q.map d = cutAt 32 (d s)) (h4 : Q.length ≠ 4) (h6 : Q.length ≠ 6) : NoText (d s) := by
  intro k en hr hi he
  have h2 := congrArg List.length (words_q hQ he)
  rw [List.length_map] at h2
  unfold wordsT headW at h2
  split at h2
  · simp at h2; exact h4 h2
  · simp at h2; exact h6 h2
theorem parse4R {s a0 a1 a2 a3 : ByteArray} (hQ : ([a0, a1, a2, a3] : List ByteArray).map d = cutAt 32 (d s)) {k : B} {en : Ent} (hr : itemRight k en = true) (hi : EntIn en) (h : textR k en = d s) :
    plainR (d a3) = bytesS en.lab ∧ plainR (d a2) = k ∧ en = ⟨en.lab, true, 0, false, 0, numI (d a1)⟩ := by
  have h1 := words_q hQ h
  obtain ⟨l1, s10, s11, m1, t1⟩ := right_fields hr
  obtain ⟨lab, mk, b, sd, tm, sp⟩ := en
  unfold wordsT headW at h1
  simp only at h1 l1 m1 t1
  cases mk with
  | false => simp at h1
  | true =>
    simp only [if_true, List.map_cons, List.map_nil, List.cons_append, List.nil_append, List.cons.injEq, and_true] at h1
    obtain ⟨_, e1, e2, e3⟩ := h1
    obtain ⟨rfl, rfl⟩ := m1 rfl
    obtain rfl := t1 rfl
    exact ⟨by rw [e3, plainR_word], by rw [e2, plainR_word], by rw [e1, numI_itoa hi.s0 hi.s1]⟩
theorem parse6R {s a0 a1 a2 a3 a4 a5 : ByteArray} (hQ : ([a0, a1, a2, a3, a4, a5] : List ByteArray).map d = cutAt 32 (d s)) {k : B} {en : Ent} (hr : itemRight k en = true) (hi : EntIn en) (h : textR k en = d s) :
    plainR (d a5) = bytesS en.lab ∧ plainR (d a4) = k ∧ en = ⟨en.lab, false, (bitW 0 (d a2) : Int), !decide (d a3 = [45]), if d a3 = [45] then 0 else numI (d a3), numI (d a1)⟩ := by
  have h1 := words_q hQ h
  obtain ⟨l1, s10, s11, m1, t1⟩ := right_fields hr
  obtain ⟨lab, mk, b, sd, tm, sp⟩ := en
  unfold wordsT headW at h1
  simp only at h1 l1 m1 t1
  cases mk with
  | true => simp at h1
  | false =>
    simp only [Bool.false_eq_true, if_false, List.map_cons, List.map_nil, List.cons_append, List.nil_append, List.cons.injEq, and_true] at h1
    obtain ⟨_, e1, e2, e3, e4, e5⟩ := h1
    refine ⟨by rw [e5, plainR_word], by rw [e4, plainR_word], ?_⟩
    have eb : (bitW 0 (d a2) : Int) = b := by rw [e2]; exact bitW_bitsT hi.b0 hi.b1
    rw [eb, e1, numI_itoa hi.s0 hi.s1]
    cases sd with
    | true =>
      simp only [if_true] at e3
      have h4 : ¬ (d a3 = [45]) := by rw [e3]; exact itoa_ne_dash _
      rw [if_neg h4, e3, numI_itoa hi.t0 hi.t1]
      have h5 : ¬ (Lib.itoa tm = [45]) := itoa_ne_dash _
      simp [h5]
    | false =>
      simp only [Bool.false_eq_true, if_false] at e3
      obtain rfl := t1 rfl
      rw [if_pos e3]
      simp [e3]
end Go.Proofs.YtggfehppompcjaaGreatDoor.Sk
