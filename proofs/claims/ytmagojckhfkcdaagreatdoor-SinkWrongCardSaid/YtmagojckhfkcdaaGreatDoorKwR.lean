/- Plain law of SinkWrong: texts that no item has. -/
import Derived.Test.YtmagojckhfkcdaaGreatDoorKbR
import Derived.Test.YtmagojckhfkcdaaGreatDoorKTl
namespace Go.Proofs.YtmagojckhfkcdaaGreatDoor.Sk
open Go
/-- a text whose first word is no item's first word -/
theorem noText_head {s w0 : B} {r : List B} (h : cutAt 32 s = w0 :: r) (h1 : w0 ≠ [109, 97, 114, 107, 101, 114]) (h2 : w0 ≠ [115, 97, 109, 112, 108, 101]) : NoText s := by
  intro k en hr hi he
  rw [← he, cut_text] at h
  unfold wordsT headW at h
  split at h
  · injection h with e1 e2
    exact h1 e1.symm
  · injection h with e1 e2
    exact h2 e1.symm
/-- the item whose text the law reads -/
def goodE : Ent := ⟨[], false, 0, false, 0, 5⟩
theorem good_right : itemRight (d kJ) goodE = true := by kernel_rfl
theorem good_words : cutAt 32 (textR (d kJ) goodE) = [[115, 97, 109, 112, 108, 101], Lib.itoa 5, bitsT 0, [45], wordS (d kJ), wordS []] := by
  rw [cut_text]
  rfl
theorem good_head : ∃ r : B, textR (d kJ) goodE = 115 :: r ∧ (Lib.toUpperA (textR (d kJ) goodE)).head? = some 83 := ⟨_, rfl, by kernel_rfl⟩
theorem good_ascii : (textR (d kJ) goodE).all (fun b => decide (b.toNat < 128)) = true := by kernel_rfl
/-- the words of the text in capitals -/
theorem upper_words : ∃ r : List B, cutAt 32 (Lib.toUpperA (textR (d kJ) goodE)) = [83, 65, 77, 80, 76, 69] :: r := ⟨(cutAt 32 (Lib.toUpperA (textR (d kJ) goodE))).drop 1, by kernel_rfl⟩
theorem upper_no : NoText (Lib.toUpperA (textR (d kJ) goodE)) := by
  obtain ⟨r, h⟩ := upper_words
  exact noText_head h (by decide) (by decide)
theorem behind_no : NoText (textR (d kJ) goodE ++ [32]) := by
  have h : (cutAt 32 (textR (d kJ) goodE ++ [32])).length = 7 := by kernel_rfl
  intro k en hr hi he
  rw [← he, cut_text] at h
  unfold wordsT headW at h
  split at h <;> simp at h
theorem ahead_no : NoText (32 :: textR (d kJ) goodE) := by
  have h : (cutAt 32 (32 :: textR (d kJ) goodE)).length = 7 := by kernel_rfl
  intro k en hr hi he
  rw [← he, cut_text] at h
  unfold wordsT headW at h
  split at h <;> simp at h
end Go.Proofs.YtmagojckhfkcdaaGreatDoor.Sk
