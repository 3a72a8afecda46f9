/- Chapter 38's texts: words, as plain functions. -/
import Derived.Test.YtiooimdncocfdaaGreatDoorKpA
namespace Go.Proofs.YtiooimdncocfdaaGreatDoor.Sk
/-- a digit of 16, in capitals -/
def hexU (n : Nat) : UInt8 := if n < 10 then UInt8.ofNat (48 + n) else UInt8.ofNat (55 + n)
/-- what stands for a byte in a word -/
def wordC (c : UInt8) : B := if c = 37 ∨ c < 33 ∨ 126 < c then [37, hexU (c.toNat / 16), hexU (c.toNat % 16)] else [c]
def wordS (s : B) : B := if s = [] then [45] else if s = [45] then [37, 50, 68] else s.flatMap wordC
theorem wordC_yes {c : UInt8} (h : c.toNat = 37 ∨ c.toNat < 33 ∨ 126 < c.toNat) : wordC c = [37, hexU (c.toNat / 16), hexU (c.toNat % 16)] := by
  unfold wordC
  refine if_pos ?_
  rcases h with h | h | h
  · exact .inl (UInt8.toNat_inj.1 h)
  · exact .inr (.inl (UInt8.lt_iff_toNat_lt.2 h))
  · exact .inr (.inr (UInt8.lt_iff_toNat_lt.2 h))
theorem wordC_37 {c : UInt8} (h : c.toNat = 37) : wordC c = [37, 50, 53] := by
  rw [wordC_yes (.inl h), h]
  rfl
theorem wordC_no {c : UInt8} (h1 : c.toNat ≠ 37) (h2 : 33 ≤ c.toNat) (h3 : c.toNat ≤ 126) : wordC c = [c] := by
  unfold wordC
  refine if_neg ?_
  rintro (h | h | h)
  · exact h1 (by rw [h]; rfl)
  · have := UInt8.lt_iff_toNat_lt.1 h; simp at this; omega
  · have := UInt8.lt_iff_toNat_lt.1 h; simp at this; omega
theorem wordC_len (c : UInt8) : (wordC c).length ≤ 3 := by
  unfold wordC
  split <;> simp
theorem wordF_len : ∀ s : B, (s.flatMap wordC).length ≤ 3 * s.length
  | [] => by simp
  | c :: s => by
    have := wordC_len c
    have := wordF_len s
    simp only [List.flatMap_cons, List.length_append, List.length_cons]
    omega
theorem wordF_step {s : B} {k : Nat} {c : UInt8} (h : s[k]? = some c) : (s.take (k + 1)).flatMap wordC = (s.take k).flatMap wordC ++ wordC c := by
  have : s.take (k + 1) = s.take k ++ [c] := by rw [List.take_add_one, h]; rfl
  rw [this, List.flatMap_append]
  simp
def hexT : ByteArray := ⟨#[48, 49, 50, 51, 52, 53, 54, 55, 56, 57, 65, 66, 67, 68, 69, 70]⟩
theorem hex_at : ∀ n : Nat, n < 16 → hexT.extract n (n + 1) = ⟨#[hexU n]⟩
  | 0, _ => by decide
  | 1, _ => by decide
  | 2, _ => by decide
  | 3, _ => by decide
  | 4, _ => by decide
  | 5, _ => by decide
  | 6, _ => by decide
  | 7, _ => by decide
  | 8, _ => by decide
  | 9, _ => by decide
  | 10, _ => by decide
  | 11, _ => by decide
  | 12, _ => by decide
  | 13, _ => by decide
  | 14, _ => by decide
  | 15, _ => by decide
  | n + 16, h => by omega
end Go.Proofs.YtiooimdncocfdaaGreatDoor.Sk
