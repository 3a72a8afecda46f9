/- Plain facts for chapter 38: pieces of bytes, and what is read of them. -/
import Derived.Test.YtmagojckhfkcdaaGreatDoorKpA
import Derived.Lib.SplitLaws
import Derived.Lib.Split
import Derived.Lib.IndexLaws
import Derived.Lib.IndexMore
namespace Go.Proofs.YtmagojckhfkcdaaGreatDoor.Sk
open Go
theorem cutAt_ne (c : UInt8) : ∀ s, cutAt c s ≠ []
  | [] => by simp [cutAt]
  | x :: r => by
    unfold cutAt
    split
    · simp
    · unfold onto
      split <;> simp
theorem index_hit (c : UInt8) (r : B) : Lib.index (c :: r) [c] = 0 := by simp [Lib.index]
theorem index_miss {c x : UInt8} (h : x ≠ c) (r : B) : Lib.index (x :: r) [c] = if Lib.index r [c] == -1 then -1 else Lib.index r [c] + 1 := by
  rw [Lib.index]
  have : ([c] : B).isPrefixOf (x :: r) = false := by simp [List.isPrefixOf, Ne.symm h]
  rw [this]
  simp
theorem splitK_one (c : UInt8) : ∀ (s : B) (k : Nat), k = s.count c → Lib.splitK [c] 0 k s = cutAt c s
  | [], k, h => by
    simp at h
    subst h
    rfl
  | x :: r, k, h => by
    by_cases hx : x = c
    · subst hx
      rw [List.count_cons_self] at h
      subst h
      have ih := splitK_one x r (r.count x) rfl
      rw [Lib.splitK, index_hit, if_neg (by decide), cutAt, if_pos rfl]
      simp only [Int.toNat_zero, List.length_singleton, Nat.zero_add, List.take_zero, List.drop_succ_cons, List.drop_zero]
      rw [ih]
    · rw [List.count_cons_of_ne (by simpa using hx)] at h
      have ih := splitK_one c r k h
      have hc : cutAt c (x :: r) = onto x (cutAt c r) := by rw [cutAt, if_neg hx]
      rw [hc, ← ih]
      cases k with
      | zero => rfl
      | succ k =>
        rw [Lib.splitK, Lib.splitK, index_miss hx]
        by_cases hi : Lib.index r [c] = -1
        · simp [hi, onto]
        · have hge := Lib.index_ge r [c]
          have h2 : ¬ (Lib.index r [c] == -1) = true := fun e => hi (beq_iff_eq.1 e)
          rw [if_neg h2, if_neg h2, if_neg (by intro e; have := beq_iff_eq.1 e; omega)]
          simp only [Nat.add_zero, List.length_singleton]
          rw [show (Lib.index r [c] + 1).toNat = (Lib.index r [c]).toNat + 1 by omega]
          simp [onto]
theorem split_one (c : UInt8) (s : B) : Lib.split s [c] = cutAt c s := by
  unfold Lib.split
  rw [Lib.count_one]
  exact splitK_one c s _ rfl
theorem cut_one (c : UInt8) : ∀ s : B, Lib.cut s [c] = match ahead c s with | none => (s, [], false) | some p => (p.1, p.2, true)
  | [] => by rfl
  | x :: r => by
    have ih := cut_one c r
    by_cases hx : x = c
    · subst hx
      simp [Lib.cut, index_hit, ahead]
    · have ha : ahead c (x :: r) = (ahead c r).map fun p => (x :: p.1, p.2) := by rw [ahead, if_neg hx]
      rw [ha]
      unfold Lib.cut at ih ⊢
      rw [index_miss hx]
      have hge := Lib.index_ge r [c]
      by_cases hi : Lib.index r [c] = -1
      · rw [hi] at ih ⊢
        rw [if_neg (by decide)] at ih
        cases h : ahead c r with
        | none => simp
        | some p => rw [h] at ih; simp at ih
      · have h2 : ¬ (Lib.index r [c] == -1) = true := fun e => hi (beq_iff_eq.1 e)
        rw [if_neg h2, if_pos (by omega)]
        rw [if_pos (by omega)] at ih
        cases h : ahead c r with
        | none => rw [h] at ih; simp at ih
        | some p =>
          rw [h] at ih
          simp only [Prod.mk.injEq, List.length_singleton] at ih
          simp only [Option.map_some, List.length_singleton]
          rw [show (Lib.index r [c] + 1).toNat = (Lib.index r [c]).toNat + 1 by omega]
          simp [ih.1, ih.2]
end Go.Proofs.YtmagojckhfkcdaaGreatDoor.Sk
