/- Several parts in one text: PtP, PtR, PrR. -/
import Derived.Test.YtkjilodmmcefbaaGreatDoorRdA
import Derived.Test.YtkjilodmmcefbaaGreatDoorRfA
import Derived.Test.YtkjilodmmcefbaaGreatDoorEsR
import Derived.Test.YtkjilodmmcefbaaGreatDoorEcU
/- The reference's Point, in plain Lean: it is UTF-8's decoding. -/
namespace Go.Proofs.YtkjilodmmcefbaaGreatDoor.Rs
def cntB (t : List UInt8) (x0 : Int) : Nat → Option Int
  | 0 => some x0
  | k + 1 => match cntB t x0 k with
    | some x => if 128 ≤ bt t (k + 1) ∧ bt t (k + 1) ≤ 191 then some (64 * x + bt t (k + 1) - 128) else none
    | none => none
def ptE (t : List UInt8) (size : Nat) (least x0 : Int) : Int × Nat :=
  if t.length < size then (0, 0) else match cntB t x0 (size - 1) with
    | some x => if x < least ∨ pt x = false then (0, 0) else (x, size)
    | none => (0, 0)
/-- the point with which a string begins, and how many bytes it has; none of them if it does not begin with one -/
def ptP (t : List UInt8) : Int × Nat :=
  if t.length = 0 then (0, 0)
  else if bt t 0 < 128 then (bt t 0, 1)
  else if 192 ≤ bt t 0 ∧ bt t 0 < 224 then ptE t 2 128 (bt t 0 - 192)
  else if 224 ≤ bt t 0 ∧ bt t 0 < 240 then ptE t 3 2048 (bt t 0 - 224)
  else if 240 ≤ bt t 0 ∧ bt t 0 < 248 then ptE t 4 65536 (bt t 0 - 240)
  else (0, 0)
theorem cntB_no {t : List UInt8} {x0 : Int} {k : Nat} (h : cntB t x0 k = none) : ∀ j, cntB t x0 (k + j) = none
  | 0 => h
  | j + 1 => by rw [← Nat.add_assoc]; unfold cntB; rw [cntB_no h j]
theorem cntB_yes {t : List UInt8} {x0 x : Int} {k : Nat} (h : cntB t x0 k = some x) (hb : 128 ≤ bt t (k + 1) ∧ bt t (k + 1) ≤ 191) : cntB t x0 (k + 1) = some (64 * x + bt t (k + 1) - 128) := by
  unfold cntB; rw [h]; simp only; rw [if_pos hb]
theorem cntB_bad {t : List UInt8} {x0 x : Int} {k : Nat} (h : cntB t x0 k = some x) (hb : ¬ (128 ≤ bt t (k + 1) ∧ bt t (k + 1) ≤ 191)) : cntB t x0 (k + 1) = none := by
  unfold cntB; rw [h]; simp only; rw [if_neg hb]
theorem dec0 {n b0 b1 b2 b3 : Nat} (h : (128 ≤ b0 ∧ b0 < 192) ∨ 248 ≤ b0) (h' : b0 < 256) : Lib.decodeN n b0 b1 b2 b3 = (65533, 1) := by
  unfold Lib.decodeN
  rw [if_neg (by omega), if_neg (by omega), if_neg (by omega), if_neg (by omega)]
theorem dec2 {n b0 b1 b2 b3 : Nat} (h : 192 ≤ b0) (h' : b0 < 224) :
    Lib.decodeN n b0 b1 b2 b3 = if 1 < n ∧ 128 ≤ b1 ∧ b1 ≤ 191 ∧ 128 ≤ (b0 - 192) * 64 + (b1 - 128) then ((b0 - 192) * 64 + (b1 - 128), 2) else (65533, 1) := by
  unfold Lib.decodeN
  rw [if_neg (by omega)]
  by_cases hc : 1 < n ∧ b1 / 64 = 2
  · rw [if_pos ⟨by omega, hc⟩]
    have e : b0 % 32 * 64 + b1 % 64 = (b0 - 192) * 64 + (b1 - 128) := by omega
    rw [e]
    by_cases hd : 128 ≤ (b0 - 192) * 64 + (b1 - 128)
    · rw [if_pos hd, if_pos ⟨hc.1, by omega, by omega, hd⟩]
    · rw [if_neg hd, if_neg (fun x => hd x.2.2.2)]
  · rw [if_neg (fun x => hc x.2), if_neg (by omega), if_neg (by omega), if_neg (by omega)]
theorem dec3 {n b0 b1 b2 b3 : Nat} (h : 224 ≤ b0) (h' : b0 < 240) :
    Lib.decodeN n b0 b1 b2 b3 = if (2 < n ∧ 128 ≤ b1 ∧ b1 ≤ 191 ∧ 128 ≤ b2 ∧ b2 ≤ 191) ∧ 2048 ≤ ((b0 - 224) * 64 + (b1 - 128)) * 64 + (b2 - 128) ∧ (((b0 - 224) * 64 + (b1 - 128)) * 64 + (b2 - 128) < 55296 ∨ 57344 ≤ ((b0 - 224) * 64 + (b1 - 128)) * 64 + (b2 - 128) ∧ ((b0 - 224) * 64 + (b1 - 128)) * 64 + (b2 - 128) ≤ 1114111) then (((b0 - 224) * 64 + (b1 - 128)) * 64 + (b2 - 128), 3) else (65533, 1) := by
  unfold Lib.decodeN
  rw [if_neg (by omega), if_neg (by omega)]
  by_cases hc : (1 < n ∧ b1 / 64 = 2) ∧ (2 < n ∧ b2 / 64 = 2)
  · rw [if_pos ⟨by omega, hc⟩]
    have e : b0 % 16 * 4096 + b1 % 64 * 64 + b2 % 64 = ((b0 - 224) * 64 + (b1 - 128)) * 64 + (b2 - 128) := by omega
    rw [e]
    by_cases hd : 2048 ≤ ((b0 - 224) * 64 + (b1 - 128)) * 64 + (b2 - 128) ∧ (((b0 - 224) * 64 + (b1 - 128)) * 64 + (b2 - 128) < 55296 ∨ 57344 ≤ ((b0 - 224) * 64 + (b1 - 128)) * 64 + (b2 - 128) ∧ ((b0 - 224) * 64 + (b1 - 128)) * 64 + (b2 - 128) ≤ 1114111)
    · rw [if_pos hd, if_pos ⟨⟨hc.2.1, by omega, by omega, by omega, by omega⟩, hd⟩]
    · rw [if_neg hd, if_neg (fun x => hd x.2)]
  · rw [if_neg (fun x => hc x.2), if_neg (by omega), if_neg (by omega)]
theorem dec4 {n b0 b1 b2 b3 : Nat} (h : 240 ≤ b0) (h' : b0 < 248) :
    Lib.decodeN n b0 b1 b2 b3 = if (3 < n ∧ 128 ≤ b1 ∧ b1 ≤ 191 ∧ 128 ≤ b2 ∧ b2 ≤ 191 ∧ 128 ≤ b3 ∧ b3 ≤ 191) ∧ 65536 ≤ (((b0 - 240) * 64 + (b1 - 128)) * 64 + (b2 - 128)) * 64 + (b3 - 128) ∧ (((b0 - 240) * 64 + (b1 - 128)) * 64 + (b2 - 128)) * 64 + (b3 - 128) ≤ 1114111 then ((((b0 - 240) * 64 + (b1 - 128)) * 64 + (b2 - 128)) * 64 + (b3 - 128), 4) else (65533, 1) := by
  unfold Lib.decodeN
  rw [if_neg (by omega), if_neg (by omega), if_neg (by omega)]
  by_cases hc : (1 < n ∧ b1 / 64 = 2) ∧ (2 < n ∧ b2 / 64 = 2) ∧ (3 < n ∧ b3 / 64 = 2)
  · rw [if_pos ⟨by omega, hc⟩]
    have e : b0 % 8 * 262144 + b1 % 64 * 4096 + b2 % 64 * 64 + b3 % 64 = (((b0 - 240) * 64 + (b1 - 128)) * 64 + (b2 - 128)) * 64 + (b3 - 128) := by omega
    rw [e]
    by_cases hd : 65536 ≤ (((b0 - 240) * 64 + (b1 - 128)) * 64 + (b2 - 128)) * 64 + (b3 - 128) ∧ (((b0 - 240) * 64 + (b1 - 128)) * 64 + (b2 - 128)) * 64 + (b3 - 128) ≤ 1114111
    · rw [if_pos ⟨hd.1, .inr ⟨by omega, hd.2⟩⟩, if_pos ⟨⟨hc.2.2.1, by omega, by omega, by omega, by omega, by omega, by omega⟩, hd⟩]
    · rw [if_neg (fun x => hd ⟨x.1, by omega⟩), if_neg (fun x => hd x.2)]
  · rw [if_neg (fun x => hc x.2), if_neg (by omega)]
def isErr (d : Nat × Nat) : Prop := d.1 = 65533 ∧ d.2 ≤ 1
instance (d : Nat × Nat) : Decidable (isErr d) := inferInstanceAs (Decidable (_ ∧ _))
theorem ptP_nil : ptP [] = (0, 0) := rfl
theorem bt_nat (t : List UInt8) (i : Nat) : bt t i = (((t.getD i 0).toNat : Nat) : Int) := rfl
theorem isErr_e : isErr (65533, 1) := ⟨rfl, Nat.le_refl _⟩
theorem fin_err {D : Nat × Nat} (h : D = (65533, 1)) : ((0 : Int), (0 : Nat)) = if isErr D then (0, 0) else ((D.1 : Int), D.2) := by rw [h, if_pos isErr_e]
theorem fin_ok {D : Nat × Nat} {x : Int} {m c : Nat} (h : D = (c, m)) (hm : 1 < m) (hx : x = (c : Int)) : (x, m) = if isErr D then (0, 0) else ((D.1 : Int), D.2) := by
  rw [h, if_neg (fun y => by have := y.2; simp only at this; omega), hx]
theorem ptP_dec {t : List UInt8} (h : t ≠ []) : ptP t = if isErr (decS t) then (0, 0) else (((decS t).1 : Int), (decS t).2) := by
  have hl : t.length ≠ 0 := fun e => h (List.length_eq_zero_iff.1 e)
  have hd : decS t = Lib.decodeN t.length (t.getD 0 0).toNat (t.getD 1 0).toNat (t.getD 2 0).toNat (t.getD 3 0).toNat := by
    unfold decS; rw [if_neg h, Lib.decodeL_N]
  rw [hd]
  unfold ptP
  rw [if_neg hl]
  have r0 := (t.getD 0 0).toNat_lt
  have q0 := bt_nat t 0
  have q1 := bt_nat t 1
  have q2 := bt_nat t 2
  have q3 := bt_nat t 3
  generalize (t.getD 0 0).toNat = b0 at *
  generalize (t.getD 1 0).toNat = b1 at *
  generalize (t.getD 2 0).toNat = b2 at *
  generalize (t.getD 3 0).toNat = b3 at *
  rcases (show b0 < 128 ∨ ((128 ≤ b0 ∧ b0 < 192) ∨ 248 ≤ b0) ∨ (192 ≤ b0 ∧ b0 < 224) ∨ (224 ≤ b0 ∧ b0 < 240) ∨ (240 ≤ b0 ∧ b0 < 248) by omega) with c | c | ⟨c, c'⟩ | ⟨c, c'⟩ | ⟨c, c'⟩
  · have e : Lib.decodeN t.length b0 b1 b2 b3 = (b0, 1) := by unfold Lib.decodeN; rw [if_pos c]
    rw [if_pos (show bt t 0 < 128 by omega), e, if_neg (fun x => by have := x.1; simp only at this; omega), q0]
  · rw [if_neg (show ¬ bt t 0 < 128 by omega), if_neg (show ¬ (192 ≤ bt t 0 ∧ bt t 0 < 224) by omega), if_neg (show ¬ (224 ≤ bt t 0 ∧ bt t 0 < 240) by omega), if_neg (show ¬ (240 ≤ bt t 0 ∧ bt t 0 < 248) by omega)]
    exact fin_err (dec0 c r0)
  · rw [if_neg (show ¬ bt t 0 < 128 by omega), if_pos (show 192 ≤ bt t 0 ∧ bt t 0 < 224 from ⟨by omega, by omega⟩)]
    have hD := dec2 (n := t.length) (b1 := b1) (b2 := b2) (b3 := b3) c c'
    unfold ptE
    by_cases hn : t.length < 2
    · rw [if_pos hn]
      rw [if_neg (fun x => by omega)] at hD
      exact fin_err hD
    · rw [if_neg hn]
      by_cases k1 : 128 ≤ bt t 1 ∧ bt t 1 ≤ 191
      · have hc := cntB_yes (t := t) (x0 := bt t 0 - 192) (k := 0) rfl k1
        rw [show 2 - 1 = 0 + 1 from rfl, hc]
        simp only
        have ee : 64 * (bt t 0 - 192) + bt t (0 + 1) - 128 = (((b0 - 192) * 64 + (b1 - 128) : Nat) : Int) := by
          show 64 * (bt t 0 - 192) + bt t 1 - 128 = _
          omega
        rw [ee]
        generalize hM : (b0 - 192) * 64 + (b1 - 128) = M at *
        by_cases hx : 128 ≤ M
        · have hp : pt (M : Int) = true := by rw [pt_iff]; omega
          rw [if_neg (by rw [hp]; simp; omega)]
          rw [if_pos ⟨by omega, by omega, by omega, hx⟩] at hD
          exact fin_ok hD (by decide) rfl
        · rw [if_pos (show (M : Int) < 128 ∨ _ from .inl (by omega))]
          rw [if_neg (fun x => hx x.2.2.2)] at hD
          exact fin_err hD
      · rw [show 2 - 1 = 0 + 1 from rfl, cntB_bad (k := 0) rfl k1]
        rw [if_neg (fun x => k1 ⟨by omega, by omega⟩)] at hD
        exact fin_err hD
  · rw [if_neg (show ¬ bt t 0 < 128 by omega), if_neg (show ¬ (192 ≤ bt t 0 ∧ bt t 0 < 224) by omega), if_pos (show 224 ≤ bt t 0 ∧ bt t 0 < 240 from ⟨by omega, by omega⟩)]
    have hD := dec3 (n := t.length) (b1 := b1) (b2 := b2) (b3 := b3) c c'
    unfold ptE
    by_cases hn : t.length < 3
    · rw [if_pos hn]
      rw [if_neg (fun x => by omega)] at hD
      exact fin_err hD
    · rw [if_neg hn]
      by_cases k1 : 128 ≤ bt t 1 ∧ bt t 1 ≤ 191
      · have s1 := cntB_yes (t := t) (x0 := bt t 0 - 224) (k := 0) rfl k1
        by_cases k2 : 128 ≤ bt t 2 ∧ bt t 2 ≤ 191
        · rw [show 3 - 1 = 1 + 1 from rfl, cntB_yes (k := 1) s1 k2]
          simp only
          have ee : 64 * (64 * (bt t 0 - 224) + bt t (0 + 1) - 128) + bt t (1 + 1) - 128 = ((((b0 - 224) * 64 + (b1 - 128)) * 64 + (b2 - 128) : Nat) : Int) := by
            show 64 * (64 * (bt t 0 - 224) + bt t 1 - 128) + bt t 2 - 128 = _
            omega
          rw [ee]
          generalize hM : ((b0 - 224) * 64 + (b1 - 128)) * 64 + (b2 - 128) = M at *
          by_cases hx : 2048 ≤ M ∧ (M < 55296 ∨ 57344 ≤ M ∧ M ≤ 1114111)
          · have hp : pt (M : Int) = true := by rw [pt_iff]; omega
            rw [if_neg (by rw [hp]; simp; omega)]
            rw [if_pos ⟨⟨by omega, by omega, by omega, by omega, by omega⟩, hx⟩] at hD
            exact fin_ok hD (by decide) rfl
          · have hp : (M : Int) < 2048 ∨ pt (M : Int) = false := by
              by_cases h1 : (M : Int) < 2048
              · exact .inl h1
              · right
                have : ¬ pt (M : Int) = true := by rw [pt_iff]; omega
                simpa using this
            rw [if_pos hp]
            rw [if_neg (fun x => hx x.2)] at hD
            exact fin_err hD
        · rw [show 3 - 1 = 1 + 1 from rfl, cntB_bad (k := 1) s1 k2]
          rw [if_neg (fun x => k2 ⟨by omega, by omega⟩)] at hD
          exact fin_err hD
      · rw [show 3 - 1 = 1 + 1 from rfl, cntB_no (cntB_bad (k := 0) rfl k1) 1]
        rw [if_neg (fun x => k1 ⟨by omega, by omega⟩)] at hD
        exact fin_err hD
  · rw [if_neg (show ¬ bt t 0 < 128 by omega), if_neg (show ¬ (192 ≤ bt t 0 ∧ bt t 0 < 224) by omega), if_neg (show ¬ (224 ≤ bt t 0 ∧ bt t 0 < 240) by omega), if_pos (show 240 ≤ bt t 0 ∧ bt t 0 < 248 from ⟨by omega, by omega⟩)]
    have hD := dec4 (n := t.length) (b1 := b1) (b2 := b2) (b3 := b3) c c'
    unfold ptE
    by_cases hn : t.length < 4
    · rw [if_pos hn]
      rw [if_neg (fun x => by omega)] at hD
      exact fin_err hD
    · rw [if_neg hn]
      by_cases k1 : 128 ≤ bt t 1 ∧ bt t 1 ≤ 191
      · have s1 := cntB_yes (t := t) (x0 := bt t 0 - 240) (k := 0) rfl k1
        by_cases k2 : 128 ≤ bt t 2 ∧ bt t 2 ≤ 191
        · have s2 := cntB_yes (k := 1) s1 k2
          by_cases k3 : 128 ≤ bt t 3 ∧ bt t 3 ≤ 191
          · rw [show 4 - 1 = 2 + 1 from rfl, cntB_yes (k := 2) s2 k3]
            simp only
            have ee : 64 * (64 * (64 * (bt t 0 - 240) + bt t (0 + 1) - 128) + bt t (1 + 1) - 128) + bt t (2 + 1) - 128 = (((((b0 - 240) * 64 + (b1 - 128)) * 64 + (b2 - 128)) * 64 + (b3 - 128) : Nat) : Int) := by
              show 64 * (64 * (64 * (bt t 0 - 240) + bt t 1 - 128) + bt t 2 - 128) + bt t 3 - 128 = _
              omega
            rw [ee]
            generalize hM : (((b0 - 240) * 64 + (b1 - 128)) * 64 + (b2 - 128)) * 64 + (b3 - 128) = M at *
            by_cases hx : 65536 ≤ M ∧ M ≤ 1114111
            · have hp : pt (M : Int) = true := by rw [pt_iff]; omega
              rw [if_neg (by rw [hp]; simp; omega)]
              rw [if_pos ⟨⟨by omega, by omega, by omega, by omega, by omega, by omega, by omega⟩, hx⟩] at hD
              exact fin_ok hD (by decide) rfl
            · have hp : (M : Int) < 65536 ∨ pt (M : Int) = false := by
                by_cases h1 : (M : Int) < 65536
                · exact .inl h1
                · right
                  have : ¬ pt (M : Int) = true := by rw [pt_iff]; omega
                  simpa using this
              rw [if_pos hp]
              rw [if_neg (fun x => hx x.2)] at hD
              exact fin_err hD
          · rw [show 4 - 1 = 2 + 1 from rfl, cntB_bad (k := 2) s2 k3]
            rw [if_neg (fun x => k3 ⟨by omega, by omega⟩)] at hD
            exact fin_err hD
        · rw [show 4 - 1 = 1 + 1 + 1 from rfl, cntB_no (cntB_bad (k := 1) s1 k2) 1]
          rw [if_neg (fun x => k2 ⟨by omega, by omega⟩)] at hD
          exact fin_err hD
      · rw [show 4 - 1 = 0 + 1 + 2 from rfl, cntB_no (cntB_bad (k := 0) rfl k1) 2]
        rw [if_neg (fun x => k1 ⟨by omega, by omega⟩)] at hD
        exact fin_err hD
/-- a class's part in the reference's words -/
theorem partS_ptP {t : List UInt8} (h0 : bt t 0 ≠ 92) : partS t = if 0 < (ptP t).2 ∧ (ptP t).1 ≠ 91 ∧ (ptP t).1 ≠ 93 ∧ (ptP t).1 ≠ 45 then some (ptP t) else none := by
  unfold partS
  by_cases hl : t.length = 0
  · obtain rfl := List.length_eq_zero_iff.1 hl
    rfl
  · rw [if_neg hl, if_neg h0]
    have hne : t ≠ [] := fun e => hl (by rw [e]; rfl)
    have hok := decS_ok hne
    rw [ptP_dec hne]
    by_cases he : isErr (decS t)
    · rw [if_pos he, if_neg (fun x => by rcases x.1 with y | y; exact y he.1; have := he.2; omega), if_neg (by simp)]
    · have h1 : (decS t).1 ≠ 65533 ∨ 1 < (decS t).2 := by
        by_cases a : (decS t).1 = 65533
        · right
          by_cases b : 1 < (decS t).2
          · exact b
          · exact (he ⟨a, by omega⟩).elim
        · exact .inl a
      rw [if_neg he]
      by_cases hb : (decS t).1 ≠ 91 ∧ (decS t).1 ≠ 93 ∧ (decS t).1 ≠ 45
      · rw [if_pos ⟨h1, hb⟩, if_pos ⟨by simp only; omega, by simp only; omega, by simp only; omega, by simp only; omega⟩]
      · rw [if_neg (fun x => hb x.2), if_neg (fun x => hb ⟨by have := x.2.1; simp only at this; omega, by have := x.2.2.1; simp only at this; omega, by have := x.2.2.2; simp only at this; omega⟩)]
end Go.Proofs.YtkjilodmmcefbaaGreatDoor.Rs
/- The reference's Point. -/
namespace Go.Proofs.YtkjilodmmcefbaaGreatDoor
open Go.RowKit Go.Shelf
namespace Rs
theorem ptE_bad {L : List UInt8} {m k : Nat} {least x0 : Int} (h : cntB L x0 (k + 1) = none) (hk : k + 2 ≤ m) : ptE L m least x0 = (0, 0) := by
  unfold ptE
  have := cntB_no h (m - 1 - (k + 1))
  rw [show k + 1 + (m - 1 - (k + 1)) = m - 1 by omega] at this
  rw [this]
  split <;> rfl
theorem ptE_end {L : List UInt8} {m : Nat} {least x0 x : Int} (h : cntB L x0 (m - 1) = some x) (hl : m ≤ L.length) : ptE L m least x0 = if x < least ∨ pt x = false then (0, 0) else (x, m) := by
  unfold ptE
  rw [if_neg (by omega), h]
theorem ptP_2 {L : List UInt8} (hl : L.length ≠ 0) (h : 192 ≤ bt L 0 ∧ bt L 0 < 224) : ptP L = ptE L 2 128 (bt L 0 - 192) := by
  unfold ptP; rw [if_neg hl, if_neg (by omega), if_pos h]
theorem ptP_3 {L : List UInt8} (hl : L.length ≠ 0) (h : 224 ≤ bt L 0 ∧ bt L 0 < 240) : ptP L = ptE L 3 2048 (bt L 0 - 224) := by
  unfold ptP; rw [if_neg hl, if_neg (by omega), if_neg (by omega), if_pos h]
theorem ptP_4 {L : List UInt8} (hl : L.length ≠ 0) (h : 240 ≤ bt L 0 ∧ bt L 0 < 248) : ptP L = ptE L 4 65536 (bt L 0 - 240) := by
  unfold ptP; rw [if_neg hl, if_neg (by omega), if_neg (by omega), if_neg (by omega), if_pos h]
theorem ptP_0 {L : List UInt8} (h : (128 ≤ bt L 0 ∧ bt L 0 < 192) ∨ 248 ≤ bt L 0) : ptP L = (0, 0) := by
  unfold ptP
  split
  · rfl
  · rw [if_neg (by omega), if_neg (by omega), if_neg (by omega), if_neg (by omega)]
theorem ptP_1 {L : List UInt8} (hl : L.length ≠ 0) (h : bt L 0 < 128) : ptP L = (bt L 0, 1) := by
  unfold ptP; rw [if_neg hl, if_pos h]
end Rs
/-- what Point gives back -/
def PntR (L : List UInt8) (w : World) (e : Ending) (w' : World) : Prop := e = .returned (.tuple #[.int .i64 (Rs.ptP L).1, .int .i64 (Rs.ptP L).2]) ∧ ∃ n, w' = w.drewN n
theorem PntR.of {L : List UInt8} {w : World} {c : Int} {n : Nat} (h : Rs.ptP L = (c, n)) (q : Nat) : PntR L w (.returned (.tuple #[.int .i64 c, .int .i64 (n : Int)])) (w.drewN q) := by
  unfold PntR
  rw [h]
  exact ⟨rfl, q, rfl⟩
theorem PntR.no {L : List UInt8} {w : World} (h : Rs.ptP L = (0, 0)) : PntR L w (.returned (.tuple #[.int .i64 0, .int .i64 0])) w := PntR.of h 0
theorem PntR.yes {L : List UInt8} {w : World} {c : Int} {n : Nat} (h : Rs.ptP L = (c, n)) : PntR L w (.returned (.tuple #[.int .i64 c, .int .i64 (n : Int)])) w := PntR.of h 0
def PtI (L : List UInt8) (x0 : Int) (w : World) (m : Nat) (b i : Value) (wr : World) : Prop :=
  ∃ (k : Nat) (x : Int), k < m ∧ b = .int .i64 x ∧ i = .int .i64 ((k + 1 : Nat) : Int) ∧ Rs.cntB L x0 k = some x ∧ 0 ≤ x ∧ x < 32 * 64 ^ k ∧ wr = w
theorem PtI.next {L : List UInt8} {x0 x b : Int} {w : World} {m k : Nat} (hk : k + 1 < m) (hc : Rs.cntB L x0 k = some x) (h0 : 0 ≤ x) (h1 : x < 32 * 64 ^ k) (hb : Rs.bt L (k + 1) = b) (hq : 128 ≤ b ∧ b ≤ 191) : PtI L x0 w m (.int .i64 (64 * x + b - 128)) (.int .i64 ((k : Int) + 1 + 1)) w := by
  subst hb
  refine ⟨k + 1, _, hk, rfl, by rw [Int.natCast_add, Int.natCast_add]; rfl, Rs.cntB_yes hc hq, by omega, ?_, rfl⟩
  rw [Int.pow_succ]
  omega
set_option maxRecDepth 100000 in
set_option maxHeartbeats 1000000 in
theorem rpt_low (s : ByteArray) (w : World) (h : s.size = 0 ∨ ∃ g0 : 0 < s.size, (s[0]'g0).toNat < 128 ∨ (128 ≤ (s[0]'g0).toNat ∧ (s[0]'g0).toNat < 192) ∨ 248 ≤ (s[0]'g0).toNat) :
    Calls Tryz.prog 118 #[.string s] w (PntR s.data.toList w) := by
  have hlen : s.data.toList.length = s.size := by rw [Lib.size_eq]
  rcases h with h | ⟨g0, h | h | h⟩
  · have HE := Lib.hid (show Rs.ptP s.data.toList = (0, 0) by unfold Rs.ptP; rw [if_pos (by omega)])
    clear hlen
    go_enter Tryz.func118, Tryz.ntmps118
    go_wp2
    go_ret2
    exact PntR.no HE.out
  · have HE := Lib.hid (Rs.ptP_1 (L := s.data.toList) (by omega) (by rw [Rs.esc_get g0]; omega))
    rw [Rs.esc_get g0] at HE
    have hw : IntKind.i64.wrap ((s[0]'g0).toNat : Int) = ((s[0]'g0).toNat : Int) := by rw [IntKind.wrap_i64]; omega
    clear hlen
    go_enter Tryz.func118, Tryz.ntmps118
    go_wp2
    go_ret2
    exact PntR.yes HE.out
  · have HE := Lib.hid (Rs.ptP_0 (L := s.data.toList) (.inl (by rw [Rs.esc_get g0]; omega)))
    have hw : IntKind.i64.wrap ((s[0]'g0).toNat : Int) = ((s[0]'g0).toNat : Int) := by rw [IntKind.wrap_i64]; omega
    have c1 := h.1
    have c2 := h.2
    clear hlen h
    go_enter Tryz.func118, Tryz.ntmps118
    go_wp2
    go_ret2
    exact PntR.no HE.out
  · have HE := Lib.hid (Rs.ptP_0 (L := s.data.toList) (.inr (by rw [Rs.esc_get g0]; omega)))
    have hb := (s[0]'g0).toNat_lt
    have hw : IntKind.i64.wrap ((s[0]'g0).toNat : Int) = ((s[0]'g0).toNat : Int) := by rw [IntKind.wrap_i64]; omega
    clear hlen
    go_enter Tryz.func118, Tryz.ntmps118
    go_wp2
    go_ret2
    exact PntR.no HE.out
set_option maxRecDepth 100000 in
set_option maxHeartbeats 2000000 in
theorem rpt_2 (s : ByteArray) (w : World) (g0 : 0 < s.size) (hlo : 192 ≤ (s[0]'g0).toNat) (hhi : (s[0]'g0).toNat < 224) :
    Calls Tryz.prog 118 #[.string s] w (PntR s.data.toList w) := by
  have hlen : s.data.toList.length = s.size := by rw [Lib.size_eq]
  have hP := Rs.ptP_2 (L := s.data.toList) (by omega) (by rw [Rs.esc_get g0]; omega)
  rw [Rs.esc_get g0] at hP
  have hw : IntKind.i64.wrap ((s[0]'g0).toNat : Int) = ((s[0]'g0).toNat : Int) := by rw [IntKind.wrap_i64]; omega
  have hw' : IntKind.i64.wrap (((s[0]'g0).toNat : Int) - 192) = ((s[0]'g0).toNat : Int) - 192 := by rw [IntKind.wrap_i64]; omega
  have dd0 : decide (((s[0]'g0).toNat : Int) < 128) = false := by simp; omega
  have dd1 : decide (((s[0]'g0).toNat : Int) < 224) = true := by simp; omega
  have dd2 : decide ((192 : Int) ≤ ((s[0]'g0).toNat : Int)) = true := by simp; omega
  by_cases hsz : s.size < 2
  · have HE := Lib.hid (show Rs.ptP s.data.toList = (0, 0) by rw [hP]; unfold Rs.ptE; rw [if_pos (by omega)])
    clear hP hlen
    go_enter Tryz.func118, Tryz.ntmps118
    go_wp2
    go_ret2
    exact PntR.no HE.out
  · have hge : 2 ≤ s.size := by omega
    have de : ((s.size : Int) == 0) = false := beq_eq_false_iff_ne.2 (by omega)
    have df : decide ((s.size : Int) < 2) = false := decide_eq_false (by omega)
    have HP := Lib.hid (And.intro hP hlen)
    have HS : Hid (PtI s.data.toList (((s[0]'g0).toNat : Int) - 192) w 2 (.int .i64 (((s[0]'g0).toNat : Int) - 192)) (.int .i64 1) w) := Lib.hid ⟨0, _, by decide, rfl, rfl, rfl, by omega, by simp; omega, rfl⟩
    clear hP hlen hsz
    go_enter Tryz.func118, Tryz.ntmps118
    go_wp2
    obtain ⟨x0, hx0'⟩ : ∃ x0, ((s[0]'g0).toNat : Int) - 192 = x0 := ⟨_, rfl⟩
    rw [hx0'] at HP HS
    try rw [hx0']
    clear hx0' hw hw' hlo hhi
    go_loopw [4, 7] (fun b i wr => PtI s.data.toList x0 w 2 b i wr) (fun _ i _ => 2 - (intOf i).toNat)
    case atStart => exact HS.out
    case round =>
      clear HS
      obtain ⟨k, x, hk, rfl, rfl, hc, hx0, hx1, rfl⟩ := hrel
      have hx2 : x < 8388608 := by
        have h6 : (64 : Int) ^ k ≤ 64 ^ 3 := by
          have h7 : (64 : Nat) ^ k ≤ 64 ^ 3 := Nat.pow_le_pow_right (by decide) (by omega)
          exact_mod_cast h7
        have h8 : (64 : Int) ^ 3 = 262144 := rfl
        omega
      have HC := Lib.hid (And.intro hc hx1)
      clear hc hx1
      by_cases hlast : k + 1 < 2
      · have hi : k + 1 < s.size := by omega
        have hb0 := (s[k + 1]'hi).toNat_lt
        have hbt := Lib.hid (Rs.esc_get hi)
        have hkk : ((k + 1 : Nat) : Int) = (k : Int) + 1 := by omega
        have hwc : IntKind.i64.wrap ((s[k + 1]'hi).toNat : Int) = ((s[k + 1]'hi).toNat : Int) := by rw [IntKind.wrap_i64]; omega
        have hw1 : IntKind.i64.wrap (64 * x) = 64 * x := by rw [IntKind.wrap_i64]; omega
        have hw2 : IntKind.i64.wrap (64 * x + ((s[k + 1]'hi).toNat : Int)) = 64 * x + ((s[k + 1]'hi).toNat : Int) := by rw [IntKind.wrap_i64]; omega
        have hw3 : IntKind.i64.wrap (64 * x + ((s[k + 1]'hi).toNat : Int) - 128) = 64 * x + ((s[k + 1]'hi).toNat : Int) - 128 := by rw [IntKind.wrap_i64]; omega
        rcases (show (s[k + 1]'hi).toNat < 128 ∨ 191 < (s[k + 1]'hi).toNat ∨ (128 ≤ (s[k + 1]'hi).toNat ∧ (s[k + 1]'hi).toNat ≤ 191) by omega) with h1 | h1 | ⟨h1, h2⟩
        · have HE := Lib.hid (show Rs.ptP s.data.toList = (0, 0) by rw [HP.out.1]; exact Rs.ptE_bad (Rs.cntB_bad HC.out.1 (by rw [hbt.out]; omega)) (by omega))
          go_wp2
          go_ret2
          exact PntR.no HE.out
        · have HE := Lib.hid (show Rs.ptP s.data.toList = (0, 0) by rw [HP.out.1]; exact Rs.ptE_bad (Rs.cntB_bad HC.out.1 (by rw [hbt.out]; omega)) (by omega))
          go_wp2
          go_ret2
          exact PntR.no HE.out
        · have HE := Lib.hid (PtI.next (w := wr) (m := 2) hlast HC.out.1 hx0 HC.out.2 hbt.out ⟨by omega, by omega⟩)
          go_wp2
          go_roundw
          case rel => exact HE.out
          case measure => simp [intOf]; omega
      · obtain rfl : k = 1 := by omega
        have hE := Rs.ptE_end (least := 128) HC.out.1 (by rw [HP.out.2]; exact hge)
        have hp := fun W => ref_point_quiet x W
        by_cases h1 : x < 128
        · have HE := Lib.hid (show Rs.ptP s.data.toList = (0, 0) by rw [HP.out.1, hE, if_pos (.inl h1)])
          clear hE
          go_wp2
          go_ret2
          exact PntR.no HE.out
        · cases hpt : Rs.pt x with
          | false =>
            rw [hpt] at hp
            have HE := Lib.hid (show Rs.ptP s.data.toList = (0, 0) by rw [HP.out.1, hE, if_pos (.inr hpt)])
            clear hE hpt
            go_wp2_with (go_at_call 78; refine (hp _).mono ?_; rintro e w1 ⟨rfl, rfl⟩)
            go_ret2
            exact PntR.no HE.out
          | true =>
            rw [hpt] at hp
            have HE := Lib.hid (show Rs.ptP s.data.toList = (x, 2) by rw [HP.out.1, hE, if_neg (by rw [hpt]; simpa using h1)])
            clear hE hpt
            go_wp2_with (go_at_call 78; refine (hp _).mono ?_; rintro e w1 ⟨rfl, rfl⟩)
            go_ret2
            exact PntR.yes HE.out
set_option maxRecDepth 100000 in
set_option maxHeartbeats 2000000 in
theorem rpt_3 (s : ByteArray) (w : World) (g0 : 0 < s.size) (hlo : 224 ≤ (s[0]'g0).toNat) (hhi : (s[0]'g0).toNat < 240) :
    Calls Tryz.prog 118 #[.string s] w (PntR s.data.toList w) := by
  have hlen : s.data.toList.length = s.size := by rw [Lib.size_eq]
  have hP := Rs.ptP_3 (L := s.data.toList) (by omega) (by rw [Rs.esc_get g0]; omega)
  rw [Rs.esc_get g0] at hP
  have hw : IntKind.i64.wrap ((s[0]'g0).toNat : Int) = ((s[0]'g0).toNat : Int) := by rw [IntKind.wrap_i64]; omega
  have hw' : IntKind.i64.wrap (((s[0]'g0).toNat : Int) - 224) = ((s[0]'g0).toNat : Int) - 224 := by rw [IntKind.wrap_i64]; omega
  have dd0 : decide (((s[0]'g0).toNat : Int) < 128) = false := by simp; omega
  have dd1 : decide (((s[0]'g0).toNat : Int) < 224) = false := by simp; omega
  have dd2 : decide (((s[0]'g0).toNat : Int) < 240) = true := by simp; omega
  have dd3 : decide ((192 : Int) ≤ ((s[0]'g0).toNat : Int)) = true := by simp; omega
  have dd4 : decide ((224 : Int) ≤ ((s[0]'g0).toNat : Int)) = true := by simp; omega
  by_cases hsz : s.size < 3
  · have HE := Lib.hid (show Rs.ptP s.data.toList = (0, 0) by rw [hP]; unfold Rs.ptE; rw [if_pos (by omega)])
    clear hP hlen
    go_enter Tryz.func118, Tryz.ntmps118
    go_wp2
    go_ret2
    exact PntR.no HE.out
  · have hge : 3 ≤ s.size := by omega
    have de : ((s.size : Int) == 0) = false := beq_eq_false_iff_ne.2 (by omega)
    have df : decide ((s.size : Int) < 3) = false := decide_eq_false (by omega)
    have HP := Lib.hid (And.intro hP hlen)
    have HS : Hid (PtI s.data.toList (((s[0]'g0).toNat : Int) - 224) w 3 (.int .i64 (((s[0]'g0).toNat : Int) - 224)) (.int .i64 1) w) := Lib.hid ⟨0, _, by decide, rfl, rfl, rfl, by omega, by simp; omega, rfl⟩
    clear hP hlen hsz
    go_enter Tryz.func118, Tryz.ntmps118
    go_wp2
    obtain ⟨x0, hx0'⟩ : ∃ x0, ((s[0]'g0).toNat : Int) - 224 = x0 := ⟨_, rfl⟩
    rw [hx0'] at HP HS
    try rw [hx0']
    clear hx0' hw hw' hlo hhi
    go_loopw [4, 7] (fun b i wr => PtI s.data.toList x0 w 3 b i wr) (fun _ i _ => 3 - (intOf i).toNat)
    case atStart => exact HS.out
    case round =>
      clear HS
      obtain ⟨k, x, hk, rfl, rfl, hc, hx0, hx1, rfl⟩ := hrel
      have hx2 : x < 8388608 := by
        have h6 : (64 : Int) ^ k ≤ 64 ^ 3 := by
          have h7 : (64 : Nat) ^ k ≤ 64 ^ 3 := Nat.pow_le_pow_right (by decide) (by omega)
          exact_mod_cast h7
        have h8 : (64 : Int) ^ 3 = 262144 := rfl
        omega
      have HC := Lib.hid (And.intro hc hx1)
      clear hc hx1
      by_cases hlast : k + 1 < 3
      · have hi : k + 1 < s.size := by omega
        have hb0 := (s[k + 1]'hi).toNat_lt
        have hbt := Lib.hid (Rs.esc_get hi)
        have hkk : ((k + 1 : Nat) : Int) = (k : Int) + 1 := by omega
        have hwc : IntKind.i64.wrap ((s[k + 1]'hi).toNat : Int) = ((s[k + 1]'hi).toNat : Int) := by rw [IntKind.wrap_i64]; omega
        have hw1 : IntKind.i64.wrap (64 * x) = 64 * x := by rw [IntKind.wrap_i64]; omega
        have hw2 : IntKind.i64.wrap (64 * x + ((s[k + 1]'hi).toNat : Int)) = 64 * x + ((s[k + 1]'hi).toNat : Int) := by rw [IntKind.wrap_i64]; omega
        have hw3 : IntKind.i64.wrap (64 * x + ((s[k + 1]'hi).toNat : Int) - 128) = 64 * x + ((s[k + 1]'hi).toNat : Int) - 128 := by rw [IntKind.wrap_i64]; omega
        rcases (show (s[k + 1]'hi).toNat < 128 ∨ 191 < (s[k + 1]'hi).toNat ∨ (128 ≤ (s[k + 1]'hi).toNat ∧ (s[k + 1]'hi).toNat ≤ 191) by omega) with h1 | h1 | ⟨h1, h2⟩
        · have HE := Lib.hid (show Rs.ptP s.data.toList = (0, 0) by rw [HP.out.1]; exact Rs.ptE_bad (Rs.cntB_bad HC.out.1 (by rw [hbt.out]; omega)) (by omega))
          go_wp2
          go_ret2
          exact PntR.no HE.out
        · have HE := Lib.hid (show Rs.ptP s.data.toList = (0, 0) by rw [HP.out.1]; exact Rs.ptE_bad (Rs.cntB_bad HC.out.1 (by rw [hbt.out]; omega)) (by omega))
          go_wp2
          go_ret2
          exact PntR.no HE.out
        · have HE := Lib.hid (PtI.next (w := wr) (m := 3) hlast HC.out.1 hx0 HC.out.2 hbt.out ⟨by omega, by omega⟩)
          go_wp2
          go_roundw
          case rel => exact HE.out
          case measure => simp [intOf]; omega
      · obtain rfl : k = 2 := by omega
        have hE := Rs.ptE_end (least := 2048) HC.out.1 (by rw [HP.out.2]; exact hge)
        have hp := fun W => ref_point_quiet x W
        by_cases h1 : x < 2048
        · have HE := Lib.hid (show Rs.ptP s.data.toList = (0, 0) by rw [HP.out.1, hE, if_pos (.inl h1)])
          clear hE
          go_wp2
          go_ret2
          exact PntR.no HE.out
        · cases hpt : Rs.pt x with
          | false =>
            rw [hpt] at hp
            have HE := Lib.hid (show Rs.ptP s.data.toList = (0, 0) by rw [HP.out.1, hE, if_pos (.inr hpt)])
            clear hE hpt
            go_wp2_with (go_at_call 78; refine (hp _).mono ?_; rintro e w1 ⟨rfl, rfl⟩)
            go_ret2
            exact PntR.no HE.out
          | true =>
            rw [hpt] at hp
            have HE := Lib.hid (show Rs.ptP s.data.toList = (x, 3) by rw [HP.out.1, hE, if_neg (by rw [hpt]; simpa using h1)])
            clear hE hpt
            go_wp2_with (go_at_call 78; refine (hp _).mono ?_; rintro e w1 ⟨rfl, rfl⟩)
            go_ret2
            exact PntR.yes HE.out
set_option maxRecDepth 100000 in
set_option maxHeartbeats 2000000 in
theorem rpt_4 (s : ByteArray) (w : World) (g0 : 0 < s.size) (hlo : 240 ≤ (s[0]'g0).toNat) (hhi : (s[0]'g0).toNat < 248) :
    Calls Tryz.prog 118 #[.string s] w (PntR s.data.toList w) := by
  have hlen : s.data.toList.length = s.size := by rw [Lib.size_eq]
  have hP := Rs.ptP_4 (L := s.data.toList) (by omega) (by rw [Rs.esc_get g0]; omega)
  rw [Rs.esc_get g0] at hP
  have hw : IntKind.i64.wrap ((s[0]'g0).toNat : Int) = ((s[0]'g0).toNat : Int) := by rw [IntKind.wrap_i64]; omega
  have hw' : IntKind.i64.wrap (((s[0]'g0).toNat : Int) - 240) = ((s[0]'g0).toNat : Int) - 240 := by rw [IntKind.wrap_i64]; omega
  have dd0 : decide (((s[0]'g0).toNat : Int) < 128) = false := by simp; omega
  have dd1 : decide (((s[0]'g0).toNat : Int) < 224) = false := by simp; omega
  have dd2 : decide (((s[0]'g0).toNat : Int) < 240) = false := by simp; omega
  have dd3 : decide (((s[0]'g0).toNat : Int) < 248) = true := by simp; omega
  have dd4 : decide ((192 : Int) ≤ ((s[0]'g0).toNat : Int)) = true := by simp; omega
  have dd5 : decide ((224 : Int) ≤ ((s[0]'g0).toNat : Int)) = true := by simp; omega
  have dd6 : decide ((240 : Int) ≤ ((s[0]'g0).toNat : Int)) = true := by simp; omega
  by_cases hsz : s.size < 4
  · have HE := Lib.hid (show Rs.ptP s.data.toList = (0, 0) by rw [hP]; unfold Rs.ptE; rw [if_pos (by omega)])
    clear hP hlen
    go_enter Tryz.func118, Tryz.ntmps118
    go_wp2
    go_ret2
    exact PntR.no HE.out
  · have hge : 4 ≤ s.size := by omega
    have de : ((s.size : Int) == 0) = false := beq_eq_false_iff_ne.2 (by omega)
    have df : decide ((s.size : Int) < 4) = false := decide_eq_false (by omega)
    have HP := Lib.hid (And.intro hP hlen)
    have HS : Hid (PtI s.data.toList (((s[0]'g0).toNat : Int) - 240) w 4 (.int .i64 (((s[0]'g0).toNat : Int) - 240)) (.int .i64 1) w) := Lib.hid ⟨0, _, by decide, rfl, rfl, rfl, by omega, by simp; omega, rfl⟩
    clear hP hlen hsz
    go_enter Tryz.func118, Tryz.ntmps118
    go_wp2
    obtain ⟨x0, hx0'⟩ : ∃ x0, ((s[0]'g0).toNat : Int) - 240 = x0 := ⟨_, rfl⟩
    rw [hx0'] at HP HS
    try rw [hx0']
    clear hx0' hw hw' hlo hhi
    go_loopw [4, 7] (fun b i wr => PtI s.data.toList x0 w 4 b i wr) (fun _ i _ => 4 - (intOf i).toNat)
    case atStart => exact HS.out
    case round =>
      clear HS
      obtain ⟨k, x, hk, rfl, rfl, hc, hx0, hx1, rfl⟩ := hrel
      have hx2 : x < 8388608 := by
        have h6 : (64 : Int) ^ k ≤ 64 ^ 3 := by
          have h7 : (64 : Nat) ^ k ≤ 64 ^ 3 := Nat.pow_le_pow_right (by decide) (by omega)
          exact_mod_cast h7
        have h8 : (64 : Int) ^ 3 = 262144 := rfl
        omega
      have HC := Lib.hid (And.intro hc hx1)
      clear hc hx1
      by_cases hlast : k + 1 < 4
      · have hi : k + 1 < s.size := by omega
        have hb0 := (s[k + 1]'hi).toNat_lt
        have hbt := Lib.hid (Rs.esc_get hi)
        have hkk : ((k + 1 : Nat) : Int) = (k : Int) + 1 := by omega
        have hwc : IntKind.i64.wrap ((s[k + 1]'hi).toNat : Int) = ((s[k + 1]'hi).toNat : Int) := by rw [IntKind.wrap_i64]; omega
        have hw1 : IntKind.i64.wrap (64 * x) = 64 * x := by rw [IntKind.wrap_i64]; omega
        have hw2 : IntKind.i64.wrap (64 * x + ((s[k + 1]'hi).toNat : Int)) = 64 * x + ((s[k + 1]'hi).toNat : Int) := by rw [IntKind.wrap_i64]; omega
        have hw3 : IntKind.i64.wrap (64 * x + ((s[k + 1]'hi).toNat : Int) - 128) = 64 * x + ((s[k + 1]'hi).toNat : Int) - 128 := by rw [IntKind.wrap_i64]; omega
        rcases (show (s[k + 1]'hi).toNat < 128 ∨ 191 < (s[k + 1]'hi).toNat ∨ (128 ≤ (s[k + 1]'hi).toNat ∧ (s[k + 1]'hi).toNat ≤ 191) by omega) with h1 | h1 | ⟨h1, h2⟩
        · have HE := Lib.hid (show Rs.ptP s.data.toList = (0, 0) by rw [HP.out.1]; exact Rs.ptE_bad (Rs.cntB_bad HC.out.1 (by rw [hbt.out]; omega)) (by omega))
          go_wp2
          go_ret2
          exact PntR.no HE.out
        · have HE := Lib.hid (show Rs.ptP s.data.toList = (0, 0) by rw [HP.out.1]; exact Rs.ptE_bad (Rs.cntB_bad HC.out.1 (by rw [hbt.out]; omega)) (by omega))
          go_wp2
          go_ret2
          exact PntR.no HE.out
        · have HE := Lib.hid (PtI.next (w := wr) (m := 4) hlast HC.out.1 hx0 HC.out.2 hbt.out ⟨by omega, by omega⟩)
          go_wp2
          go_roundw
          case rel => exact HE.out
          case measure => simp [intOf]; omega
      · obtain rfl : k = 3 := by omega
        have hE := Rs.ptE_end (least := 65536) HC.out.1 (by rw [HP.out.2]; exact hge)
        have hp := fun W => ref_point_quiet x W
        by_cases h1 : x < 65536
        · have HE := Lib.hid (show Rs.ptP s.data.toList = (0, 0) by rw [HP.out.1, hE, if_pos (.inl h1)])
          clear hE
          go_wp2
          go_ret2
          exact PntR.no HE.out
        · cases hpt : Rs.pt x with
          | false =>
            rw [hpt] at hp
            have HE := Lib.hid (show Rs.ptP s.data.toList = (0, 0) by rw [HP.out.1, hE, if_pos (.inr hpt)])
            clear hE hpt
            go_wp2_with (go_at_call 78; refine (hp _).mono ?_; rintro e w1 ⟨rfl, rfl⟩)
            go_ret2
            exact PntR.no HE.out
          | true =>
            rw [hpt] at hp
            have HE := Lib.hid (show Rs.ptP s.data.toList = (x, 4) by rw [HP.out.1, hE, if_neg (by rw [hpt]; simpa using h1)])
            clear hE hpt
            go_wp2_with (go_at_call 78; refine (hp _).mono ?_; rintro e w1 ⟨rfl, rfl⟩)
            go_ret2
            exact PntR.yes HE.out
theorem rpoint_calls (s : ByteArray) (w : World) (_hmax : s.size ≤ 1000000000000) : Calls Tryz.prog 118 #[.string s] w (PntR s.data.toList w) := by
  by_cases h0 : s.size = 0
  · exact rpt_low s w (.inl h0)
  · have g0 : 0 < s.size := by omega
    by_cases h2 : 192 ≤ (s[0]'g0).toNat ∧ (s[0]'g0).toNat < 224
    · exact rpt_2 s w g0 h2.1 h2.2
    · by_cases h3 : 224 ≤ (s[0]'g0).toNat ∧ (s[0]'g0).toNat < 240
      · exact rpt_3 s w g0 h3.1 h3.2
      · by_cases h4 : 240 ≤ (s[0]'g0).toNat ∧ (s[0]'g0).toNat < 248
        · exact rpt_4 s w g0 h4.1 h4.2
        · exact rpt_low s w (.inr ⟨g0, by omega⟩)
end Go.Proofs.YtkjilodmmcefbaaGreatDoor
/- The reference's part. -/
namespace Go.Proofs.YtkjilodmmcefbaaGreatDoor
namespace Rs
def partC (t : List UInt8) : Int := ((partS t).map (·.1)).getD 0
def partN (t : List UInt8) : Nat := ((partS t).map (·.2)).getD 0
theorem part_some {t : List UInt8} {a : Int} {n : Nat} (h : partS t = some (a, n)) : partC t = a ∧ partN t = n := by simp [partC, partN, h]
theorem part_none {t : List UInt8} (h : partS t = none) : partC t = 0 ∧ partN t = 0 := by simp [partC, partN, h]
theorem part_esc {t : List UInt8} (hl : t.length ≠ 0) (h : bt t 0 = 92) : partC t = escC t ∧ partN t = escN t := by
  have e : partS t = escS t := by unfold partS; rw [if_neg hl, if_pos h]
  unfold partC partN escC escN
  rw [e]
  exact ⟨rfl, rfl⟩
theorem ptE_zero (t : List UInt8) (size : Nat) (least x0 : Int) (h : 0 < size) : ptE t size least x0 = (0, 0) ∨ 0 < (ptE t size least x0).2 := by
  unfold ptE
  split
  · exact .inl rfl
  · split
    · split
      · exact .inl rfl
      · exact .inr h
    · exact .inl rfl
theorem ptP_zero (t : List UInt8) : ptP t = (0, 0) ∨ 0 < (ptP t).2 := by
  unfold ptP
  split
  · exact .inl rfl
  · split
    · exact .inr (by simp)
    · split
      · exact ptE_zero _ _ _ _ (by decide)
      · split
        · exact ptE_zero _ _ _ _ (by decide)
        · split
          · exact ptE_zero _ _ _ _ (by decide)
          · exact .inl rfl
end Rs
open Go.RowKit Go.Shelf
def PrtPost (l : List UInt8) (w : World) (e : Ending) (w' : World) : Prop := e = .returned (.tuple #[.int .i64 (Rs.partC l), .int .i64 (Rs.partN l)]) ∧ Below w.heap.size w w'
set_option maxRecDepth 100000 in
set_option maxHeartbeats 1000000 in
theorem rpart_calls (s : ByteArray) (w : World) (hmax : s.size ≤ 1000000000000) :
    Calls Tryz.prog 97 #[.string s] w (PrtPost s.data.toList w) := by
  have hlen : s.data.toList.length = s.size := by rw [Lib.size_eq]
  unfold PrtPost
  by_cases h0 : 0 < s.size ∧ Rs.bt s.data.toList 0 = 92
  · have g0 := h0.1
    obtain ⟨e1, e2⟩ := Rs.part_esc (by omega) h0.2
    rw [e1, e2]
    have he := refEscape_calls s w hmax
    have h1 : ((((s[0]'g0).toNat : Int)) == 92) = true := by rw [← Rs.esc_get g0, h0.2]; rfl
    clear e1 e2 h0 hlen
    go_enter Tryz.func97, Tryz.ntmps97
    go_wp2_with fail
    go_at_call 42
    refine he.mono ?_
    clear he
    rintro e w1 ⟨rfl, hb⟩
    go_wp2
    go_ret2
    exact ⟨rfl, hb⟩
  · have hp : Calls Tryz.prog 118 #[.string s] w fun e w' => e = .returned (.tuple #[.int .i64 (Rs.ptP s.data.toList).1, .int .i64 (Rs.ptP s.data.toList).2]) ∧ ∃ n, w' = w.drewN n := rpoint_calls s w hmax
    have hb0 : s.data.toList.length ≠ 0 → Rs.bt s.data.toList 0 ≠ 92 := fun hl e => h0 ⟨by omega, e⟩
    have hP : Rs.partS s.data.toList = if 0 < (Rs.ptP s.data.toList).2 ∧ (Rs.ptP s.data.toList).1 ≠ 91 ∧ (Rs.ptP s.data.toList).1 ≠ 93 ∧ (Rs.ptP s.data.toList).1 ≠ 45 then some (Rs.ptP s.data.toList) else none := by
      by_cases hl : s.data.toList.length = 0
      · rw [List.length_eq_zero_iff.1 hl]; rfl
      · exact Rs.partS_ptP (hb0 hl)
    have hz := Rs.ptP_zero s.data.toList
    obtain ⟨c, n, hcn⟩ : ∃ c n, Rs.ptP s.data.toList = (c, n) := ⟨_, _, rfl⟩
    rw [hcn] at hP hz hp
    dsimp only at hP hz hp
    have h1 : s.size = 0 ∨ ∃ g0 : 0 < s.size, ((((s[0]'g0).toNat : Int)) == 92) = false := by
      by_cases hs : s.size = 0
      · exact .inl hs
      · have g0 : 0 < s.size := by omega
        exact .inr ⟨g0, by rw [← Rs.esc_get g0]; simpa using hb0 (by omega)⟩
    have hw : (n = 0 ∧ Rs.partC s.data.toList = c ∧ Rs.partN s.data.toList = n) ∨ (0 < n ∧ (c = 91 ∨ c = 93 ∨ c = 45) ∧ Rs.partC s.data.toList = 0 ∧ Rs.partN s.data.toList = 0) ∨ (0 < n ∧ c ≠ 91 ∧ c ≠ 93 ∧ c ≠ 45 ∧ Rs.partC s.data.toList = c ∧ Rs.partN s.data.toList = n) := by
      by_cases hn : n = 0
      · left
        rw [if_neg (by omega)] at hP
        obtain ⟨e1, e2⟩ := Rs.part_none hP
        rcases hz with hz | hz
        · cases hz
          exact ⟨rfl, e1, e2⟩
        · omega
      · right
        by_cases hc : c ≠ 91 ∧ c ≠ 93 ∧ c ≠ 45
        · right
          rw [if_pos ⟨by omega, hc⟩] at hP
          exact ⟨by omega, hc.1, hc.2.1, hc.2.2, Rs.part_some hP⟩
        · left
          rw [if_neg (fun x => hc x.2)] at hP
          exact ⟨by omega, by omega, Rs.part_none hP⟩
    clear hP hz hcn hb0 h0 hlen
    rcases hw with ⟨hn, e1, e2⟩ | ⟨hn, hc | hc | hc, e1, e2⟩ | ⟨hn, n1, n2, n3, e1, e2⟩
    all_goals
      rw [e1, e2]
      clear e1 e2
      try subst hn
      try (have b1 : (c == 91) = false := beq_eq_false_iff_ne.2 n1; have b2 : (c == 93) = false := beq_eq_false_iff_ne.2 n2; have b3 : (c == 45) = false := beq_eq_false_iff_ne.2 n3)
      rcases h1 with h1 | ⟨g0, h1⟩
      all_goals
        go_enter Tryz.func97, Tryz.ntmps97
        go_wp2_with fail
        go_at_call 118
        refine hp.mono ?_
        clear hp
        rintro e w1 ⟨rfl, q, rfl⟩
        go_wp2
        go_ret2
        exact ⟨rfl, below_drewN (Below.refl _ _) _⟩
end Go.Proofs.YtkjilodmmcefbaaGreatDoor
