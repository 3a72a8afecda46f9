/- Several parts in one text: KbQ, KRt, KRm. -/
import Derived.Test.YtmagojckhfkcdaaGreatDoorKpA
import Derived.Lib.AtoiAll
import Derived.Lib.ItoaNum
import Derived.Lib.Join
import Derived.Test.YtmagojckhfkcdaaGreatDoorKtB
import Derived.Test.YtmagojckhfkcdaaGreatDoorPuA
import Derived.Lib.Fields
/- Several parts in one text: KbP, KbQ, KbF. -/
/- Chapter 38, plain facts: words and numbers read back. -/
namespace Go.Proofs.YtmagojckhfkcdaaGreatDoor.Sk
/-- the value of a hexadecimal digit -/
def hexV (c : Nat) : Option Nat := if 48 ≤ c ∧ c ≤ 57 then some (c - 48) else if 97 ≤ c ∧ c ≤ 102 then some (c - 87) else if 65 ≤ c ∧ c ≤ 70 then some (c - 55) else none
/-- the byte that two hexadecimal digits are -/
def hex2 (a b : UInt8) : Option UInt8 := match hexV a.toNat, hexV b.toNat with
  | some x, some y => some (UInt8.ofNat (16 * x + y))
  | _, _ => none
/-- the string that a word other than "-" is -/
def plainGo : B → B
  | [] => []
  | [c] => [c]
  | [c, a] => [c, a]
  | c :: a :: b :: r => if c = 37 then (match hex2 a b with | some x => x :: plainGo r | none => c :: plainGo (a :: b :: r)) else c :: plainGo (a :: b :: r)
def plainS (w : B) : B := if w = [45] then [] else plainGo w
theorem plainGo_other {c : UInt8} (h : c ≠ 37) : ∀ r : B, plainGo (c :: r) = c :: plainGo r
  | [] => rfl
  | [_] => rfl
  | a :: b :: r => by rw [plainGo, if_neg h]
theorem plainGo_hex {a b x : UInt8} (h : hex2 a b = some x) (r : B) : plainGo (37 :: a :: b :: r) = x :: plainGo r := by
  rw [plainGo, if_pos rfl, h]
theorem plainGo_not {a b : UInt8} (h : hex2 a b = none) (r : B) : plainGo (37 :: a :: b :: r) = 37 :: plainGo (a :: b :: r) := by
  rw [plainGo, if_pos rfl, h]
theorem plainGo_short (c : UInt8) {r : B} (h : r.length < 2) : plainGo (c :: r) = c :: plainGo r := by
  match r, h with
  | [], _ => rfl
  | [_], _ => rfl
theorem hexU_back : ∀ n : Nat, n < 16 → hexV (hexU n).toNat = some n
  | 0, _ => by decide
  | 1, _ => by decide
  | 2, _ => by decide
  | 3, _ => by decide
  | 4, _ => by decide
  | 5, _ => by decide
  | 6, _ => by decide
  | 7, _ => by decide
  | 8, _ => by decide
  | 9, _ => by decide
  | 10, _ => by decide
  | 11, _ => by decide
  | 12, _ => by decide
  | 13, _ => by decide
  | 14, _ => by decide
  | 15, _ => by decide
  | n + 16, h => by omega
theorem hex2_back (c : UInt8) : hex2 (hexU (c.toNat / 16)) (hexU (c.toNat % 16)) = some c := by
  have h := c.toNat_lt
  unfold hex2
  rw [hexU_back _ (by omega), hexU_back _ (by omega)]
  simp only [Option.some.injEq]
  rw [show 16 * (c.toNat / 16) + c.toNat % 16 = c.toNat by omega]
  simp
theorem wordC_cases (c : UInt8) : wordC c = [37, hexU (c.toNat / 16), hexU (c.toNat % 16)] ∨ (wordC c = [c] ∧ c ≠ 37) := by
  unfold wordC
  split
  · exact .inl rfl
  · rename_i h
    exact .inr ⟨rfl, fun e => h (.inl e)⟩
theorem plain_flat : ∀ (s r : B), plainGo (s.flatMap wordC ++ r) = s ++ plainGo r
  | [], r => rfl
  | c :: s, r => by
    have ih := plain_flat s r
    rw [List.flatMap_cons, List.append_assoc]
    rcases wordC_cases c with h | ⟨h, hc⟩
    · rw [h]
      show plainGo (37 :: hexU (c.toNat / 16) :: hexU (c.toNat % 16) :: (s.flatMap wordC ++ r)) = _
      rw [plainGo_hex (hex2_back c), ih]
      rfl
    · rw [h]
      show plainGo (c :: (s.flatMap wordC ++ r)) = _
      rw [plainGo_other hc, ih]
      rfl
theorem wordC_ne (c : UInt8) : wordC c ≠ [] := by rcases wordC_cases c with h | ⟨h, _⟩ <;> rw [h] <;> simp
theorem flat_one {s : B} {c : UInt8} (h : s.flatMap wordC = [c]) : s = [c] := by
  cases s with
  | nil => simp at h
  | cons x r =>
    rw [List.flatMap_cons] at h
    rcases wordC_cases x with e | ⟨e, _⟩
    · rw [e] at h; simp at h
    · rw [e] at h
      simp only [List.cons_append, List.nil_append, List.cons.injEq] at h
      obtain ⟨rfl, h2⟩ := h
      cases r with
      | nil => rfl
      | cons y t =>
        rw [List.flatMap_cons] at h2
        exact absurd (List.append_eq_nil_iff.1 h2).1 (wordC_ne y)
theorem plain_word (s : B) : plainS (wordS s) = s := by
  unfold wordS
  split
  · rename_i h; subst h; rfl
  · split
    · rename_i h; subst h; decide
    · rename_i h1 h2
      unfold plainS
      rw [if_neg (fun e => h2 (flat_one e))]
      have := plain_flat s []
      simpa [plainGo] using this
theorem hexU_print : ∀ n : Nat, n < 16 → (hexU n).toNat ≠ 32
  | 0, _ => by decide
  | 1, _ => by decide
  | 2, _ => by decide
  | 3, _ => by decide
  | 4, _ => by decide
  | 5, _ => by decide
  | 6, _ => by decide
  | 7, _ => by decide
  | 8, _ => by decide
  | 9, _ => by decide
  | 10, _ => by decide
  | 11, _ => by decide
  | 12, _ => by decide
  | 13, _ => by decide
  | 14, _ => by decide
  | 15, _ => by decide
  | n + 16, h => by omega
theorem wordC_no32 (c : UInt8) : (32 : UInt8) ∉ wordC c := by
  intro h
  have hc := c.toNat_lt
  unfold wordC at h
  split at h
  · simp only [List.mem_cons, List.not_mem_nil, or_false] at h
    rcases h with h | h | h
    · cases h
    · exact hexU_print (c.toNat / 16) (by omega) (by rw [← h]; rfl)
    · exact hexU_print (c.toNat % 16) (by omega) (by rw [← h]; rfl)
  · rename_i hn
    simp only [List.mem_cons, List.not_mem_nil, or_false] at h
    exact hn (.inr (.inl (by rw [← h]; decide)))
theorem word_no32 (s : B) : (32 : UInt8) ∉ wordS s := by
  unfold wordS
  split
  · decide
  · split
    · decide
    · intro h
      rw [List.mem_flatMap] at h
      obtain ⟨c, _, hc⟩ := h
      exact wordC_no32 c hc
theorem word_ne (s : B) : wordS s ≠ [] := by
  unfold wordS
  split
  · simp
  · split
    · simp
    · rename_i h1 _
      cases s with
      | nil => exact absurd rfl h1
      | cons c r => rw [List.flatMap_cons]; intro h; exact wordC_ne c (List.append_eq_nil_iff.1 h).1
theorem cutAt_none {c : UInt8} : ∀ {p : B}, c ∉ p → cutAt c p = [p]
  | [], _ => rfl
  | x :: p, h => by
    have hx : x ≠ c := fun e => h (by subst e; exact List.mem_cons_self ..)
    rw [cutAt, if_neg hx, cutAt_none (fun hm => h (List.mem_cons_of_mem _ hm))]
    rfl
theorem cutAt_join {c : UInt8} : ∀ {ws : List B}, ws ≠ [] → (∀ w ∈ ws, c ∉ w) → cutAt c (Go.Lib.join ws [c]) = ws
  | [], h, _ => absurd rfl h
  | [x], _, h => by rw [Go.Lib.join_one, cutAt_none (h x (List.mem_cons_self ..))]
  | x :: y :: r, _, h => by
    have ih := cutAt_join (c := c) (ws := y :: r) (by simp) (fun w hw => h w (List.mem_cons_of_mem _ hw))
    have e : Go.Lib.join (x :: y :: r) [c] = x ++ [c] ++ Go.Lib.join (y :: r) [c] := by
      rw [Go.Lib.join_cons, Go.Lib.join_cons]
      simp [Go.Lib.joinTail]
    rw [e, cutAt_app (h x (List.mem_cons_self ..)), ih]
open Go.Lib in
theorem parse_append : ∀ (l m : B) (acc : Nat), parseUint10 acc (l ++ m) = match parseUint10 acc l with | .ok a => parseUint10 a m | Lib.NumEnd.syntax => Lib.NumEnd.syntax | .range => .range
  | [], m, acc => rfl
  | c :: r, m, acc => by
    simp only [List.cons_append, parseUint10]
    split
    · split
      · rfl
      · split
        · rfl
        · exact parse_append r m _
    · rfl
open Go.Lib in
theorem parse_dec : ∀ (n u : Nat), u ≤ n → u < 18446744073709551616 → parseUint10 0 (decDigits u) = .ok u
  | n, u, hn, hu => by
    rw [decDigits]
    split
    · rename_i h
      have e : (UInt8.ofNat (48 + u)).toNat = 48 + u := by simp; omega
      simp only [parseUint10, e]
      rw [if_pos (by omega), if_neg (by omega), if_neg (by omega)]
      congr 1
      omega
    · rename_i h
      match n, hn with
      | n + 1, hn =>
        have ih := parse_dec n (u / 10) (by omega) (by omega)
        have e : (UInt8.ofNat (48 + u % 10)).toNat = 48 + u % 10 := by simp; omega
        rw [parse_append, ih]
        simp only [parseUint10, e]
        rw [if_pos (by omega), if_neg (by omega), if_neg (by omega)]
        congr 1
        omega
      | 0, hn => omega
open Go.Lib in
theorem dec_head (u : Nat) : ∃ c r, decDigits u = c :: r ∧ 48 ≤ c.toNat ∧ c.toNat ≤ 57 := by
  induction u using Nat.strongRecOn with
  | _ u ih =>
    rw [decDigits]
    split
    · exact ⟨_, [], rfl, by simp; omega, by simp; omega⟩
    · obtain ⟨c, r, e, h⟩ := ih (u / 10) (by omega)
      exact ⟨c, r ++ [_], by rw [e]; rfl, h⟩
open Go.Lib in
theorem atoiAll_neg {r : B} {u : Nat} (h : parseMag r = .ok u) (hu : u ≤ 9223372036854775808) : atoiAll (45 :: r) = .ok (-(u : Int)) := by
  have h2 : ¬ 9223372036854775808 < u := by omega
  simp [atoiAll, h, h2]
open Go.Lib in
theorem atoiAll_pos {c : UInt8} {r : B} {u : Nat} (h : parseMag (c :: r) = .ok u) (h1 : 48 ≤ c.toNat) (h2 : c.toNat ≤ 57) (hu : u < 9223372036854775808) : atoiAll (c :: r) = .ok (u : Int) := by
  have e43 : ¬ c.toNat = 43 := by omega
  have e45 : ¬ c.toNat = 45 := by omega
  have h3 : ¬ 9223372036854775808 ≤ u := by omega
  simp [atoiAll, h, e43, e45, h3]
open Go.Lib in
theorem atoi_itoa {n : Int} (h0 : -9223372036854775808 ≤ n) (h1 : n ≤ 9223372036854775807) : atoiAll (itoa n) = .ok n := by
  unfold itoa
  split
  · obtain ⟨c, r, e, h2, h3⟩ := dec_head n.natAbs
    have hp : parseMag (decDigits n.natAbs) = .ok n.natAbs := by
      unfold parseMag
      rw [if_neg (by rw [e]; simp), parse_dec _ _ (Nat.le_refl _) (by omega)]
    rw [atoiAll_neg hp (by omega)]
    congr 1
    omega
  · obtain ⟨c, r, e, h2, h3⟩ := dec_head n.toNat
    have hp : parseMag (decDigits n.toNat) = .ok n.toNat := by
      unfold parseMag
      rw [if_neg (by rw [e]; simp), parse_dec _ _ (Nat.le_refl _) (by omega)]
    rw [e] at hp ⊢
    rw [atoiAll_pos hp h2 h3 (by omega)]
    congr 1
    omega
open Go.Lib in
theorem dec_no32 (u : Nat) : ∀ c ∈ decDigits u, 48 ≤ c.toNat ∧ c.toNat ≤ 57 := by
  induction u using Nat.strongRecOn with
  | _ u ih =>
    intro c hc
    rw [decDigits] at hc
    split at hc
    · rw [List.mem_singleton.1 hc]; simp; omega
    · rcases List.mem_append.1 hc with h | h
      · exact ih (u / 10) (by omega) c h
      · rw [List.mem_singleton.1 h]; simp; omega
open Go.Lib in
theorem itoa_no32 (n : Int) : (32 : UInt8) ∉ itoa n := by
  intro h
  unfold itoa at h
  split at h
  · rcases List.mem_cons.1 h with h | h
    · cases h
    · have := dec_no32 _ _ h; simp at this
  · have := dec_no32 _ _ h; simp at this
open Go.Lib in
theorem itoa_ne_dash (n : Int) : itoa n ≠ [45] := by
  intro h
  unfold itoa at h
  split at h
  · obtain ⟨c, r, e, _⟩ := dec_head n.natAbs
    rw [e] at h
    simp at h
  · obtain ⟨c, r, e, h2, _⟩ := dec_head n.toNat
    rw [e] at h
    simp only [List.cons.injEq] at h
    rw [h.1] at h2
    simp at h2
end Go.Proofs.YtmagojckhfkcdaaGreatDoor.Sk
/- Chapter 38, plain facts: bits read back; the text of an item is its alone. -/
namespace Go.Proofs.YtmagojckhfkcdaaGreatDoor.Sk
open Go
theorem hexM_append : ∀ (l m : B) (M acc : Nat), Rs.hexM M acc (l ++ m) = match Rs.hexM M acc l with | .ok a => Rs.hexM M a m | Lib.NumEnd.syntax => Lib.NumEnd.syntax | .range => .range
  | [], m, M, acc => rfl
  | c :: r, m, M, acc => by
    simp only [List.cons_append, Rs.hexM]
    cases Rs.hexD (c.toNat : Int) with
    | none => rfl
    | some x =>
      simp only
      split
      · rfl
      · exact hexM_append r m M _
theorem ldig_back : ∀ n : Nat, n < 16 → Rs.hexD ((Rs.ldig n).toNat : Int) = some (n : Int)
  | 0, _ => by decide
  | 1, _ => by decide
  | 2, _ => by decide
  | 3, _ => by decide
  | 4, _ => by decide
  | 5, _ => by decide
  | 6, _ => by decide
  | 7, _ => by decide
  | 8, _ => by decide
  | 9, _ => by decide
  | 10, _ => by decide
  | 11, _ => by decide
  | 12, _ => by decide
  | 13, _ => by decide
  | 14, _ => by decide
  | 15, _ => by decide
  | n + 16, h => by omega
theorem ldig_no32 : ∀ n : Nat, n < 16 → 48 ≤ (Rs.ldig n).toNat
  | 0, _ => by decide
  | 1, _ => by decide
  | 2, _ => by decide
  | 3, _ => by decide
  | 4, _ => by decide
  | 5, _ => by decide
  | 6, _ => by decide
  | 7, _ => by decide
  | 8, _ => by decide
  | 9, _ => by decide
  | 10, _ => by decide
  | 11, _ => by decide
  | 12, _ => by decide
  | 13, _ => by decide
  | 14, _ => by decide
  | 15, _ => by decide
  | n + 16, h => by omega
theorem hx_back (M : Nat) : ∀ n : Nat, n ≤ M → Rs.hexM M 0 (Rs.hx n) = .ok n := by
  intro n
  induction n using Nat.strongRecOn with
  | _ n ih =>
    intro hM
    by_cases h : n < 16
    · rw [Rs.hx_lt h]
      simp only [Rs.hexM, ldig_back n h]
      rw [if_neg (by omega)]
      simp
    · rw [Rs.hx_ge (by omega), hexM_append, ih (n / 16) (by omega) (by omega)]
      simp only [Rs.hexM, ldig_back (n % 16) (by omega)]
      rw [if_neg (by omega)]
      simp only [Go.Lib.NumEnd.ok.injEq]
      omega
theorem hx_no32 (n : Nat) : ∀ c ∈ Rs.hx n, 48 ≤ c.toNat := by
  induction n using Nat.strongRecOn with
  | _ n ih =>
    intro c hc
    by_cases h : n < 16
    · rw [Rs.hx_lt h] at hc
      rw [List.mem_singleton.1 hc]
      exact ldig_no32 n h
    · rw [Rs.hx_ge (by omega)] at hc
      rcases List.mem_append.1 hc with hc | hc
      · exact ih (n / 16) (by omega) c hc
      · rw [List.mem_singleton.1 hc]
        exact ldig_no32 _ (by omega)
theorem rep0 : ∀ k : Nat, Go.Lib.repeatL [48] k = List.replicate k 48
  | 0 => rfl
  | k + 1 => by
    have e : Go.Lib.repeatL [48] (k + 1) = [48] ++ Go.Lib.repeatL [48] k := rfl
    rw [e, rep0 k]
    rfl
theorem hexM_zeros (M : Nat) (l : B) : ∀ k : Nat, Rs.hexM M 0 (List.replicate k 48 ++ l) = Rs.hexM M 0 l
  | 0 => rfl
  | k + 1 => by
    have h : Rs.hexD (((48 : UInt8).toNat : Nat) : Int) = some 0 := by decide
    rw [List.replicate_succ, List.cons_append, Rs.hexM, h]
    simp only
    rw [if_neg (by simp)]
    exact hexM_zeros M l k
theorem bits_back {b : Int} (h0 : 0 ≤ b) (h1 : b < 18446744073709551616) : Rs.hexM 18446744073709551615 0 (bitsT b) = .ok b.toNat := by
  unfold bitsT
  rw [rep0, hexM_zeros]
  exact hx_back _ _ (by omega)
theorem bits_no32 (b : Int) : (32 : UInt8) ∉ bitsT b := by
  unfold bitsT
  rw [rep0]
  intro h
  rcases List.mem_append.1 h with h | h
  · have := (List.mem_replicate.1 h).2
    cases this
  · have := hx_no32 _ _ h
    simp at this
theorem bits_len {b : Int} (h1 : b < 18446744073709551616) : (bitsT b).length = 16 := by
  have := hx_len16 h1
  unfold bitsT
  rw [rep0, List.length_append, List.length_replicate]
  omega
theorem bits_ne {b : Int} (h1 : b < 18446744073709551616) : bitsT b ≠ [] := by
  intro e
  have := bits_len h1
  rw [e] at this
  cases this
/-- the words of the text of an item -/
def wordsT (k : B) (e : Ent) : List B := headW e ++ [wordS k, wordS (bytesS e.lab)]
theorem head_no32 (e : Ent) : ∀ w ∈ headW e, (32 : UInt8) ∉ w := by
  intro w hw
  unfold headW at hw
  split at hw
  · rcases (by simpa using hw : w = _ ∨ w = _) with rfl | rfl
    · decide
    · exact itoa_no32 _
  · rcases (by simpa using hw : w = _ ∨ w = _ ∨ w = _ ∨ w = _) with rfl | rfl | rfl | rfl
    · decide
    · exact itoa_no32 _
    · exact bits_no32 _
    · split
      · exact itoa_no32 _
      · decide
theorem words_no32 (k : B) (e : Ent) : ∀ w ∈ wordsT k e, (32 : UInt8) ∉ w := by
  intro w hw
  unfold wordsT at hw
  rcases List.mem_append.1 hw with h | h
  · exact head_no32 e w h
  · rcases (by simpa using h : w = _ ∨ w = _) with rfl | rfl
    · exact word_no32 _
    · exact word_no32 _
theorem cut_text (k : B) (e : Ent) : cutAt 32 (textR k e) = wordsT k e := by
  unfold textR
  exact cutAt_join (by unfold headW; split <;> simp) (words_no32 k e)
theorem itoa_inj {m n : Int} (hm0 : -9223372036854775808 ≤ m) (hm1 : m ≤ 9223372036854775807) (hn0 : -9223372036854775808 ≤ n) (hn1 : n ≤ 9223372036854775807) (h : Go.Lib.itoa m = Go.Lib.itoa n) : m = n := by
  have h1 := atoi_itoa hm0 hm1
  rw [h, atoi_itoa hn0 hn1] at h1
  injection h1 with h1
  exact h1.symm
theorem word_inj {s t : B} (h : wordS s = wordS t) : s = t := by
  have := plain_word s
  rw [h, plain_word] at this
  exact this.symm
theorem bits_inj {b c : Int} (b0 : 0 ≤ b) (b1 : b < 18446744073709551616) (c0 : 0 ≤ c) (c1 : c < 18446744073709551616) (h : bitsT b = bitsT c) : b = c := by
  have h1 := bits_back b0 b1
  rw [h, bits_back c0 c1] at h1
  injection h1 with h1
  omega
theorem right_fields {k : B} {e : Ent} (h : itemRight k e = true) : labRight e.lab = true ∧ 0 ≤ e.stamp ∧ e.stamp ≤ 562949953421313 ∧ (e.mark = true → e.bits = 0 ∧ e.st = false) ∧ (e.st = false → e.time = 0) := by
  unfold itemRight at h
  simp only [Bool.and_eq_true, Bool.or_eq_true, decide_eq_true_eq, Bool.not_eq_true'] at h
  refine ⟨h.1.1.1.2, h.1.1.2.1, h.1.1.2.2, fun hm => ?_, fun hs => ?_⟩
  · rcases h.1.2 with h1 | h1
    · rw [hm] at h1; cases h1
    · exact h1
  · rcases h.2 with h1 | h1
    · rw [hs] at h1; cases h1
    · exact h1
/-- the text of an item that is right is the text of no other one -/
theorem text_inj {k1 k2 : B} {e1 e2 : Ent} (h1 : itemRight k1 e1 = true) (h2 : itemRight k2 e2 = true) (i1 : EntIn e1) (i2 : EntIn e2) (h : textR k1 e1 = textR k2 e2) : k1 = k2 ∧ e1 = e2 := by
  have hw : wordsT k1 e1 = wordsT k2 e2 := by rw [← cut_text, ← cut_text, h]
  obtain ⟨l1, s10, s11, m1, t1⟩ := right_fields h1
  obtain ⟨l2, s20, s21, m2, t2⟩ := right_fields h2
  obtain ⟨lab1, mk1, b1, st1, tm1, sp1⟩ := e1
  obtain ⟨lab2, mk2, b2, st2, tm2, sp2⟩ := e2
  unfold wordsT headW at hw
  simp only at hw l1 s10 s11 m1 t1 l2 s20 s21 m2 t2
  have hlen := congrArg List.length hw
  have hmk : mk1 = mk2 := by
    cases mk1 <;> cases mk2 <;> simp at hlen <;> rfl
  subst hmk
  cases mk1 with
  | true =>
    simp only [if_true, List.cons_append, List.nil_append, List.cons.injEq, and_true, true_and] at hw
    obtain ⟨ha, hb, hc⟩ := hw
    obtain ⟨rfl, rfl⟩ := m1 rfl
    obtain ⟨rfl, rfl⟩ := m2 rfl
    obtain rfl := t1 rfl
    obtain rfl := t2 rfl
    obtain rfl := itoa_inj i1.s0 i1.s1 i2.s0 i2.s1 ha
    obtain rfl := word_inj hb
    obtain rfl := bytesS_inj l1 l2 (word_inj hc)
    exact ⟨rfl, rfl⟩
  | false =>
    simp only [Bool.false_eq_true, if_false, List.cons_append, List.nil_append, List.cons.injEq, and_true, true_and] at hw
    obtain ⟨ha, hd, ht, hb, hc⟩ := hw
    obtain rfl := itoa_inj i1.s0 i1.s1 i2.s0 i2.s1 ha
    obtain rfl := bits_inj i1.b0 i1.b1 i2.b0 i2.b1 hd
    obtain rfl := word_inj hb
    obtain rfl := bytesS_inj l1 l2 (word_inj hc)
    cases st1 with
    | true =>
      cases st2 with
      | true =>
        simp only [if_true] at ht
        obtain rfl := itoa_inj i1.t0 i1.t1 i2.t0 i2.t1 ht
        exact ⟨rfl, rfl⟩
      | false => simp only [if_true, Bool.false_eq_true, if_false] at ht; exact absurd ht (itoa_ne_dash _)
    | false =>
      cases st2 with
      | true => simp only [if_true, Bool.false_eq_true, if_false] at ht; exact absurd ht.symm (itoa_ne_dash _)
      | false =>
        obtain rfl := t1 rfl
        obtain rfl := t2 rfl
        exact ⟨rfl, rfl⟩
end Go.Proofs.YtmagojckhfkcdaaGreatDoor.Sk
/- Chapter 38, plain facts: the fields of a text are its words. -/
namespace Go.Proofs.YtmagojckhfkcdaaGreatDoor.Sk
open Go
/-- a byte that is printed -/
def Pr (w : B) : Prop := ∀ c ∈ w, 33 ≤ c.toNat ∧ c.toNat < 128
theorem isSp_no {c : UInt8} (h : 33 ≤ c.toNat) (h2 : c.toNat < 128) : Go.Lib.isSp c = false := by
  have key : ∀ n : Fin 128, 33 ≤ n.val → Go.Lib.isSp (UInt8.ofNat n.val) = false := by decide +kernel
  have := key ⟨c.toNat, h2⟩ h
  simpa using this
theorem fieldsGo_word : ∀ (w cur r : B), Pr w → Go.Lib.fieldsGo cur (w ++ r) = Go.Lib.fieldsGo (cur ++ w) r
  | [], cur, r, _ => by simp
  | c :: w, cur, r, h => by
    have hc := h c (List.mem_cons_self ..)
    rw [List.cons_append, Go.Lib.fieldsGo, isSp_no hc.1 hc.2, if_neg (by decide), fieldsGo_word w (cur ++ [c]) r (fun x hx => h x (List.mem_cons_of_mem _ hx))]
    simp
theorem isSp32 : Go.Lib.isSp 32 = true := by decide
theorem fields_join : ∀ {ws : List B}, ws ≠ [] → (∀ w ∈ ws, Pr w ∧ w ≠ []) → Go.Lib.fields (Go.Lib.join ws [32]) = ws
  | [], h, _ => absurd rfl h
  | [x], _, h => by
    obtain ⟨h1, h2⟩ := h x (List.mem_cons_self ..)
    rw [Go.Lib.join_one]
    unfold Go.Lib.fields
    have := fieldsGo_word x [] [] h1
    rw [List.append_nil, List.nil_append] at this
    rw [this, Go.Lib.fieldsGo, if_neg (by simpa using h2)]
  | x :: y :: r, _, h => by
    obtain ⟨h1, h2⟩ := h x (List.mem_cons_self ..)
    have ih := fields_join (ws := y :: r) (by simp) (fun w hw => h w (List.mem_cons_of_mem _ hw))
    have e : Go.Lib.join (x :: y :: r) [32] = x ++ (32 :: Go.Lib.join (y :: r) [32]) := by
      rw [Go.Lib.join_cons, Go.Lib.join_cons]
      simp [Go.Lib.joinTail]
    unfold Go.Lib.fields at ih ⊢
    rw [e, fieldsGo_word x [] _ h1, List.nil_append, Go.Lib.fieldsGo, isSp32, if_pos rfl, if_neg (by simpa using h2), ih]
theorem itoa_pr (n : Int) : Pr (Go.Lib.itoa n) := by
  intro c hc
  unfold Go.Lib.itoa at hc
  split at hc
  · rcases List.mem_cons.1 hc with rfl | hc
    · decide
    · have := dec_no32 _ c hc; omega
  · have := dec_no32 _ c hc; omega
theorem itoa_ne (n : Int) : Go.Lib.itoa n ≠ [] := by
  unfold Go.Lib.itoa
  split
  · simp
  · obtain ⟨c, r, e, _⟩ := dec_head n.toNat
    rw [e]; simp
theorem bits_pr (b : Int) : Pr (bitsT b) := by
  intro c hc
  unfold bitsT at hc
  rw [rep0] at hc
  rcases List.mem_append.1 hc with h | h
  · rw [(List.mem_replicate.1 h).2]; decide
  · have h1 := hx_no32 _ c h
    have h2 := Rs.hx_ascii _ c h
    omega
theorem hexU_pr : ∀ n : Nat, n < 16 → 33 ≤ (hexU n).toNat ∧ (hexU n).toNat < 128
  | 0, _ => by decide
  | 1, _ => by decide
  | 2, _ => by decide
  | 3, _ => by decide
  | 4, _ => by decide
  | 5, _ => by decide
  | 6, _ => by decide
  | 7, _ => by decide
  | 8, _ => by decide
  | 9, _ => by decide
  | 10, _ => by decide
  | 11, _ => by decide
  | 12, _ => by decide
  | 13, _ => by decide
  | 14, _ => by decide
  | 15, _ => by decide
  | n + 16, h => by omega
theorem wordC_pr (c : UInt8) : Pr (wordC c) := by
  intro x hx
  have hc := c.toNat_lt
  unfold wordC at hx
  split at hx
  · simp only [List.mem_cons, List.not_mem_nil, or_false] at hx
    rcases hx with rfl | rfl | rfl
    · decide
    · exact hexU_pr _ (by omega)
    · exact hexU_pr _ (by omega)
  · rename_i hn
    obtain rfl := List.mem_singleton.1 hx
    simp only [not_or] at hn
    have h1 : ¬ x.toNat < 33 := fun h => hn.2.1 (UInt8.lt_iff_toNat_lt.2 h)
    have h2 : ¬ 126 < x.toNat := fun h => hn.2.2 (UInt8.lt_iff_toNat_lt.2 h)
    omega
theorem word_pr (s : B) : Pr (wordS s) := by
  unfold wordS
  split
  · intro c hc; obtain rfl := List.mem_singleton.1 hc; decide
  · split
    · intro c hc
      simp only [List.mem_cons, List.not_mem_nil, or_false] at hc
      rcases hc with rfl | rfl | rfl <;> decide
    · intro c hc
      rw [List.mem_flatMap] at hc
      obtain ⟨x, _, h⟩ := hc
      exact wordC_pr x c h
theorem words_pr (k : B) (e : Ent) (h1 : e.bits < 18446744073709551616) : ∀ w ∈ wordsT k e, Pr w ∧ w ≠ [] := by
  intro w hw
  unfold wordsT headW at hw
  rcases List.mem_append.1 hw with hw | hw
  · split at hw
    · rcases (by simpa using hw : w = _ ∨ w = _) with rfl | rfl
      · exact ⟨fun c hc => by simp only [List.mem_cons, List.not_mem_nil, or_false] at hc; rcases hc with rfl | rfl | rfl | rfl | rfl | rfl <;> decide, by simp⟩
      · exact ⟨itoa_pr _, itoa_ne _⟩
    · rcases (by simpa using hw : w = _ ∨ w = _ ∨ w = _ ∨ w = _) with rfl | rfl | rfl | rfl
      · exact ⟨fun c hc => by simp only [List.mem_cons, List.not_mem_nil, or_false] at hc; rcases hc with rfl | rfl | rfl | rfl | rfl | rfl <;> decide, by simp⟩
      · exact ⟨itoa_pr _, itoa_ne _⟩
      · exact ⟨bits_pr _, bits_ne h1⟩
      · split
        · exact ⟨itoa_pr _, itoa_ne _⟩
        · exact ⟨fun c hc => by obtain rfl := List.mem_singleton.1 hc; decide, by simp⟩
  · rcases (by simpa using hw : w = _ ∨ w = _) with rfl | rfl
    · exact ⟨word_pr _, word_ne _⟩
    · exact ⟨word_pr _, word_ne _⟩
theorem fields_text (k : B) (e : Ent) (h1 : e.bits < 18446744073709551616) : Go.Lib.fields (textR k e) = wordsT k e := by
  unfold textR
  exact fields_join (by unfold headW; split <;> simp) (words_pr k e h1)
theorem join_ascii : ∀ {ws : List B}, (∀ w ∈ ws, Pr w) → ∀ c ∈ Go.Lib.join ws [32], c.toNat < 128
  | [], _, c, hc => by rw [Go.Lib.join_nil] at hc; cases hc
  | [x], h, c, hc => by rw [Go.Lib.join_one] at hc; exact (h x (List.mem_cons_self ..) c hc).2
  | x :: y :: r, h, c, hc => by
    have e : Go.Lib.join (x :: y :: r) [32] = x ++ (32 :: Go.Lib.join (y :: r) [32]) := by
      rw [Go.Lib.join_cons, Go.Lib.join_cons]
      simp [Go.Lib.joinTail]
    rw [e] at hc
    rcases List.mem_append.1 hc with hc | hc
    · exact (h x (List.mem_cons_self ..) c hc).2
    · rcases List.mem_cons.1 hc with rfl | hc
      · decide
      · exact join_ascii (fun w hw => h w (List.mem_cons_of_mem _ hw)) c hc
theorem text_ascii (k : B) (e : Ent) (h1 : e.bits < 18446744073709551616) : ∀ c ∈ textR k e, c.toNat < 128 :=
  join_ascii (fun w hw => (words_pr k e h1 w hw).1)
theorem words_len (k : B) (e : Ent) : (wordsT k e).length = if e.mark then 4 else 6 := by
  unfold wordsT headW
  split <;> simp
end Go.Proofs.YtmagojckhfkcdaaGreatDoor.Sk
/- Plain law of the reference's texts: digits put ahead of one another. -/
namespace Go.Proofs.YtmagojckhfkcdaaGreatDoor.Sk
open Go
/-- k digits of 16 -/
def hexP : Nat → Nat → B
  | 0, _ => []
  | k + 1, n => hexP k (n / 16) ++ [Rs.ldig (n % 16)]
theorem hexP_len : ∀ k n, (hexP k n).length = k
  | 0, _ => rfl
  | k + 1, n => by rw [hexP, List.length_append, hexP_len]; rfl
/-- the first digit of k + 1 is put ahead of the others -/
theorem hexP_cons : ∀ k n, hexP (k + 1) n = Rs.ldig (n / 16 ^ k % 16) :: hexP k n
  | 0, n => by simp [hexP]
  | k + 1, n => by
    rw [hexP, hexP_cons k (n / 16), hexP, List.cons_append]
    congr 2
    rw [Nat.div_div_eq_div_mul, Nat.pow_succ, Nat.mul_comm]
theorem repeatL_one (c : UInt8) : ∀ k, Lib.repeatL [c] k = List.replicate k c
  | 0 => by simp [Lib.repeatL]
  | k + 1 => by
    have := repeatL_one c k
    simp only [Lib.repeatL] at this ⊢
    rw [List.replicate_succ]
    simp [this]
theorem hexP_zero : ∀ k, hexP k 0 = List.replicate k 48
  | 0 => rfl
  | k + 1 => by
    rw [hexP, Nat.zero_div, hexP_zero k, List.replicate_succ']
    rfl
theorem hexP_hx : ∀ k n, (Rs.hx n).length ≤ k → hexP k n = List.replicate (k - (Rs.hx n).length) 48 ++ Rs.hx n
  | 0, n, h => by
    have : (Rs.hx n).length ≠ 0 := by
      rw [Rs.hx]
      split <;> simp
    omega
  | k + 1, n, h => by
    by_cases hn : n < 16
    · rw [Rs.hx_lt hn, hexP, show n / 16 = 0 by omega, hexP_zero, show n % 16 = n by omega]
      simp
    · rw [Rs.hx_ge (by omega)] at h ⊢
      rw [List.length_append, List.length_singleton] at h
      rw [hexP, hexP_hx k (n / 16) (by omega), List.length_append, List.length_singleton, List.append_assoc]
      congr 2
      omega
theorem bitsT_hexP {b : Int} (h1 : b < 18446744073709551616) : bitsT b = hexP 16 b.toNat := by
  rw [hexP_hx 16 _ (hx_len16 h1)]
  unfold bitsT
  rw [repeatL_one]
theorem dec_step {n : Nat} (h : 10 ≤ n) : Lib.decDigits n = Lib.decDigits (n / 10) ++ [UInt8.ofNat (48 + n % 10)] := by
  rw [Lib.decDigits, dif_neg (by omega)]
theorem dec_one {n : Nat} (h : n < 10) : Lib.decDigits n = [UInt8.ofNat (48 + n)] := by
  rw [Lib.decDigits, dif_pos h]
theorem itoa_neg {n : Int} (h : n < 0) : Lib.itoa n = 45 :: Lib.decDigits n.natAbs := by
  unfold Lib.itoa
  rw [if_pos h]
theorem itoa_pos {n : Int} (h : ¬ n < 0) : Lib.itoa n = Lib.decDigits n.toNat := by
  unfold Lib.itoa
  rw [if_neg h]
theorem dec_len : ∀ (k n : Nat), n < 10 ^ (k + 1) → (Lib.decDigits n).length ≤ k + 1
  | 0, n, h => by rw [dec_one (by simpa using h)]; simp
  | k + 1, n, h => by
    by_cases hn : n < 10
    · rw [dec_one hn]; simp
    · rw [dec_step (by omega), List.length_append, List.length_singleton]
      have := dec_len k (n / 10) (by rw [Nat.pow_succ] at h; exact Nat.div_lt_of_lt_mul (by rw [Nat.mul_comm]; exact h))
      omega
theorem ldig_at : ∀ n : Nat, n < 16 → (⟨#[48, 49, 50, 51, 52, 53, 54, 55, 56, 57, 97, 98, 99, 100, 101, 102]⟩ : ByteArray).extract n (n + 1) = ⟨#[Rs.ldig n]⟩
  | 0, _ => by decide
  | 1, _ => by decide
  | 2, _ => by decide
  | 3, _ => by decide
  | 4, _ => by decide
  | 5, _ => by decide
  | 6, _ => by decide
  | 7, _ => by decide
  | 8, _ => by decide
  | 9, _ => by decide
  | 10, _ => by decide
  | 11, _ => by decide
  | 12, _ => by decide
  | 13, _ => by decide
  | 14, _ => by decide
  | 15, _ => by decide
  | n + 16, h => by omega
theorem ldig_dec {n : Nat} (h : n < 10) : Rs.ldig n = UInt8.ofNat (48 + n) := by
  unfold Rs.ldig
  rw [if_pos h]
end Go.Proofs.YtmagojckhfkcdaaGreatDoor.Sk
/- Plain law of the reference's reading: numbers, bits and words read back. -/
namespace Go.Proofs.YtmagojckhfkcdaaGreatDoor.Sk
open Go
/-- the number of digits, whatever else there is -/
def numW (n : Nat) : B → Nat
  | [] => n
  | c :: r => numW (if 48 ≤ c.toNat ∧ c.toNat ≤ 57 then (10 * n + c.toNat - 48) % 18446744073709551616 else n) r
def numI (s : B) : Int := if s.head? = some 45 then Go.RowKit.wrap64 (IntKind.u64.wrap (-(numW 0 s : Int))) else Go.RowKit.wrap64 (numW 0 s : Int)
theorem numW_app : ∀ (a b : B) (n : Nat), numW n (a ++ b) = numW (numW n a) b
  | [], _, _ => rfl
  | c :: a, b, n => by simp only [List.cons_append, numW]; exact numW_app a b _
theorem numW_lt : ∀ (a : B) (n : Nat), n < 18446744073709551616 → numW n a < 18446744073709551616
  | [], _, h => h
  | c :: a, n, h => by
    simp only [numW]
    refine numW_lt a _ ?_
    split
    · omega
    · exact h
theorem numW_dec : ∀ u : Nat, u < 18446744073709551616 → numW 0 (Lib.decDigits u) = u := by
  intro u
  induction u using Nat.strongRecOn with
  | _ u ih =>
    intro hu
    by_cases h : u < 10
    · rw [dec_one h]
      have e : (UInt8.ofNat (48 + u)).toNat = 48 + u := by simp; omega
      simp only [numW, e]
      rw [if_pos (by omega)]
      omega
    · rw [dec_step (by omega), numW_app, ih (u / 10) (by omega) (by omega)]
      have e : (UInt8.ofNat (48 + u % 10)).toNat = 48 + u % 10 := by simp; omega
      simp only [numW, e]
      rw [if_pos (by omega)]
      omega
theorem numI_itoa {n : Int} (h0 : -9223372036854775808 ≤ n) (h1 : n ≤ 9223372036854775807) : numI (Lib.itoa n) = n := by
  unfold numI
  by_cases h : n < 0
  · rw [itoa_neg h]
    simp only [List.head?_cons, ↓reduceIte]
    have e : numW 0 (45 :: Lib.decDigits n.natAbs) = n.natAbs := by
      simp only [numW]
      rw [if_neg (by decide), numW_dec _ (by omega)]
    rw [e, IntKind.wrap_u64]
    unfold Go.RowKit.wrap64
    omega
  · rw [itoa_pos h]
    obtain ⟨c, r, e, h2, _⟩ := dec_head n.toNat
    rw [if_neg (by rw [e]; intro q; simp at q; rw [q] at h2; simp at h2), numW_dec _ (by omega)]
    unfold Go.RowKit.wrap64
    omega
theorem numI_range (s : B) : -9223372036854775808 ≤ numI s ∧ numI s ≤ 9223372036854775807 := by
  unfold numI
  split <;> unfold Go.RowKit.wrap64 <;> omega
/-- the number of hexadecimal digits, whatever else there is -/
def hexC (c : Nat) : Nat := if 97 ≤ c then c - 39 else c
def bitS (n : Nat) (c : UInt8) : Nat := (16 * n + hexC c.toNat + 18446744073709551568) % 18446744073709551616
theorem bitS_is (n : Nat) (c : UInt8) : ∃ q : Nat, q = bitS n c := by
  exact Exists.intro (bitS n c) (Eq.refl (bitS n c))
theorem bitS_lt (n : Nat) (c : UInt8) : bitS n c < 18446744073709551616 := by
  unfold bitS
  exact Nat.mod_lt _ (by omega)
def bitW (n : Nat) (s : B) : Nat := s.foldl bitS n
theorem bitW_nil (n : Nat) : bitW n [] = n := by
  unfold bitW
  rw [List.foldl_nil]
theorem bitW_snoc (a : B) (c : UInt8) (n : Nat) : bitW n (a ++ [c]) = bitS (bitW n a) c := by
  unfold bitW
  rw [List.foldl_append, List.foldl_cons, List.foldl_nil]
theorem hexC_ldig : ∀ n : Nat, n < 16 → hexC (Rs.ldig n).toNat = 48 + n
  | 0, _ => by decide
  | 1, _ => by decide
  | 2, _ => by decide
  | 3, _ => by decide
  | 4, _ => by decide
  | 5, _ => by decide
  | 6, _ => by decide
  | 7, _ => by decide
  | 8, _ => by decide
  | 9, _ => by decide
  | 10, _ => by decide
  | 11, _ => by decide
  | 12, _ => by decide
  | 13, _ => by decide
  | 14, _ => by decide
  | 15, _ => by decide
  | n + 16, h => by omega
theorem bitW_hexP : ∀ k n, n < 18446744073709551616 → k ≤ 16 → bitW 0 (hexP k n) = n % 16 ^ k
  | 0, n, _, _ => by
    rw [Nat.pow_zero, Nat.mod_one]
    rfl
  | k + 1, n, h, hk => by
    rw [hexP, bitW_snoc, bitW_hexP k (n / 16) (by omega) (by omega)]
    unfold bitS
    rw [hexC_ldig _ (Nat.mod_lt _ (by decide))]
    have e : n % 16 ^ (k + 1) = 16 * (n / 16 % 16 ^ k) + n % 16 := by
      rw [Nat.pow_succ, Nat.mul_comm (16 ^ k) 16, Nat.mod_mul]
      omega
    have h2 : n % 16 ^ (k + 1) < 18446744073709551616 := Nat.lt_of_le_of_lt (Nat.mod_le _ _) h
    omega
theorem bitW_bitsT {b : Int} (h0 : 0 ≤ b) (h1 : b < 18446744073709551616) : (bitW 0 (bitsT b) : Int) = b := by
  rw [bitsT_hexP h1, bitW_hexP 16 _ (by omega) (by omega), Nat.mod_eq_of_lt (by omega)]
  omega
/-- the value of a capital hexadecimal digit; 16 of any other byte -/
def valH (c : Nat) : Nat := if 48 ≤ c ∧ c ≤ 57 then c - 48 else if 65 ≤ c ∧ c ≤ 70 then c - 55 else 16
theorem valH_hexU : ∀ n : Nat, n < 16 → valH (hexU n).toNat = n
  | 0, _ => by decide
  | 1, _ => by decide
  | 2, _ => by decide
  | 3, _ => by decide
  | 4, _ => by decide
  | 5, _ => by decide
  | 6, _ => by decide
  | 7, _ => by decide
  | 8, _ => by decide
  | 9, _ => by decide
  | 10, _ => by decide
  | 11, _ => by decide
  | 12, _ => by decide
  | 13, _ => by decide
  | 14, _ => by decide
  | 15, _ => by decide
  | n + 16, h => by omega
theorem hexU_valH {c : UInt8} (h : valH c.toNat < 16) : hexU (valH c.toNat) = c := by
  have hc := c.toNat_lt
  unfold valH at h ⊢
  refine UInt8.toNat_inj.1 ?_
  unfold hexU
  split
  · rename_i h1
    rw [if_pos (by omega)]
    simp; omega
  · split
    · rw [if_neg (by omega)]
      simp; omega
    · rename_i h1 h2
      rw [if_neg h1, if_neg h2] at h
      omega
/-- the string that a word is to the reference -/
def hexR (a b : UInt8) : Option UInt8 := if valH a.toNat < 16 ∧ valH b.toNat < 16 then some (UInt8.ofNat (16 * valH a.toNat + valH b.toNat)) else none
def plainRGo : B → B
  | [] => []
  | [c] => [c]
  | [c, a] => [c, a]
  | c :: a :: b :: r => if c = 37 then (match hexR a b with | some x => x :: plainRGo r | none => c :: plainRGo (a :: b :: r)) else c :: plainRGo (a :: b :: r)
def plainR (w : B) : B := if w = [45] then [] else plainRGo w
theorem plainRGo_other {c : UInt8} (h : c ≠ 37) : ∀ r : B, plainRGo (c :: r) = c :: plainRGo r
  | [] => rfl
  | [_] => rfl
  | a :: b :: r => by rw [plainRGo, if_neg h]
theorem plainRGo_hex {a b x : UInt8} (h : hexR a b = some x) (r : B) : plainRGo (37 :: a :: b :: r) = x :: plainRGo r := by
  rw [plainRGo, if_pos rfl, h]
theorem plainRGo_not {a b : UInt8} (h : hexR a b = none) (r : B) : plainRGo (37 :: a :: b :: r) = 37 :: plainRGo (a :: b :: r) := by
  rw [plainRGo, if_pos rfl, h]
theorem plainRGo_short (c : UInt8) {r : B} (h : r.length < 2) : plainRGo (c :: r) = c :: plainRGo r := by
  match r, h with
  | [], _ => rfl
  | [_], _ => rfl
theorem hexR_back (c : UInt8) : hexR (hexU (c.toNat / 16)) (hexU (c.toNat % 16)) = some c := by
  have h := c.toNat_lt
  unfold hexR
  rw [valH_hexU _ (by omega), valH_hexU _ (by omega), if_pos (by omega), show 16 * (c.toNat / 16) + c.toNat % 16 = c.toNat by omega]
  simp
theorem plainR_flat : ∀ (s r : B), plainRGo (s.flatMap wordC ++ r) = s ++ plainRGo r
  | [], r => rfl
  | c :: s, r => by
    have ih := plainR_flat s r
    rw [List.flatMap_cons, List.append_assoc]
    rcases wordC_cases c with h | ⟨h, hc⟩
    · rw [h]
      show plainRGo (37 :: hexU (c.toNat / 16) :: hexU (c.toNat % 16) :: (s.flatMap wordC ++ r)) = _
      rw [plainRGo_hex (hexR_back c), ih]
      rfl
    · rw [h]
      show plainRGo (c :: (s.flatMap wordC ++ r)) = _
      rw [plainRGo_other hc, ih]
      rfl
theorem plainR_word (s : B) : plainR (wordS s) = s := by
  unfold wordS
  split
  · rename_i h; subst h; rfl
  · split
    · rename_i h; subst h; decide
    · rename_i h1 h2
      unfold plainR
      rw [if_neg (fun e => h2 (flat_one e))]
      have := plainR_flat s []
      simpa [plainRGo] using this
theorem plainRGo_len : ∀ (n : Nat) (s : B), s.length ≤ n → (plainRGo s).length ≤ s.length
  | 0, s, h => by
    cases s with
    | nil => simp [plainRGo]
    | cons _ _ => simp at h
  | n + 1, [], _ => by simp [plainRGo]
  | n + 1, [c], _ => by simp [plainRGo]
  | n + 1, [c, a], _ => by simp [plainRGo]
  | n + 1, c :: a :: b :: r, h => by
    have h1 := plainRGo_len n r (by simp at h; omega)
    have h2 := plainRGo_len n (a :: b :: r) (by simp at h ⊢; omega)
    rw [plainRGo]
    split
    · split
      · simp; omega
      · simp only [List.length_cons] at h2 ⊢; omega
    · simp only [List.length_cons] at h2 ⊢; omega
theorem plainR_len (s : B) : (plainR s).length ≤ s.length := by
  unfold plainR
  split
  · simp
  · exact plainRGo_len _ s (Nat.le_refl _)
end Go.Proofs.YtmagojckhfkcdaaGreatDoor.Sk
