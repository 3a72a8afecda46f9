/- Texts of the claim, put together: BkQ. -/
import Derived.Lib.IndexLaws
import Derived.Lib.TrimAscii
import Derived.Lib.QuoteLoop
import Derived.Test.YtimahlimmblgkaaGreatDoorPPlA
namespace Go.Proofs.YtimahlimmblgkaaGreatDoor.Rs
def lowS (c : Int) : S := if c = 100 then [(48, 57)] else if c = 115 then [(9, 10), (12, 13), (32, 32)] else [(48, 57), (65, 90), (95, 95), (97, 122)]
def namedB (c : Int) : Bool := c == 100 || c == 115 || c == 119 || c == 68 || c == 83 || c == 87
def namedS (c : Int) : S := if c = 100 ∨ c = 115 ∨ c = 119 then lowS c else if c = 68 ∨ c = 83 ∨ c = 87 then notS (lowS (c + 32)) else []
theorem lowS_right (c : Int) : right (lowS c) = true := by
  unfold lowS
  split
  · decide
  · split <;> decide
theorem hp1 (l : List UInt8) (c : UInt8) (hc : c.toNat ≠ 0) : Lib.hasPrefix l [c] = decide (bt l 0 = (c.toNat : Int)) := by
  cases l with
  | nil => simp [Lib.hasPrefix, bt]; omega
  | cons b t =>
    unfold Lib.hasPrefix bt
    rw [Bool.eq_iff_iff]
    simp only [List.isPrefixOf, Bool.and_true, beq_iff_eq, List.getD_cons_zero, decide_eq_true_eq]
    constructor
    · rintro rfl; rfl
    · intro h; exact UInt8.toNat_inj.1 (by omega)
theorem hp2 (l : List UInt8) (c d : UInt8) (hc : c.toNat ≠ 0) (hd : d.toNat ≠ 0) : Lib.hasPrefix l [c, d] = (decide (bt l 0 = (c.toNat : Int)) && decide (bt l 1 = (d.toNat : Int))) := by
  cases l with
  | nil => simp [Lib.hasPrefix, bt]; omega
  | cons b t =>
    have h := hp1 t d hd
    have h2 := hp1 (b :: t) c hc
    unfold Lib.hasPrefix at h h2 ⊢
    rw [show bt (b :: t) 1 = bt t 0 by simp [bt], ← h, ← h2]
    simp [List.isPrefixOf]
theorem bt_ge {l : List UInt8} {i : Nat} (h : l.length ≤ i) : bt l i = 0 := by simp [bt, List.getD, List.getElem?_eq_none h]
theorem escS_ok {l : List UInt8} {c : Int} {n : Nat} (h : escS l = some (c, n)) : pt c = true ∧ 2 ≤ n ∧ n ≤ l.length := by
  unfold escS at h
  split at h
  · cases h
  rename_i h2
  split at h
  · cases h
  rename_i hb0
  split at h
  · rename_i x hx
    cases h
    refine ⟨?_, by omega, by omega⟩
    unfold sign at hx
    split at hx
    · cases hx; decide
    split at hx
    · cases hx; decide
    split at hx
    · cases hx; decide
    split at hx
    · cases hx; decide
    split at hx
    · cases hx; decide
    split at hx
    · cases hx; decide
    · cases hx
  · have hpt : ∀ {m : Nat} {o : Option Int}, ptO m o = some (c, n) → pt c = true ∧ n = m := by
      intro m o ho
      unfold ptO at ho
      split at ho
      · split at ho
        · rename_i hp; cases ho; exact ⟨hp, rfl⟩
        · cases ho
      · cases ho
    split at h
    · rename_i h3
      dsimp only at h
      split at h
      · cases h
      · rename_i hi
        obtain ⟨h4, h5⟩ := hpt h
        have hge := Lib.indexByte_ge l 125
        obtain ⟨o, ho⟩ : ∃ o : Nat, Lib.indexByte l 125 = o := ⟨(Lib.indexByte l 125).toNat, by omega⟩
        have := (List.getElem?_eq_some_iff.1 (Lib.indexByte_some ho).1).1
        have h6 : 1 ≤ o := by
          rcases Nat.eq_zero_or_pos o with h0 | h0
          · subst h0
            have hg := (Lib.indexByte_some ho).1
            have : bt l 0 = 125 := by unfold bt; rw [List.getD, hg]; rfl
            exact absurd this (by omega)
          · exact h0
        rw [ho] at h5
        exact ⟨h4, by omega, by omega⟩
    · split at h
      · rename_i h3
        obtain ⟨h4, h5⟩ := hpt h
        exact ⟨h4, by omega, by omega⟩
      · split at h
        · rename_i h3
          cases h
          exact ⟨by rw [pt_iff]; omega, by omega, by omega⟩
        · cases h
theorem decS_ok {t : List UInt8} (h : t ≠ []) : pt ((decS t).1 : Int) = true ∧ 1 ≤ (decS t).2 ∧ (decS t).2 ≤ t.length := by
  unfold decS
  rw [if_neg h]
  have hl := List.length_pos_iff.2 h
  have e := Lib.decode_N ⟨t.toArray⟩ 0
  unfold Lib.decodeL
  rw [e]
  have hv := Lib.decodeN_valid (t.length - 0) (t.getD 0 0).toNat (t.getD (0 + 1) 0).toNat (t.getD (0 + 2) 0).toNat (t.getD (0 + 3) 0).toNat (t.getD 0 0).toNat_lt
  have hw := Lib.decodeN_width_le (t.length - 0) (t.getD 0 0).toNat (t.getD (0 + 1) 0).toNat (t.getD (0 + 2) 0).toNat (t.getD (0 + 3) 0).toNat (by omega)
  have hw1 := Lib.decodeL_width t
  unfold Lib.decodeL at hw1
  rw [e] at hw1
  refine ⟨?_, hw1, ?_⟩
  · rw [pt_iff]
    simp only
    omega
  · simp only
    omega
theorem partS_ok {t : List UInt8} {a : Int} {n : Nat} (h : partS t = some (a, n)) : pt a = true ∧ 1 ≤ n ∧ n ≤ t.length := by
  unfold partS at h
  split at h
  · cases h
  · rename_i h0
    split at h
    · have := escS_ok h
      exact ⟨this.1, by omega, this.2.2⟩
    · split at h
      · cases h
        exact decS_ok (by intro e; subst e; simp at h0)
      · cases h
theorem namedO_eq (c : Int) : namedO c = if namedB c then some (namedS c) else none := by
  unfold namedO namedB namedS
  by_cases h1 : c = 100
  · subst h1; rfl
  by_cases h2 : c = 115
  · subst h2; rfl
  by_cases h3 : c = 119
  · subst h3; rfl
  by_cases h4 : c = 68
  · subst h4; rfl
  by_cases h5 : c = 83
  · subst h5; rfl
  by_cases h6 : c = 87
  · subst h6; rfl
  simp [h1, h2, h3, h4, h5, h6]
def rgAll (l : S) : Bool := l.all fun r => decide (0 ≤ r.1) && decide (r.1 ≤ r.2) && decide (r.2 ≤ 1114111)
theorem rgAll_rg {l : S} (h : rgAll l = true) : ∀ r ∈ l, rg r := by
  intro r hr
  have := List.all_eq_true.1 h r hr
  simp at this
  exact ⟨this.1.1, this.1.2, this.2⟩
theorem namedS_rg (c : Int) : (∀ r ∈ namedS c, rg r) ∧ (namedS c).length ≤ 8 := by
  unfold namedS
  split
  · rename_i h
    rcases h with rfl | rfl | rfl <;> exact ⟨rgAll_rg (by decide), by decide⟩
  · split
    · rename_i h
      rcases h with rfl | rfl | rfl <;> exact ⟨rgAll_rg (by decide +kernel), by decide +kernel⟩
    · simp
theorem it_done {f : Nat} {t : List UInt8} {acc : S} (h : bt t 0 = 93) : itemsS (f + 1) t false acc = some (acc, t.drop 1) := by
  unfold itemsS; rw [if_pos ⟨rfl, h⟩]
theorem it_step {f n : Nat} {t : List UInt8} {first : Bool} {acc l : S} (h : ¬ (first = false ∧ bt t 0 = 93)) (hi : itemS t first = some (l, n)) : itemsS (f + 1) t first acc = itemsS f (t.drop n) false (acc ++ l) := by
  rw [itemsS, if_neg h, hi]
theorem it_fail {f : Nat} {t : List UInt8} {first : Bool} {acc : S} (h : ¬ (first = false ∧ bt t 0 = 93)) (hi : itemS t first = none) : itemsS (f + 1) t first acc = none := by
  unfold itemsS; rw [if_neg h, hi]
theorem item_named {t : List UInt8} {first : Bool} (h0 : bt t 0 = 92) (h1 : 1 < t.length) (hn : namedB (bt t 1) = true) : itemS t first = some (namedS (bt t 1), 2) := by
  unfold itemS; rw [if_pos ⟨h0, h1⟩, namedO_eq, if_pos hn]
theorem not_named {t : List UInt8} (h : ¬ (bt t 0 = 92 ∧ 1 < t.length ∧ namedB (bt t 1) = true)) : (if bt t 0 = 92 ∧ 1 < t.length then namedO (bt t 1) else none) = none := by
  split
  · rename_i h'
    rw [namedO_eq, if_neg (fun e => h ⟨h'.1, h'.2, e⟩)]
  · rfl
theorem item_dash {t : List UInt8} {first : Bool} (h0 : bt t 0 = 45) (h1 : first = true ∨ bt t 1 = 93) : itemS t first = some ([(45, 45)], 1) := by
  unfold itemS
  rw [not_named (fun e => by rw [h0] at e; omega), if_pos ⟨h0, h1⟩]
theorem item_none {t : List UInt8} {first : Bool} (hn : ¬ (bt t 0 = 92 ∧ 1 < t.length ∧ namedB (bt t 1) = true)) (hd : ¬ (bt t 0 = 45 ∧ (first = true ∨ bt t 1 = 93))) (hp : partS t = none) : itemS t first = none := by
  unfold itemS
  rw [not_named hn, if_neg hd, hp]
theorem item_one {t : List UInt8} {first : Bool} {a : Int} {n : Nat} (hn : ¬ (bt t 0 = 92 ∧ 1 < t.length ∧ namedB (bt t 1) = true)) (hd : ¬ (bt t 0 = 45 ∧ (first = true ∨ bt t 1 = 93))) (hp : partS t = some (a, n)) (h : ¬ (bt t n = 45 ∧ bt t (n + 1) ≠ 93)) : itemS t first = some ([(a, a)], n) := by
  unfold itemS
  rw [not_named hn, if_neg hd, hp]
  simp only
  rw [if_neg h]
theorem item_two {t : List UInt8} {first : Bool} {a : Int} {n : Nat} (hn : ¬ (bt t 0 = 92 ∧ 1 < t.length ∧ namedB (bt t 1) = true)) (hd : ¬ (bt t 0 = 45 ∧ (first = true ∨ bt t 1 = 93))) (hp : partS t = some (a, n)) (h : bt t n = 45 ∧ bt t (n + 1) ≠ 93) :
    itemS t first = match partS (t.drop (n + 1)) with
          | none => none
          | some (b, m) => if b < a then none else some ([(a, b)], n + 1 + m) := by
  unfold itemS
  rw [not_named hn, if_neg hd, hp]
  simp only
  rw [if_pos h]
  rcases partS (t.drop (n + 1)) with _ | ⟨b, m⟩ <;> rfl
end Go.Proofs.YtimahlimmblgkaaGreatDoor.Rs
namespace Go.Proofs.YtimahlimmblgkaaGreatDoor.Rs
theorem hexDig_fin2 : ∀ d : Fin 16, hexD ((hexDig d.val).toNat : Int) = some (d.val : Int) ∧ hexDig d.val ≠ 125 := by decide +kernel
theorem hexF_append : ∀ (l m : List UInt8) (n : Int), hexF (l ++ m) n = (hexF l n).bind (fun x => hexF m x)
  | [], _, _ => rfl
  | b :: l, m, n => by
    simp only [List.cons_append, hexF]
    cases hexD (b.toNat : Int) with
    | none => rfl
    | some d => exact hexF_append l m _
theorem hexF_one (n : Int) (d : Nat) (h : d < 16) : hexF [hexDig d] n = some (16 * n + d) := by
  have := (hexDig_fin2 ⟨d, h⟩).1
  simp only at this
  simp only [hexF, this]
theorem hexT_val : ∀ (f n : Nat), n < 16 ^ f → hexF (hexT f n) 0 = some (n : Int)
  | 0, n, h => by
    have : n = 0 := by simpa using h
    subst this; rfl
  | f + 1, n, h => by
    rw [Nat.pow_succ] at h
    unfold hexT
    split
    · rename_i h1
      rw [hexF_one 0 n h1]
      simp
    · rw [hexF_append, hexT_val f (n / 16) (by omega)]
      simp only [Option.bind_some]
      rw [hexF_one _ _ (Nat.mod_lt _ (by decide))]
      congr 1
      omega
theorem hexT_len : ∀ (f n k : Nat), n < 16 ^ k → 1 ≤ k → (hexT f n).length ≤ k
  | 0, _, _, _, _ => by simp [hexT]
  | f + 1, n, k, h, hk => by
    unfold hexT
    split
    · simpa using hk
    · rename_i h1
      obtain ⟨k', rfl⟩ : ∃ k', k = k' + 1 := ⟨k - 1, by omega⟩
      rw [Nat.pow_succ] at h
      have h2 : 1 ≤ k' := by
        rcases Nat.eq_zero_or_pos k' with e | e
        · subst e; simp at h; omega
        · exact e
      have := hexT_len f (n / 16) k' (by omega) h2
      simp only [List.length_append, List.length_singleton]
      omega
theorem hexT_ne : ∀ (f n : Nat), ∀ b ∈ hexT f n, b ≠ 125
  | 0, _, b, h => by simp [hexT] at h
  | f + 1, n, b, h => by
    unfold hexT at h
    split at h
    · rename_i h1
      simp only [List.mem_singleton] at h
      subst h
      exact (hexDig_fin2 ⟨n, h1⟩).2
    · rcases List.mem_append.1 h with h | h
      · exact hexT_ne f (n / 16) b h
      · simp only [List.mem_singleton] at h
        subst h
        exact (hexDig_fin2 ⟨n % 16, Nat.mod_lt _ (by decide)⟩).2
theorem hexT_pos (f n : Nat) : 1 ≤ (hexT (f + 1) n).length := by
  unfold hexT
  split <;> simp
theorem hexS_hexT {n : Nat} (h : n < 16 ^ 6) : hexS (hexT 16 n) = some (n : Int) := by
  have h1 := hexT_len 16 n 6 h (by decide)
  have h2 : 1 ≤ (hexT 16 n).length := hexT_pos 15 n
  unfold hexS
  rw [if_neg (by omega)]
  exact hexT_val 16 n (Nat.lt_of_lt_of_le h (by decide))
theorem idx_pre : ∀ (l m : List UInt8) (c : UInt8), (∀ b ∈ l, b ≠ c) → Lib.indexByte (l ++ c :: m) c = (l.length : Int)
  | [], m, c, _ => by simp [Lib.indexByte]
  | b :: l, m, c, h => by
    have hb : b ≠ c := h b (by simp)
    have ih := idx_pre l m c (fun x hx => h x (by simp [hx]))
    simp only [List.cons_append, Lib.indexByte, ih]
    rw [if_neg (by simpa using hb), if_neg (by simp)]
    simp
/-- a brace escape with the digits of a number is read as the number -/
theorem escS_digits {d : List UInt8} {x : Int} (rest : List UInt8) (hd : hexS d = some x) (hl : d.length ≤ 6) (hne : ∀ b ∈ d, b ≠ 125) : escS ([92, 120, 123] ++ d ++ [125] ++ rest) = if pt x then some (x, d.length + 4) else none := by
  have e : [92, 120, 123] ++ d ++ [125] ++ rest = (92 :: 120 :: 123 :: d) ++ 125 :: rest := by simp
  have hi : Lib.indexByte ((92 :: 120 :: 123 :: d) ++ 125 :: rest) 125 = (d.length + 3 : Nat) := by
    rw [idx_pre _ _ _ (by
      intro b hb
      simp only [List.mem_cons] at hb
      rcases hb with rfl | rfl | rfl | hb
      · decide
      · decide
      · decide
      · exact hne b hb)]
    simp
    omega
  rw [e]
  unfold escS
  have b0 : bt ((92 :: 120 :: 123 :: d) ++ 125 :: rest) 0 = 92 := rfl
  have b1 : bt ((92 :: 120 :: 123 :: d) ++ 125 :: rest) 1 = 120 := rfl
  have b2 : bt ((92 :: 120 :: 123 :: d) ++ 125 :: rest) 2 = 123 := rfl
  have hs : sign 120 = none := rfl
  have hlen : ((92 :: 120 :: 123 :: d) ++ 125 :: rest).length = d.length + rest.length + 4 := by simp; omega
  rw [b0, b1, b2, hlen, hs, hi]
  rw [if_neg (by omega), if_neg (by omega)]
  simp only
  rw [if_pos ⟨trivial, by omega, trivial⟩, if_neg (by omega)]
  have e2 : (((92 :: 120 :: 123 :: d) ++ 125 :: rest).take ((d.length + 3 : Nat) : Int).toNat).drop 3 = d := by
    rw [Int.toNat_natCast, List.take_append_of_le_length (by simp)]
    simp
  rw [e2, hd]
  simp only [ptO, Int.toNat_natCast]
theorem markS_esc {c : Int} (h : plainB c = false) (hp : pt c = true) (rest : List UInt8) : escS (markS c ++ rest) = some (c, (markS c).length) := by
  have hc := (pt_iff c).1 hp
  have hn : c.toNat < 16 ^ 6 := by omega
  have h1 := hexT_len 16 c.toNat 6 hn (by decide)
  have := escS_digits rest (hexS_hexT hn) h1 (hexT_ne 16 c.toNat)
  have e : markS c = [92, 120, 123] ++ hexT 16 c.toNat ++ [125] := by unfold markS; rw [h]; rfl
  rw [e, this, show ((c.toNat : Int)) = c by omega, if_pos hp]
  simp
theorem bt_cons0 (b : UInt8) (t : List UInt8) : bt (b :: t) 0 = (b.toNat : Int) := rfl
theorem bt_consS (b : UInt8) (t : List UInt8) (i : Nat) : bt (b :: t) (i + 1) = bt t i := by simp [bt]
theorem bt_appR (l m : List UInt8) (i : Nat) : bt (l ++ m) (l.length + i) = bt m i := by simp [bt, List.getD, List.getElem?_append_right (Nat.le_add_right l.length i)]
theorem markS_plain {c : Int} (h : plainB c = true) : ∃ b : UInt8, markS c = [b] ∧ (b.toNat : Int) = c ∧ 33 ≤ c ∧ c ≤ 126 ∧ c ≠ 45 ∧ c ≠ 91 ∧ c ≠ 92 ∧ c ≠ 93 ∧ c ≠ 94 := by
  refine ⟨UInt8.ofNat c.toNat, by unfold markS; rw [h]; rfl, ?_, ?_⟩
  · unfold plainB at h
    have h := of_decide_eq_true h
    simp; omega
  · exact of_decide_eq_true h
theorem markS_hd (c : Int) (rest : List UInt8) : bt (markS c ++ rest) 0 ≠ 93 ∧ bt (markS c ++ rest) 0 ≠ 45 ∧ bt (markS c ++ rest) 0 ≠ 94 ∧ (bt (markS c ++ rest) 0 = 92 → bt (markS c ++ rest) 1 = 120) := by
  cases hp : plainB c
  · have e : markS c ++ rest = 92 :: 120 :: (123 :: hexT 16 c.toNat ++ [125] ++ rest) := by unfold markS; rw [hp]; simp
    rw [e, bt_cons0]
    refine ⟨by decide, by decide, by decide, fun _ => rfl⟩
  · obtain ⟨b, e, h⟩ := markS_plain hp
    rw [e]
    show (b.toNat : Int) ≠ 93 ∧ (b.toNat : Int) ≠ 45 ∧ (b.toNat : Int) ≠ 94 ∧ ((b.toNat : Int) = 92 → _)
    refine ⟨by omega, by omega, by omega, fun h' => by omega⟩
theorem markS_pos (c : Int) : 1 ≤ (markS c).length := by
  unfold markS
  split <;> simp
theorem partS_mark {c : Int} (hp : pt c = true) (rest : List UInt8) : partS (markS c ++ rest) = some (c, (markS c).length) := by
  have hl := markS_pos c
  unfold partS
  rw [if_neg (by rw [List.length_append]; omega)]
  cases h : plainB c
  · rw [if_pos, markS_esc h hp]
    unfold markS; rw [h]; rfl
  · obtain ⟨b, e, hb, h2⟩ := markS_plain h
    rw [e, show [b] ++ rest = b :: rest from rfl, if_neg (by rw [bt_cons0]; omega)]
    have hd : decS (b :: rest) = (b.toNat, 1) := by
      unfold decS
      rw [if_neg (by simp), Lib.decodeL_ascii b rest (by omega)]
    rw [hd, if_pos (by simp only; omega)]
    simp [hb]
/-- the text of a range is read as an item -/
theorem item_text {r : R} (h1 : pt r.1 = true) (h2 : pt r.2 = true) (h3 : r.1 ≤ r.2) (rest : List UInt8) (hr : bt rest 0 ≠ 45) (first : Bool) : itemS (rangeT r ++ rest) first = some ([r], (rangeT r).length) := by
  obtain ⟨lo, hi⟩ := r
  simp only at h1 h2 h3
  by_cases hlt : lo < hi
  · have e : rangeT (lo, hi) ++ rest = markS lo ++ 45 :: (markS hi ++ rest) := by
      unfold rangeT; rw [if_pos hlt]; simp
    have hl : (rangeT (lo, hi)).length = (markS lo).length + 1 + (markS hi).length := by
      unfold rangeT; rw [if_pos hlt]; simp; omega
    rw [e, hl]
    obtain ⟨m1, m2, m3, m4⟩ := markS_hd lo (45 :: (markS hi ++ rest))
    obtain ⟨k1, _⟩ := markS_hd hi rest
    rw [item_two (a := lo) (n := (markS lo).length) (fun e => by
      have := m4 e.1
      have h := e.2.2
      rw [this] at h
      exact absurd h (by decide)) (fun e => m2 e.1) (partS_mark h1 _) ⟨by have := bt_appR (markS lo) (45 :: (markS hi ++ rest)) 0; rw [Nat.add_zero] at this; rw [this]; rfl, by rw [bt_appR, bt_consS]; exact k1⟩]
    have e2 : (markS lo ++ 45 :: (markS hi ++ rest)).drop ((markS lo).length + 1) = markS hi ++ rest := by
      rw [List.drop_append]; simp
    rw [e2, partS_mark h2]
    simp only
    rw [if_neg (by omega)]
  · have hh : lo = hi := by omega
    subst hh
    have e : rangeT (lo, lo) = markS lo := by unfold rangeT; simp
    rw [e]
    obtain ⟨m1, m2, m3, m4⟩ := markS_hd lo rest
    rw [item_one (a := lo) (n := (markS lo).length) (fun e => by
      have := m4 e.1
      have h := e.2.2
      rw [this] at h
      exact absurd h (by decide)) (fun e => m2 e.1) (partS_mark h1 _) (fun e => by
        have := bt_appR (markS lo) rest 0
        rw [Nat.add_zero] at this
        rw [this] at e
        exact hr e.1)]
theorem rangeT_hd (r : R) (rest : List UInt8) : bt (rangeT r ++ rest) 0 ≠ 93 ∧ bt (rangeT r ++ rest) 0 ≠ 45 ∧ bt (rangeT r ++ rest) 0 ≠ 94 := by
  unfold rangeT
  rw [List.append_assoc]
  obtain ⟨a, b, c, _⟩ := markS_hd r.1 ((if r.1 < r.2 then 45 :: markS r.2 else []) ++ rest)
  exact ⟨a, b, c⟩
theorem flat_hd (l : S) (rest : List UInt8) : bt (l.flatMap rangeT ++ 93 :: rest) 0 ≠ 45 ∧ bt (l.flatMap rangeT ++ 93 :: rest) 0 ≠ 94 := by
  cases l with
  | nil => exact ⟨by simp [bt], by simp [bt]⟩
  | cons r l =>
    rw [List.flatMap_cons, List.append_assoc]
    exact (rangeT_hd r _).2
theorem items_text : ∀ (l : S) (f : Nat) (first : Bool) (acc : S) (rest : List UInt8), (∀ r ∈ l, pt r.1 = true ∧ pt r.2 = true ∧ r.1 ≤ r.2) → l.length < f → (first = true → l ≠ []) →
    itemsS f (l.flatMap rangeT ++ 93 :: rest) first acc = some (acc ++ l, rest)
  | [], f, first, acc, rest, _, hf, h0 => by
    obtain ⟨f, rfl⟩ : ∃ k, f = k + 1 := ⟨f - 1, by simp at hf; omega⟩
    cases first
    · rw [List.flatMap_nil, List.nil_append, it_done rfl]
      simp
    · exact absurd rfl (h0 rfl)
  | r :: l, f, first, acc, rest, hl, hf, _ => by
    obtain ⟨f, rfl⟩ : ∃ k, f = k + 1 := ⟨f - 1, by simp at hf; omega⟩
    obtain ⟨h1, h2, h3⟩ := hl r (by simp)
    rw [List.flatMap_cons, List.append_assoc, it_step (fun e => (rangeT_hd r _).1 e.2) (item_text h1 h2 h3 _ (flat_hd l rest).1 first)]
    rw [List.drop_append_of_le_length (Nat.le_refl _), List.drop_length, List.nil_append]
    rw [items_text l f false (acc ++ [r]) rest (fun q hq => hl q (by simp [hq])) (by simp at hf; omega) (fun e => by cases e)]
    simp
theorem okAll {l : S} (h : right l = true) : ∀ r ∈ l, pt r.1 = true ∧ pt r.2 = true ∧ r.1 ≤ r.2 := by
  intro r hr
  obtain ⟨i, hi⟩ := List.getElem?_of_mem hr
  have ho := ((right_iff l).1 h).1 i r hi
  rw [okR_iff] at ho
  rw [pt_iff, pt_iff]
  omega
theorem flat_ge (l : S) : l.length ≤ (l.flatMap rangeT).length := by
  induction l with
  | nil => simp
  | cons r l ih =>
    have := markS_pos r.1
    simp only [List.flatMap_cons, List.length_append, List.length_cons, rangeT]
    omega
theorem not_all : notS (setOf [(0, 1114111)]) = [] := by decide +kernel
theorem allT_eq : allT = [91, 94] ++ [((0, 1114111) : R)].flatMap rangeT ++ [93] := by decide +kernel
/-- the text of a right set is read back, whatever follows -/
theorem read_text {l : S} (h : right l = true) (rest : List UInt8) : readF (textS l ++ rest) = some (l, (textS l).length) := by
  by_cases h0 : l = []
  · subst h0
    have e : textS [] ++ rest = 91 :: 94 :: ([((0, 1114111) : R)].flatMap rangeT ++ 93 :: rest) := by
      unfold textS; rw [if_pos rfl, allT_eq]; simp
    have hlen : (textS []).length = 19 := by decide
    rw [hlen, e]
    unfold readF
    rw [if_neg (by simp [bt])]
    have b1 : bt (91 :: 94 :: ([((0, 1114111) : R)].flatMap rangeT ++ 93 :: rest)) 1 = 94 := rfl
    rw [b1]
    simp only [if_true, List.drop_succ_cons, List.drop_zero]
    rw [items_text [((0, 1114111) : R)] _ true [] rest (by intro r hr; simp at hr; subst hr; decide) (by simp) (by simp)]
    simp only [List.nil_append, not_all]
    congr 2
    have : ([((0, 1114111) : R)].flatMap rangeT).length = 16 := by decide +kernel
    simp only [List.length_cons, List.length_append, this]
    omega
  · have e : textS l ++ rest = 91 :: (l.flatMap rangeT ++ 93 :: rest) := by
      unfold textS; rw [if_neg h0]; simp
    have hlen : (textS l).length = (l.flatMap rangeT).length + 2 := by
      unfold textS; rw [if_neg h0]; simp
    have hg := flat_ge l
    rw [hlen, e]
    unfold readF
    rw [if_neg (by simp [bt])]
    have b1 : bt (91 :: (l.flatMap rangeT ++ 93 :: rest)) 1 ≠ 94 := by rw [bt_consS]; exact (flat_hd l rest).2
    simp only [if_neg b1, List.drop_succ_cons, List.drop_zero]
    rw [items_text l _ true [] rest (okAll h) (by simp only [List.length_cons, List.length_append]; omega) (fun _ => h0)]
    simp only [List.nil_append, setOf_self h]
    congr 2
    simp only [List.length_cons, List.length_append]
    omega
theorem itemS_ok {t : List UInt8} {first : Bool} {l : S} {n : Nat} (h : itemS t first = some (l, n)) : 1 ≤ n ∧ n ≤ t.length ∧ ∀ r ∈ l, rg r := by
  by_cases hn : bt t 0 = 92 ∧ 1 < t.length ∧ namedB (bt t 1) = true
  · rw [item_named hn.1 hn.2.1 hn.2.2] at h
    cases h
    exact ⟨by omega, by omega, (namedS_rg _).1⟩
  by_cases hd : bt t 0 = 45 ∧ (first = true ∨ bt t 1 = 93)
  · rw [item_dash hd.1 hd.2] at h
    cases h
    refine ⟨by omega, ?_, ?_⟩
    · rcases Nat.eq_zero_or_pos t.length with e | e
      · have := List.eq_nil_of_length_eq_zero e
        subst this
        exact absurd hd.1 (by decide)
      · exact e
    · intro r hr
      simp only [List.mem_singleton] at hr
      subst hr
      exact ⟨by decide, by decide, by decide⟩
  cases hp : partS t with
  | none => rw [item_none hn hd hp] at h; cases h
  | some x =>
    obtain ⟨a, k⟩ := x
    obtain ⟨p1, p2, p3⟩ := partS_ok hp
    have p1' := (pt_iff a).1 p1
    by_cases h2 : bt t k = 45 ∧ bt t (k + 1) ≠ 93
    · rw [item_two hn hd hp h2] at h
      cases hq : partS (t.drop (k + 1)) with
      | none => rw [hq] at h; cases h
      | some y =>
        obtain ⟨b, m⟩ := y
        obtain ⟨q1, q2, q3⟩ := partS_ok hq
        have q1' := (pt_iff b).1 q1
        rw [hq] at h
        simp only at h
        split at h
        · cases h
        · cases h
          rw [List.length_drop] at q3
          refine ⟨by omega, by omega, ?_⟩
          intro r hr
          simp only [List.mem_singleton] at hr
          subst hr
          exact ⟨by simp only; omega, by simp only; omega, by simp only; omega⟩
    · rw [item_one hn hd hp h2] at h
      cases h
      refine ⟨p2, p3, ?_⟩
      intro r hr
      simp only [List.mem_singleton] at hr
      subst hr
      exact ⟨by simp only; omega, by simp only; omega, by simp only; omega⟩
theorem itemsS_fuel : ∀ (f g : Nat) (t : List UInt8) (first : Bool) (acc : S), t.length < f → t.length < g → itemsS f t first acc = itemsS g t first acc
  | 0, _, _, _, _, h, _ => by omega
  | _ + 1, 0, _, _, _, _, h => by omega
  | f + 1, g + 1, t, first, acc, hf, hg => by
    unfold itemsS
    split
    · rfl
    · cases hi : itemS t first with
      | none => rfl
      | some x =>
        obtain ⟨l, n⟩ := x
        obtain ⟨h1, h2, _⟩ := itemS_ok hi
        exact itemsS_fuel f g _ false _ (by rw [List.length_drop]; omega) (by rw [List.length_drop]; omega)
theorem itemsS_ok : ∀ (f : Nat) (t : List UInt8) (first : Bool) (acc l : S) (r : List UInt8), (∀ q ∈ acc, rg q) → itemsS f t first acc = some (l, r) →
    (∀ q ∈ l, rg q) ∧ ∃ k, r = t.drop k ∧ (if first then 2 else 1) ≤ k ∧ k ≤ t.length ∧ bt t (k - 1) = 93
  | 0, _, _, _, _, _, _, h => by simp [itemsS] at h
  | f + 1, t, first, acc, l, r, ha, h => by
    by_cases hc : first = false ∧ bt t 0 = 93
    · obtain ⟨rfl, h93⟩ := hc
      rw [it_done h93] at h
      cases h
      refine ⟨ha, 1, rfl, by simp, ?_, h93⟩
      rcases Nat.eq_zero_or_pos t.length with e | e
      · have := List.eq_nil_of_length_eq_zero e
        subst this
        exact absurd h93 (by decide)
      · exact e
    · cases hi : itemS t first with
      | none => rw [it_fail hc hi] at h; cases h
      | some x =>
        obtain ⟨m, n⟩ := x
        obtain ⟨h1, h2, h3⟩ := itemS_ok hi
        rw [it_step hc hi] at h
        obtain ⟨g1, k, g2, g3, g4, g5⟩ := itemsS_ok f _ false _ l r (by
          intro q hq
          rcases List.mem_append.1 hq with hq | hq
          · exact ha q hq
          · exact h3 q hq) h
        simp only [Bool.false_eq_true, if_false] at g3
        rw [List.length_drop] at g4
        refine ⟨g1, n + k, by rw [g2, List.drop_drop], by split <;> omega, by omega, ?_⟩
        rw [bt_drop] at g5
        rw [show n + k - 1 = n + (k - 1) by omega]
        exact g5
/-- what is read of a string behind a bracket -/
theorem read_any {s : List UInt8} {l : S} {n : Nat} (h : readF (91 :: s) = some (l, n)) :
    right l = true ∧ 3 ≤ n ∧ n ≤ s.length + 1 ∧ bt s (n - 2) = 93 ∧ (bt s 0 ≠ 94 → readF (91 :: 94 :: s) = some (notS l, n + 1)) := by
  unfold readF at h
  rw [if_neg (by simp [bt]), bt_consS] at h
  by_cases h94 : bt s 0 = 94
  · simp only [if_pos h94, List.drop_succ_cons] at h
    cases hi : itemsS ((91 :: s).length + 1) (s.drop 1) true [] with
    | none => rw [hi] at h; cases h
    | some x =>
      obtain ⟨m, r⟩ := x
      rw [hi] at h
      obtain ⟨g1, k, rfl, g3, g4, g5⟩ := itemsS_ok _ _ _ _ _ _ (by simp) hi
      simp only [if_true] at g3
      rw [List.length_drop] at g4
      cases h
      have hr := setOf_right m g1
      rw [bt_drop] at g5
      simp only [List.length_cons, List.length_drop]
      refine ⟨notS_right hr, by omega, by omega, ?_, fun e => absurd h94 e⟩
      rw [show s.length + 1 - (s.length - 1 - k) - 2 = 1 + (k - 1) by omega]
      exact g5
  · simp only [if_neg h94, List.drop_succ_cons, List.drop_zero] at h
    cases hi : itemsS ((91 :: s).length + 1) s true [] with
    | none => rw [hi] at h; cases h
    | some x =>
      obtain ⟨m, r⟩ := x
      rw [hi] at h
      have hi2 := hi
      rw [itemsS_fuel _ ((91 :: 94 :: s).length + 1) _ _ _ (by simp; omega) (by simp; omega)] at hi2
      obtain ⟨g1, k, rfl, g3, g4, g5⟩ := itemsS_ok _ _ _ _ _ _ (by simp) hi
      simp only [if_true] at g3
      cases h
      have hr := setOf_right m g1
      simp only [List.length_cons, List.length_drop]
      refine ⟨hr, by omega, by omega, ?_, fun _ => ?_⟩
      · rw [show s.length + 1 - (s.length - k) - 2 = k - 1 by omega]
        exact g5
      · unfold readF
        rw [if_neg (by simp [bt])]
        have b1 : bt (91 :: 94 :: s) 1 = 94 := rfl
        rw [b1]
        simp only [if_true, List.drop_succ_cons, List.drop_zero]
        rw [hi2]
        simp only [List.length_cons, List.length_drop]
        congr 2
        omega
end Go.Proofs.YtimahlimmblgkaaGreatDoor.Rs
