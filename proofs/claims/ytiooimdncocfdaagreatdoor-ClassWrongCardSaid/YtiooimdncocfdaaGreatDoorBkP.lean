/- Several parts in one text: BackP, NamP, WroP, OfP, WroQ. -/
import Derived.Lib.IndexLaws
import Derived.Lib.TrimAscii
import Derived.Test.YtiooimdncocfdaaGreatDoorRdA
import Derived.Test.YtiooimdncocfdaaGreatDoorReA
import Derived.Test.YtiooimdncocfdaaGreatDoorPlA
import Derived.Test.YtiooimdncocfdaaGreatDoorSlD
import Derived.Test.YtiooimdncocfdaaGreatDoorMaA
import Derived.Test.YtiooimdncocfdaaGreatDoorSlC
/- Plain facts on classes as texts: the text of a right set is read back, whatever follows; what is read of any string behind a bracket. -/
namespace Go.Proofs.YtiooimdncocfdaaGreatDoor.Rs
/-! hexadecimal digits are read back -/
theorem hexDig_fin2 : ∀ d : Fin 16, hexD ((hexDig d.val).toNat : Int) = some (d.val : Int) ∧ hexDig d.val ≠ 125 := by decide +kernel
theorem hexF_append : ∀ (l m : List UInt8) (n : Int), hexF (l ++ m) n = (hexF l n).bind (fun x => hexF m x)
  | [], _, _ => rfl
  | b :: l, m, n => by
    simp only [List.cons_append, hexF]
    cases hexD (b.toNat : Int) with
    | none => rfl
    | some d => exact hexF_append l m _
theorem hexF_one (n : Int) (d : Nat) (h : d < 16) : hexF [hexDig d] n = some (16 * n + d) := by
  have := (hexDig_fin2 ⟨d, h⟩).1
  simp only at this
  simp only [hexF, this]
theorem hexT_val : ∀ (f n : Nat), n < 16 ^ f → hexF (hexT f n) 0 = some (n : Int)
  | 0, n, h => by
    have : n = 0 := by simpa using h
    subst this; rfl
  | f + 1, n, h => by
    rw [Nat.pow_succ] at h
    unfold hexT
    split
    · rename_i h1
      rw [hexF_one 0 n h1]
      simp
    · rw [hexF_append, hexT_val f (n / 16) (by omega)]
      simp only [Option.bind_some]
      rw [hexF_one _ _ (Nat.mod_lt _ (by decide))]
      congr 1
      omega
theorem hexT_len : ∀ (f n k : Nat), n < 16 ^ k → 1 ≤ k → (hexT f n).length ≤ k
  | 0, _, _, _, _ => by simp [hexT]
  | f + 1, n, k, h, hk => by
    unfold hexT
    split
    · simpa using hk
    · rename_i h1
      obtain ⟨k', rfl⟩ : ∃ k', k = k' + 1 := ⟨k - 1, by omega⟩
      rw [Nat.pow_succ] at h
      have h2 : 1 ≤ k' := by
        rcases Nat.eq_zero_or_pos k' with e | e
        · subst e; simp at h; omega
        · exact e
      have := hexT_len f (n / 16) k' (by omega) h2
      simp only [List.length_append, List.length_singleton]
      omega
theorem hexT_ne : ∀ (f n : Nat), ∀ b ∈ hexT f n, b ≠ 125
  | 0, _, b, h => by simp [hexT] at h
  | f + 1, n, b, h => by
    unfold hexT at h
    split at h
    · rename_i h1
      simp only [List.mem_singleton] at h
      subst h
      exact (hexDig_fin2 ⟨n, h1⟩).2
    · rcases List.mem_append.1 h with h | h
      · exact hexT_ne f (n / 16) b h
      · simp only [List.mem_singleton] at h
        subst h
        exact (hexDig_fin2 ⟨n % 16, Nat.mod_lt _ (by decide)⟩).2
theorem hexT_pos (f n : Nat) : 1 ≤ (hexT (f + 1) n).length := by
  unfold hexT
  split <;> simp
theorem hexS_hexT {n : Nat} (h : n < 16 ^ 6) : hexS (hexT 16 n) = some (n : Int) := by
  have h1 := hexT_len 16 n 6 h (by decide)
  have h2 : 1 ≤ (hexT 16 n).length := hexT_pos 15 n
  unfold hexS
  rw [if_neg (by omega)]
  exact hexT_val 16 n (Nat.lt_of_lt_of_le h (by decide))
theorem idx_pre : ∀ (l m : List UInt8) (c : UInt8), (∀ b ∈ l, b ≠ c) → Lib.indexByte (l ++ c :: m) c = (l.length : Int)
  | [], m, c, _ => by simp [Lib.indexByte]
  | b :: l, m, c, h => by
    have hb : b ≠ c := h b (by simp)
    have ih := idx_pre l m c (fun x hx => h x (by simp [hx]))
    simp only [List.cons_append, Lib.indexByte, ih]
    rw [if_neg (by simpa using hb), if_neg (by simp)]
    simp
/-- a brace escape with the digits of a number is read as the number -/
theorem escS_digits {d : List UInt8} {x : Int} (rest : List UInt8) (hd : hexS d = some x) (hl : d.length ≤ 6) (hne : ∀ b ∈ d, b ≠ 125) : escS ([92, 120, 123] ++ d ++ [125] ++ rest) = if pt x then some (x, d.length + 4) else none := by
  have e : [92, 120, 123] ++ d ++ [125] ++ rest = (92 :: 120 :: 123 :: d) ++ 125 :: rest := by simp
  have hi : Lib.indexByte ((92 :: 120 :: 123 :: d) ++ 125 :: rest) 125 = (d.length + 3 : Nat) := by
    rw [idx_pre _ _ _ (by
      intro b hb
      simp only [List.mem_cons] at hb
      rcases hb with rfl | rfl | rfl | hb
      · decide
      · decide
      · decide
      · exact hne b hb)]
    simp
    omega
  rw [e]
  unfold escS
  have b0 : bt ((92 :: 120 :: 123 :: d) ++ 125 :: rest) 0 = 92 := rfl
  have b1 : bt ((92 :: 120 :: 123 :: d) ++ 125 :: rest) 1 = 120 := rfl
  have b2 : bt ((92 :: 120 :: 123 :: d) ++ 125 :: rest) 2 = 123 := rfl
  have hs : sign 120 = none := rfl
  have hlen : ((92 :: 120 :: 123 :: d) ++ 125 :: rest).length = d.length + rest.length + 4 := by simp; omega
  rw [b0, b1, b2, hlen, hs, hi]
  rw [if_neg (by omega), if_neg (by omega)]
  simp only
  rw [if_pos ⟨trivial, by omega, trivial⟩, if_neg (by omega)]
  have e2 : (((92 :: 120 :: 123 :: d) ++ 125 :: rest).take ((d.length + 3 : Nat) : Int).toNat).drop 3 = d := by
    rw [Int.toNat_natCast, List.take_append_of_le_length (by simp)]
    simp
  rw [e2, hd]
  simp only [ptO, Int.toNat_natCast]
theorem markS_esc {c : Int} (h : plainB c = false) (hp : pt c = true) (rest : List UInt8) : escS (markS c ++ rest) = some (c, (markS c).length) := by
  have hc := (pt_iff c).1 hp
  have hn : c.toNat < 16 ^ 6 := by omega
  have h1 := hexT_len 16 c.toNat 6 hn (by decide)
  have := escS_digits rest (hexS_hexT hn) h1 (hexT_ne 16 c.toNat)
  have e : markS c = [92, 120, 123] ++ hexT 16 c.toNat ++ [125] := by unfold markS; rw [h]; rfl
  rw [e, this, show ((c.toNat : Int)) = c by omega, if_pos hp]
  simp
theorem bt_cons0 (b : UInt8) (t : List UInt8) : bt (b :: t) 0 = (b.toNat : Int) := rfl
theorem bt_consS (b : UInt8) (t : List UInt8) (i : Nat) : bt (b :: t) (i + 1) = bt t i := by simp [bt]
theorem bt_appR (l m : List UInt8) (i : Nat) : bt (l ++ m) (l.length + i) = bt m i := by simp [bt, List.getD, List.getElem?_append_right (Nat.le_add_right l.length i)]
theorem markS_plain {c : Int} (h : plainB c = true) : ∃ b : UInt8, markS c = [b] ∧ (b.toNat : Int) = c ∧ 33 ≤ c ∧ c ≤ 126 ∧ c ≠ 45 ∧ c ≠ 91 ∧ c ≠ 92 ∧ c ≠ 93 ∧ c ≠ 94 := by
  refine ⟨UInt8.ofNat c.toNat, by unfold markS; rw [h]; rfl, ?_, ?_⟩
  · unfold plainB at h
    have h := of_decide_eq_true h
    simp; omega
  · exact of_decide_eq_true h
theorem markS_hd (c : Int) (rest : List UInt8) : bt (markS c ++ rest) 0 ≠ 93 ∧ bt (markS c ++ rest) 0 ≠ 45 ∧ bt (markS c ++ rest) 0 ≠ 94 ∧ (bt (markS c ++ rest) 0 = 92 → bt (markS c ++ rest) 1 = 120) := by
  cases hp : plainB c
  · have e : markS c ++ rest = 92 :: 120 :: (123 :: hexT 16 c.toNat ++ [125] ++ rest) := by unfold markS; rw [hp]; simp
    rw [e, bt_cons0]
    refine ⟨by decide, by decide, by decide, fun _ => rfl⟩
  · obtain ⟨b, e, h⟩ := markS_plain hp
    rw [e]
    show (b.toNat : Int) ≠ 93 ∧ (b.toNat : Int) ≠ 45 ∧ (b.toNat : Int) ≠ 94 ∧ ((b.toNat : Int) = 92 → _)
    refine ⟨by omega, by omega, by omega, fun h' => by omega⟩
theorem markS_pos (c : Int) : 1 ≤ (markS c).length := by
  unfold markS
  split <;> simp
theorem partS_mark {c : Int} (hp : pt c = true) (rest : List UInt8) : partS (markS c ++ rest) = some (c, (markS c).length) := by
  have hl := markS_pos c
  unfold partS
  rw [if_neg (by rw [List.length_append]; omega)]
  cases h : plainB c
  · rw [if_pos, markS_esc h hp]
    unfold markS; rw [h]; rfl
  · obtain ⟨b, e, hb, h2⟩ := markS_plain h
    rw [e, show [b] ++ rest = b :: rest from rfl, if_neg (by rw [bt_cons0]; omega)]
    have hd : decS (b :: rest) = (b.toNat, 1) := by
      unfold decS
      rw [if_neg (by simp), Lib.decodeL_ascii b rest (by omega)]
    rw [hd, if_pos (by simp only; omega)]
    simp [hb]
/-- the text of a range is read as an item -/
theorem item_text {r : R} (h1 : pt r.1 = true) (h2 : pt r.2 = true) (h3 : r.1 ≤ r.2) (rest : List UInt8) (hr : bt rest 0 ≠ 45) (first : Bool) : itemS (rangeT r ++ rest) first = some ([r], (rangeT r).length) := by
  obtain ⟨lo, hi⟩ := r
  simp only at h1 h2 h3
  by_cases hlt : lo < hi
  · have e : rangeT (lo, hi) ++ rest = markS lo ++ 45 :: (markS hi ++ rest) := by
      unfold rangeT; rw [if_pos hlt]; simp
    have hl : (rangeT (lo, hi)).length = (markS lo).length + 1 + (markS hi).length := by
      unfold rangeT; rw [if_pos hlt]; simp; omega
    rw [e, hl]
    obtain ⟨m1, m2, m3, m4⟩ := markS_hd lo (45 :: (markS hi ++ rest))
    obtain ⟨k1, _⟩ := markS_hd hi rest
    rw [item_two (a := lo) (n := (markS lo).length) (fun e => by
      have := m4 e.1
      have h := e.2.2
      rw [this] at h
      exact absurd h (by decide)) (fun e => m2 e.1) (partS_mark h1 _) ⟨by have := bt_appR (markS lo) (45 :: (markS hi ++ rest)) 0; rw [Nat.add_zero] at this; rw [this]; rfl, by rw [bt_appR, bt_consS]; exact k1⟩]
    have e2 : (markS lo ++ 45 :: (markS hi ++ rest)).drop ((markS lo).length + 1) = markS hi ++ rest := by
      rw [List.drop_append]; simp
    rw [e2, partS_mark h2]
    simp only
    rw [if_neg (by omega)]
  · have hh : lo = hi := by omega
    subst hh
    have e : rangeT (lo, lo) = markS lo := by unfold rangeT; simp
    rw [e]
    obtain ⟨m1, m2, m3, m4⟩ := markS_hd lo rest
    rw [item_one (a := lo) (n := (markS lo).length) (fun e => by
      have := m4 e.1
      have h := e.2.2
      rw [this] at h
      exact absurd h (by decide)) (fun e => m2 e.1) (partS_mark h1 _) (fun e => by
        have := bt_appR (markS lo) rest 0
        rw [Nat.add_zero] at this
        rw [this] at e
        exact hr e.1)]
theorem rangeT_hd (r : R) (rest : List UInt8) : bt (rangeT r ++ rest) 0 ≠ 93 ∧ bt (rangeT r ++ rest) 0 ≠ 45 ∧ bt (rangeT r ++ rest) 0 ≠ 94 := by
  unfold rangeT
  rw [List.append_assoc]
  obtain ⟨a, b, c, _⟩ := markS_hd r.1 ((if r.1 < r.2 then 45 :: markS r.2 else []) ++ rest)
  exact ⟨a, b, c⟩
theorem flat_hd (l : S) (rest : List UInt8) : bt (l.flatMap rangeT ++ 93 :: rest) 0 ≠ 45 ∧ bt (l.flatMap rangeT ++ 93 :: rest) 0 ≠ 94 := by
  cases l with
  | nil => exact ⟨by simp [bt], by simp [bt]⟩
  | cons r l =>
    rw [List.flatMap_cons, List.append_assoc]
    exact (rangeT_hd r _).2
theorem items_text : ∀ (l : S) (f : Nat) (first : Bool) (acc : S) (rest : List UInt8), (∀ r ∈ l, pt r.1 = true ∧ pt r.2 = true ∧ r.1 ≤ r.2) → l.length < f → (first = true → l ≠ []) →
    itemsS f (l.flatMap rangeT ++ 93 :: rest) first acc = some (acc ++ l, rest)
  | [], f, first, acc, rest, _, hf, h0 => by
    obtain ⟨f, rfl⟩ : ∃ k, f = k + 1 := ⟨f - 1, by simp at hf; omega⟩
    cases first
    · rw [List.flatMap_nil, List.nil_append, it_done rfl]
      simp
    · exact absurd rfl (h0 rfl)
  | r :: l, f, first, acc, rest, hl, hf, _ => by
    obtain ⟨f, rfl⟩ : ∃ k, f = k + 1 := ⟨f - 1, by simp at hf; omega⟩
    obtain ⟨h1, h2, h3⟩ := hl r (by simp)
    rw [List.flatMap_cons, List.append_assoc, it_step (fun e => (rangeT_hd r _).1 e.2) (item_text h1 h2 h3 _ (flat_hd l rest).1 first)]
    rw [List.drop_append_of_le_length (Nat.le_refl _), List.drop_length, List.nil_append]
    rw [items_text l f false (acc ++ [r]) rest (fun q hq => hl q (by simp [hq])) (by simp at hf; omega) (fun e => by cases e)]
    simp
theorem okAll {l : S} (h : right l = true) : ∀ r ∈ l, pt r.1 = true ∧ pt r.2 = true ∧ r.1 ≤ r.2 := by
  intro r hr
  obtain ⟨i, hi⟩ := List.getElem?_of_mem hr
  have ho := ((right_iff l).1 h).1 i r hi
  rw [okR_iff] at ho
  rw [pt_iff, pt_iff]
  omega
theorem flat_ge (l : S) : l.length ≤ (l.flatMap rangeT).length := by
  induction l with
  | nil => simp
  | cons r l ih =>
    have := markS_pos r.1
    simp only [List.flatMap_cons, List.length_append, List.length_cons, rangeT]
    omega
theorem not_all : notS (setOf [(0, 1114111)]) = [] := by decide +kernel
theorem allT_eq : allT = [91, 94] ++ [((0, 1114111) : R)].flatMap rangeT ++ [93] := by decide +kernel
/-- the text of a right set is read back, whatever follows -/
theorem read_text {l : S} (h : right l = true) (rest : List UInt8) : readF (textS l ++ rest) = some (l, (textS l).length) := by
  by_cases h0 : l = []
  · subst h0
    have e : textS [] ++ rest = 91 :: 94 :: ([((0, 1114111) : R)].flatMap rangeT ++ 93 :: rest) := by
      unfold textS; rw [if_pos rfl, allT_eq]; simp
    have hlen : (textS []).length = 19 := by decide
    rw [hlen, e]
    unfold readF
    rw [if_neg (by simp [bt])]
    have b1 : bt (91 :: 94 :: ([((0, 1114111) : R)].flatMap rangeT ++ 93 :: rest)) 1 = 94 := rfl
    rw [b1]
    simp only [if_true, List.drop_succ_cons, List.drop_zero]
    rw [items_text [((0, 1114111) : R)] _ true [] rest (by intro r hr; simp at hr; subst hr; decide) (by simp) (by simp)]
    simp only [List.nil_append, not_all]
    congr 2
    have : ([((0, 1114111) : R)].flatMap rangeT).length = 16 := by decide +kernel
    simp only [List.length_cons, List.length_append, this]
    omega
  · have e : textS l ++ rest = 91 :: (l.flatMap rangeT ++ 93 :: rest) := by
      unfold textS; rw [if_neg h0]; simp
    have hlen : (textS l).length = (l.flatMap rangeT).length + 2 := by
      unfold textS; rw [if_neg h0]; simp
    have hg := flat_ge l
    rw [hlen, e]
    unfold readF
    rw [if_neg (by simp [bt])]
    have b1 : bt (91 :: (l.flatMap rangeT ++ 93 :: rest)) 1 ≠ 94 := by rw [bt_consS]; exact (flat_hd l rest).2
    simp only [if_neg b1, List.drop_succ_cons, List.drop_zero]
    rw [items_text l _ true [] rest (okAll h) (by simp only [List.length_cons, List.length_append]; omega) (fun _ => h0)]
    simp only [List.nil_append, setOf_self h]
    congr 2
    simp only [List.length_cons, List.length_append]
    omega
theorem read_self {l : S} (h : right l = true) : readF (textS l) = some (l, (textS l).length) := by
  have := read_text h []
  rwa [List.append_nil] at this
theorem text_inj {l m : S} (hl : right l = true) (hm : right m = true) (h : textS l = textS m) : l = m := by
  have h1 := read_self hl
  have h2 := read_self hm
  rw [h, h2] at h1
  have := Option.some.inj h1
  exact (congrArg Prod.fst this).symm
/-! what is read of any string -/
theorem itemS_ok {t : List UInt8} {first : Bool} {l : S} {n : Nat} (h : itemS t first = some (l, n)) : 1 ≤ n ∧ n ≤ t.length ∧ ∀ r ∈ l, rg r := by
  by_cases hn : bt t 0 = 92 ∧ 1 < t.length ∧ namedB (bt t 1) = true
  · rw [item_named hn.1 hn.2.1 hn.2.2] at h
    cases h
    exact ⟨by omega, by omega, (namedS_rg _).1⟩
  by_cases hd : bt t 0 = 45 ∧ (first = true ∨ bt t 1 = 93)
  · rw [item_dash hd.1 hd.2] at h
    cases h
    refine ⟨by omega, ?_, ?_⟩
    · rcases Nat.eq_zero_or_pos t.length with e | e
      · have := List.eq_nil_of_length_eq_zero e
        subst this
        exact absurd hd.1 (by decide)
      · exact e
    · intro r hr
      simp only [List.mem_singleton] at hr
      subst hr
      exact ⟨by decide, by decide, by decide⟩
  cases hp : partS t with
  | none => rw [item_none hn hd hp] at h; cases h
  | some x =>
    obtain ⟨a, k⟩ := x
    obtain ⟨p1, p2, p3⟩ := partS_ok hp
    have p1' := (pt_iff a).1 p1
    by_cases h2 : bt t k = 45 ∧ bt t (k + 1) ≠ 93
    · rw [item_two hn hd hp h2] at h
      cases hq : partS (t.drop (k + 1)) with
      | none => rw [hq] at h; cases h
      | some y =>
        obtain ⟨b, m⟩ := y
        obtain ⟨q1, q2, q3⟩ := partS_ok hq
        have q1' := (pt_iff b).1 q1
        rw [hq] at h
        simp only at h
        split at h
        · cases h
        · cases h
          rw [List.length_drop] at q3
          refine ⟨by omega, by omega, ?_⟩
          intro r hr
          simp only [List.mem_singleton] at hr
          subst hr
          exact ⟨by simp only; omega, by simp only; omega, by simp only; omega⟩
    · rw [item_one hn hd hp h2] at h
      cases h
      refine ⟨p2, p3, ?_⟩
      intro r hr
      simp only [List.mem_singleton] at hr
      subst hr
      exact ⟨by simp only; omega, by simp only; omega, by simp only; omega⟩
theorem itemsS_fuel : ∀ (f g : Nat) (t : List UInt8) (first : Bool) (acc : S), t.length < f → t.length < g → itemsS f t first acc = itemsS g t first acc
  | 0, _, _, _, _, h, _ => by omega
  | _ + 1, 0, _, _, _, _, h => by omega
  | f + 1, g + 1, t, first, acc, hf, hg => by
    unfold itemsS
    split
    · rfl
    · cases hi : itemS t first with
      | none => rfl
      | some x =>
        obtain ⟨l, n⟩ := x
        obtain ⟨h1, h2, _⟩ := itemS_ok hi
        exact itemsS_fuel f g _ false _ (by rw [List.length_drop]; omega) (by rw [List.length_drop]; omega)
theorem itemsS_ok : ∀ (f : Nat) (t : List UInt8) (first : Bool) (acc l : S) (r : List UInt8), (∀ q ∈ acc, rg q) → itemsS f t first acc = some (l, r) →
    (∀ q ∈ l, rg q) ∧ ∃ k, r = t.drop k ∧ (if first then 2 else 1) ≤ k ∧ k ≤ t.length ∧ bt t (k - 1) = 93
  | 0, _, _, _, _, _, _, h => by simp [itemsS] at h
  | f + 1, t, first, acc, l, r, ha, h => by
    by_cases hc : first = false ∧ bt t 0 = 93
    · obtain ⟨rfl, h93⟩ := hc
      rw [it_done h93] at h
      cases h
      refine ⟨ha, 1, rfl, by simp, ?_, h93⟩
      rcases Nat.eq_zero_or_pos t.length with e | e
      · have := List.eq_nil_of_length_eq_zero e
        subst this
        exact absurd h93 (by decide)
      · exact e
    · cases hi : itemS t first with
      | none => rw [it_fail hc hi] at h; cases h
      | some x =>
        obtain ⟨m, n⟩ := x
        obtain ⟨h1, h2, h3⟩ := itemS_ok hi
        rw [it_step hc hi] at h
        obtain ⟨g1, k, g2, g3, g4, g5⟩ := itemsS_ok f _ false _ l r (by
          intro q hq
          rcases List.mem_append.1 hq with hq | hq
          · exact ha q hq
          · exact h3 q hq) h
        simp only [Bool.false_eq_true, if_false] at g3
        rw [List.length_drop] at g4
        refine ⟨g1, n + k, by rw [g2, List.drop_drop], by split <;> omega, by omega, ?_⟩
        rw [bt_drop] at g5
        rw [show n + k - 1 = n + (k - 1) by omega]
        exact g5
/-- what is read of a string behind a bracket -/
theorem read_any {s : List UInt8} {l : S} {n : Nat} (h : readF (91 :: s) = some (l, n)) :
    right l = true ∧ 3 ≤ n ∧ n ≤ s.length + 1 ∧ bt s (n - 2) = 93 ∧ (bt s 0 ≠ 94 → readF (91 :: 94 :: s) = some (notS l, n + 1)) := by
  unfold readF at h
  rw [if_neg (by simp [bt]), bt_consS] at h
  by_cases h94 : bt s 0 = 94
  · simp only [if_pos h94, List.drop_succ_cons] at h
    cases hi : itemsS ((91 :: s).length + 1) (s.drop 1) true [] with
    | none => rw [hi] at h; cases h
    | some x =>
      obtain ⟨m, r⟩ := x
      rw [hi] at h
      obtain ⟨g1, k, rfl, g3, g4, g5⟩ := itemsS_ok _ _ _ _ _ _ (by simp) hi
      simp only [if_true] at g3
      rw [List.length_drop] at g4
      cases h
      have hr := setOf_right m g1
      rw [bt_drop] at g5
      simp only [List.length_cons, List.length_drop]
      refine ⟨notS_right hr, by omega, by omega, ?_, fun e => absurd h94 e⟩
      rw [show s.length + 1 - (s.length - 1 - k) - 2 = 1 + (k - 1) by omega]
      exact g5
  · simp only [if_neg h94, List.drop_succ_cons, List.drop_zero] at h
    cases hi : itemsS ((91 :: s).length + 1) s true [] with
    | none => rw [hi] at h; cases h
    | some x =>
      obtain ⟨m, r⟩ := x
      rw [hi] at h
      have hi2 := hi
      rw [itemsS_fuel _ ((91 :: 94 :: s).length + 1) _ _ _ (by simp; omega) (by simp; omega)] at hi2
      obtain ⟨g1, k, rfl, g3, g4, g5⟩ := itemsS_ok _ _ _ _ _ _ (by simp) hi
      simp only [if_true] at g3
      cases h
      have hr := setOf_right m g1
      simp only [List.length_cons, List.length_drop]
      refine ⟨hr, by omega, by omega, ?_, fun _ => ?_⟩
      · rw [show s.length + 1 - (s.length - k) - 2 = k - 1 by omega]
        exact g5
      · unfold readF
        rw [if_neg (by simp [bt])]
        have b1 : bt (91 :: 94 :: s) 1 = 94 := rfl
        rw [b1]
        simp only [if_true, List.drop_succ_cons, List.drop_zero]
        rw [hi2]
        simp only [List.length_cons, List.length_drop]
        congr 2
        omega
end Go.Proofs.YtiooimdncocfdaaGreatDoor.Rs
/- Plain facts on the digits of a number, and what classes and escapes of them mean. -/
namespace Go.Proofs.YtiooimdncocfdaaGreatDoor.Rs
/-! small hexadecimal digits -/
def lowDig (d : Nat) : UInt8 := UInt8.ofNat (if d < 10 then 48 + d else 87 + d)
theorem lowDig_fin : ∀ d : Fin 16, hexD ((lowDig d.val).toNat : Int) = some (d.val : Int) ∧ lowDig d.val ≠ 125 ∧ [lowDig d.val] = (([48, 49, 50, 51, 52, 53, 54, 55, 56, 57, 97, 98, 99, 100, 101, 102] : List UInt8).drop d.val).take 1 := by decide +kernel
def hexL : Nat → Nat → List UInt8
  | 0, _ => []
  | f + 1, n => if n < 16 then [lowDig n] else hexL f (n / 16) ++ [lowDig (n % 16)]
theorem hexL_one (n : Int) (d : Nat) (h : d < 16) : hexF [lowDig d] n = some (16 * n + d) := by
  have := (lowDig_fin ⟨d, h⟩).1
  simp only at this
  simp only [hexF, this]
theorem hexL_val : ∀ (f n : Nat), n < 16 ^ f → hexF (hexL f n) 0 = some (n : Int)
  | 0, n, h => by
    have : n = 0 := by simpa using h
    subst this; rfl
  | f + 1, n, h => by
    rw [Nat.pow_succ] at h
    unfold hexL
    split
    · rename_i h1
      rw [hexL_one 0 n h1]
      simp
    · rw [hexF_append, hexL_val f (n / 16) (by omega)]
      simp only [Option.bind_some]
      rw [hexL_one _ _ (Nat.mod_lt _ (by decide))]
      congr 1
      omega
theorem hexL_len : ∀ (f n k : Nat), n < 16 ^ k → 1 ≤ k → (hexL f n).length ≤ k
  | 0, _, _, _, _ => by simp [hexL]
  | f + 1, n, k, h, hk => by
    unfold hexL
    split
    · simpa using hk
    · rename_i h1
      obtain ⟨k', rfl⟩ : ∃ k', k = k' + 1 := ⟨k - 1, by omega⟩
      rw [Nat.pow_succ] at h
      have h2 : 1 ≤ k' := by
        rcases Nat.eq_zero_or_pos k' with e | e
        · subst e; simp at h; omega
        · exact e
      have := hexL_len f (n / 16) k' (by omega) h2
      simp only [List.length_append, List.length_singleton]
      omega
theorem hexL_ne : ∀ (f n : Nat), ∀ b ∈ hexL f n, b ≠ 125
  | 0, _, b, h => by simp [hexL] at h
  | f + 1, n, b, h => by
    unfold hexL at h
    split at h
    · rename_i h1
      simp only [List.mem_singleton] at h
      subst h
      exact (lowDig_fin ⟨n, h1⟩).2.1
    · rcases List.mem_append.1 h with h | h
      · exact hexL_ne f (n / 16) b h
      · simp only [List.mem_singleton] at h
        subst h
        exact (lowDig_fin ⟨n % 16, Nat.mod_lt _ (by decide)⟩).2.1
theorem hexL_pos (f n : Nat) : 1 ≤ (hexL (f + 1) n).length := by
  unfold hexL
  split <;> simp
theorem hexL_fuel : ∀ (f g n : Nat), n < 16 ^ f → n < 16 ^ g → 1 ≤ f → 1 ≤ g → hexL f n = hexL g n
  | 0, _, _, _, _, h, _ => by omega
  | _ + 1, 0, _, _, _, _, h => by omega
  | f + 1, g + 1, n, hf, hg, _, _ => by
    unfold hexL
    split
    · rfl
    · rename_i h1
      rw [Nat.pow_succ] at hf hg
      have hf1 : 1 ≤ f := by
        rcases Nat.eq_zero_or_pos f with e | e
        · subst e; simp at hf; omega
        · exact e
      have hg1 : 1 ≤ g := by
        rcases Nat.eq_zero_or_pos g with e | e
        · subst e; simp at hg; omega
        · exact e
      rw [hexL_fuel f g (n / 16) (by omega) (by omega) hf1 hg1]
/-- what the loop over the digits of a number has still to put ahead -/
def hexRest (n : Nat) (d : List UInt8) : List UInt8 := if n = 0 ∧ d ≠ [] then [] else hexL 6 n
theorem hexRest_step {n : Nat} {d : List UInt8} (h : n < 16 ^ 6) (hc : 0 < n ∨ d = []) : hexRest n d ++ d = hexRest (n / 16) (lowDig (n % 16) :: d) ++ (lowDig (n % 16) :: d) := by
  unfold hexRest
  rw [if_neg (by
    intro e
    rcases hc with h | h
    · omega
    · exact e.2 h)]
  by_cases h16 : n < 16
  · rw [if_pos ⟨by omega, by simp⟩]
    rw [show hexL 6 n = [lowDig n] by unfold hexL; rw [if_pos h16], Nat.mod_eq_of_lt h16]
    simp
  · rw [if_neg (by omega), show hexL 6 n = hexL 5 (n / 16) ++ [lowDig (n % 16)] by conv => lhs; unfold hexL; rw [if_neg h16]]
    rw [hexL_fuel 5 6 (n / 16) (by omega) (by omega) (by decide) (by decide)]
    simp
theorem hexRest_done {n : Nat} {d : List UInt8} (hc : ¬ (0 < n ∨ d = [])) : hexRest n d ++ d = d := by
  unfold hexRest
  rw [if_pos ⟨by omega, fun e => hc (.inr e)⟩]
  rfl
/-- the number of the brace escape, and of a class of it alone -/
theorem hexS_hexL {n : Nat} (h : n < 16 ^ 6) : hexS (hexL 6 n) = some (n : Int) := by
  have h1 := hexL_len 6 n 6 h (by decide)
  have h2 : 1 ≤ (hexL 6 n).length := hexL_pos 5 n
  unfold hexS
  rw [if_neg (by omega)]
  exact hexL_val 6 n h
theorem esc_low {n : Nat} (h : n < 16 ^ 6) (rest : List UInt8) : escS ([92, 120, 123] ++ hexL 6 n ++ [125] ++ rest) = if pt n then some ((n : Int), (hexL 6 n).length + 4) else none :=
  escS_digits rest (hexS_hexL h) (hexL_len 6 n 6 h (by decide)) (hexL_ne 6 n)
theorem read_low {n : Nat} (hp : pt n = true) (h : n < 16 ^ 6) : readF ([91, 92, 120, 123] ++ hexL 6 n ++ [125, 93]) = some ([((n : Int), (n : Int))], (hexL 6 n).length + 6) := by
  have he := esc_low h [93]
  rw [if_pos hp] at he
  have e : ([91, 92, 120, 123] ++ hexL 6 n ++ [125, 93] : List UInt8) = 91 :: ([92, 120, 123] ++ hexL 6 n ++ [125] ++ [93]) := by simp
  rw [e]
  have hb0 : bt ([92, 120, 123] ++ hexL 6 n ++ [125] ++ [93]) 0 = 92 := rfl
  have hb1 : bt ([92, 120, 123] ++ hexL 6 n ++ [125] ++ [93]) 1 = 120 := rfl
  have hlen : ([92, 120, 123] ++ hexL 6 n ++ [125] ++ [93] : List UInt8).length = (hexL 6 n).length + 5 := by simp
  have hend : bt ([92, 120, 123] ++ hexL 6 n ++ [125] ++ [93]) ((hexL 6 n).length + 4) = 93 := by
    have := bt_appR ([92, 120, 123] ++ hexL 6 n ++ [125]) [93] 0
    rw [Nat.add_zero] at this
    rw [show (hexL 6 n).length + 4 = ([92, 120, 123] ++ hexL 6 n ++ [125] : List UInt8).length by simp, this]
    rfl
  generalize ht : ([92, 120, 123] ++ hexL 6 n ++ [125] ++ [93] : List UInt8) = t at *
  have hp1 : partS t = some ((n : Int), (hexL 6 n).length + 4) := by
    unfold partS
    rw [if_neg (by omega), if_pos hb0, he]
  have hi : itemS t true = some ([((n : Int), (n : Int))], (hexL 6 n).length + 4) :=
    item_one (fun e => by rw [hb1] at e; exact absurd e.2.2 (by decide)) (fun e => by rw [hb0] at e; omega) hp1 (by rw [hend]; omega)
  unfold readF
  rw [if_neg (by simp [bt]), bt_consS, hb0]
  simp only [show ¬ ((92 : Int) = 94) by decide, if_false, List.drop_succ_cons, List.drop_zero]
  rw [it_step (fun e => by cases e.1) hi]
  simp only [List.length_cons]
  rw [hlen, it_done (by rw [bt_drop, Nat.add_zero]; exact hend)]
  have hset : setOf [((n : Int), (n : Int))] = [((n : Int), (n : Int))] := setOf_self (by
    rw [right_iff]
    refine ⟨fun i r hr => ?_, fun i q r hq hr => ?_⟩
    · match i, hr with
      | 0, hr => cases hr; rw [okR_iff]; rw [pt_iff] at hp; exact ⟨Int.le_refl _, hp⟩
    · match i, hr with
      | 0, hr => simp at hr)
  simp only [List.nil_append, hset, List.length_drop, hlen]
  congr 2
  omega
theorem esc_two_fin : ∀ a b : Fin 16, escS [92, 120, hexDig a.val, lowDig b.val, 48] = some (((16 * a.val + b.val : Nat) : Int), 4) := by decide +kernel
theorem cap_fin : ∀ d : Fin 16, [hexDig d.val] = (([48, 49, 50, 51, 52, 53, 54, 55, 56, 57, 65, 66, 67, 68, 69, 70] : List UInt8).drop d.val).take 1 := by decide +kernel
theorem names : ∀ c : Fin 256, c.val = 100 ∨ c.val = 115 ∨ c.val = 119 → readF [91, 92, UInt8.ofNat c.val, 93] = some (lowS c.val, 4) ∧ readF [91, 94, 92, UInt8.ofNat c.val, 93] = some (notS (lowS c.val), 5) := by
  intro c hc
  have e : UInt8.ofNat c.val = 100 ∧ c.val = 100 ∨ UInt8.ofNat c.val = 115 ∧ c.val = 115 ∨ UInt8.ofNat c.val = 119 ∧ c.val = 119 := by
    rcases hc with h | h | h <;> simp [h]
  rcases e with ⟨e1, e2⟩ | ⟨e1, e2⟩ | ⟨e1, e2⟩ <;> rw [e1, e2] <;> exact ⟨by decide +kernel, by decide +kernel⟩
end Go.Proofs.YtiooimdncocfdaaGreatDoor.Rs
/- Plain facts: a text that is cut is no class. -/
namespace Go.Proofs.YtiooimdncocfdaaGreatDoor.Rs
/-! a text that is cut is no class -/
theorem bt_nil (i : Nat) : bt [] i = 0 := rfl
theorem partS_nil : partS [] = none := rfl
theorem itemS_nil (first : Bool) : itemS [] first = none := item_none (fun e => by rw [bt_nil] at e; omega) (fun e => by rw [bt_nil] at e; omega) partS_nil
theorem items_nil : ∀ (f : Nat) (first : Bool) (acc : S), itemsS f [] first acc = none
  | 0, _, _ => rfl
  | f + 1, first, acc => it_fail (fun e => by have := e.2; rw [bt_nil] at this; omega) (itemS_nil first)
theorem idx_none : ∀ (l : List UInt8) (c : UInt8), (∀ b ∈ l, b ≠ c) → Lib.indexByte l c = -1
  | [], _, _ => rfl
  | b :: l, c, h => by
    have hb : b ≠ c := h b (by simp)
    have ih := idx_none l c (fun x hx => h x (by simp [hx]))
    simp only [Lib.indexByte, ih]
    rw [if_neg (by simpa using hb), if_pos (by simp)]
/-- what a mark begins with, cut -/
theorem partS_cut {c : Int} {p q : List UInt8} (h : p ++ q = markS c) (hq : q ≠ []) : partS p = none ∧ (bt p 0 = 92 → 1 < p.length → bt p 1 = 120) ∧ bt p 0 ≠ 93 ∧ bt p 0 ≠ 45 ∧ bt p 0 ≠ 94 := by
  by_cases hp : p = []
  · subst hp
    refine ⟨rfl, fun h => ?_, by rw [bt_nil]; decide, by rw [bt_nil]; decide, by rw [bt_nil]; decide⟩
    rw [bt_nil] at h; omega
  have hl := List.length_pos_iff.2 hp
  cases hb : plainB c
  · have e : markS c = 92 :: 120 :: 123 :: (hexT 16 c.toNat ++ [125]) := by unfold markS; rw [hb]; simp
    rw [e] at h
    have hne := hexT_ne 16 c.toNat
    generalize hexT 16 c.toNat = d at *
    match p, h with
    | [], _ => exact absurd rfl hp
    | [b0], h =>
      simp only [List.cons_append, List.nil_append, List.cons.injEq] at h
      obtain ⟨rfl, _⟩ := h
      exact ⟨rfl, fun _ h => by simp at h, by decide, by decide, by decide⟩
    | [b0, b1], h =>
      simp only [List.cons_append, List.nil_append, List.cons.injEq] at h
      obtain ⟨rfl, rfl, _⟩ := h
      exact ⟨by decide, fun _ _ => rfl, by decide, by decide, by decide⟩
    | b0 :: b1 :: b2 :: p', h =>
      simp only [List.cons_append, List.cons.injEq] at h
      obtain ⟨rfl, rfl, rfl, h⟩ := h
      have hno : ∀ b ∈ (92 :: 120 :: 123 :: p' : List UInt8), b ≠ 125 := by
        have hp' : ∀ b ∈ p', b ≠ 125 := by
          rcases List.append_eq_append_iff.1 h with ⟨a, ha, _⟩ | ⟨a, ha, hb⟩
          · intro b hb'
            exact hne b (by rw [ha]; exact List.mem_append_left _ hb')
          · cases a with
            | nil =>
              rw [List.append_nil] at ha
              intro b hb'
              exact hne b (by rw [← ha]; exact hb')
            | cons x a =>
              simp only [List.cons_append, List.cons.injEq] at hb
              have := hb.2.symm
              simp only [List.append_eq_nil_iff] at this
              exact absurd this.2 hq
        intro b hb'
        simp only [List.mem_cons] at hb'
        rcases hb' with rfl | rfl | rfl | hb'
        · decide
        · decide
        · decide
        · exact hp' b hb'
      have hi := idx_none _ _ hno
      refine ⟨?_, fun _ _ => rfl, by simp [bt], by simp [bt], by simp [bt]⟩
      have b0 : bt (92 :: 120 :: 123 :: p') 0 = 92 := rfl
      have b1 : bt (92 :: 120 :: 123 :: p') 1 = 120 := rfl
      have b2 : bt (92 :: 120 :: 123 :: p') 2 = 123 := rfl
      unfold partS
      rw [if_neg (by simp), if_pos b0]
      unfold escS
      rw [b0, b1, b2, show sign 120 = none from rfl, hi, if_neg (by simp), if_neg (by omega)]
      simp only
      rw [if_pos ⟨trivial, by simp, trivial⟩, if_pos (by omega)]
  · obtain ⟨b, e, _⟩ := markS_plain hb
    rw [e] at h
    have := congrArg List.length h
    have := List.length_pos_iff.2 hq
    simp at *
    omega
theorem items_fail {f : Nat} {t : List UInt8} {first : Bool} {acc : S} (h : ¬ (first = false ∧ bt t 0 = 93)) (hi : itemS t first = none) : itemsS f t first acc = none := by
  cases f with
  | zero => rfl
  | succ f => exact it_fail h hi
theorem no_named {p : List UInt8} (h : bt p 0 = 92 → 1 < p.length → bt p 1 = 120) : ¬ (bt p 0 = 92 ∧ 1 < p.length ∧ namedB (bt p 1) = true) := by
  rintro ⟨h1, h2, h3⟩
  rw [h h1 h2] at h3
  exact absurd h3 (by decide)
theorem items_cut : ∀ (l : S) (f : Nat) (first : Bool) (acc : S) (p q : List UInt8), (∀ r ∈ l, pt r.1 = true ∧ pt r.2 = true ∧ r.1 ≤ r.2) → p ++ q = l.flatMap rangeT ++ [93] → q ≠ [] → itemsS f p first acc = none
  | [], f, first, acc, p, q, _, h, hq => by
    have : p = [] := by
      have h2 := congrArg List.length h
      have := List.length_pos_iff.2 hq
      simp at h2
      exact List.eq_nil_of_length_eq_zero (by omega)
    subst this
    exact items_nil _ _ _
  | r :: l, f, first, acc, p, q, hl, h, hq => by
    obtain ⟨h1, h2, h3⟩ := hl r (by simp)
    rw [List.flatMap_cons, List.append_assoc] at h
    have whole : ∀ c' : List UInt8, c' ++ q = l.flatMap rangeT ++ [93] → itemsS f (rangeT r ++ c') first acc = none := by
      intro c' hc
      have h45 : bt c' 0 ≠ 45 := by
        cases c' with
        | nil => rw [bt_nil]; decide
        | cons b c' =>
          have := (flat_hd l []).1
          rw [← hc] at this
          exact this
      cases f with
      | zero => rfl
      | succ f =>
        rw [it_step (fun e => (rangeT_hd r _).1 e.2) (item_text h1 h2 h3 _ h45 first)]
        rw [List.drop_append_of_le_length (Nat.le_refl _), List.drop_length, List.nil_append]
        exact items_cut l f false _ c' q (fun q hq => hl q (by simp [hq])) hc hq
    rcases List.append_eq_append_iff.1 h with ⟨a', ha, hqa⟩ | ⟨c', rfl, hX⟩
    · by_cases ha0 : a' = []
      · subst ha0
        rw [List.append_nil] at ha
        rw [← ha, ← List.append_nil (rangeT r)]
        exact whole [] (by rw [hqa]; rfl)
      · obtain ⟨lo, hi⟩ := r
        simp only at h1 h2 h3
        have hr : markS lo ++ (if lo < hi then 45 :: markS hi else []) = p ++ a' := ha
        rcases List.append_eq_append_iff.1 hr with ⟨x, hp, hx⟩ | ⟨x, hp, hx⟩
        · -- the mark is whole
          by_cases hlt : lo < hi
          · rw [if_pos hlt] at hx
            cases x with
            | nil =>
              rw [List.append_nil] at hp
              subst hp
              obtain ⟨m1, m2, m3, m4⟩ := markS_hd lo []
              rw [List.append_nil] at m1 m2 m3 m4
              have hpm := partS_mark h1 []
              rw [List.append_nil] at hpm
              have hi := item_one (first := first) (fun e => no_named (fun e _ => m4 e) e) (fun e => m2 e.1) hpm (fun e => by rw [bt_ge (Nat.le_refl _)] at e; omega)
              cases f with
              | zero => rfl
              | succ f => rw [it_step (fun e => m1 e.2) hi, List.drop_length, items_nil]
            | cons b x =>
              simp only [List.cons_append, List.cons.injEq] at hx
              obtain ⟨hb, hx⟩ := hx
              subst hb
              subst hp
              obtain ⟨m1, m2, m3, m4⟩ := markS_hd lo (45 :: x)
              obtain ⟨k1, k2, k3, _⟩ := partS_cut hx.symm ha0
              refine items_fail (fun e => m1 e.2) ?_
              rw [item_two (a := lo) (n := (markS lo).length) (fun e => no_named (fun e _ => m4 e) e) (fun e => m2 e.1) (partS_mark h1 _) ⟨by have := bt_appR (markS lo) (45 :: x) 0; rw [Nat.add_zero] at this; rw [this]; rfl, by rw [bt_appR, bt_consS]; exact k3⟩]
              rw [show (markS lo ++ 45 :: x).drop ((markS lo).length + 1) = x by rw [List.drop_append]; simp, k1]
          · rw [if_neg hlt] at hx
            simp only [List.nil_eq, List.append_eq_nil_iff] at hx
            exact absurd hx.2 ha0
        · -- the mark is cut
          by_cases hx0 : x = []
          · subst hx0
            rw [List.append_nil] at hp
            rw [List.nil_append] at hx
            subst hp
            obtain ⟨m1, m2, m3, m4⟩ := markS_hd lo []
            rw [List.append_nil] at m1 m2 m3 m4
            have hpm := partS_mark h1 []
            rw [List.append_nil] at hpm
            have hi := item_one (first := first) (fun e => no_named (fun e _ => m4 e) e) (fun e => m2 e.1) hpm (fun e => by rw [bt_ge (Nat.le_refl _)] at e; omega)
            cases f with
            | zero => rfl
            | succ f => rw [it_step (fun e => m1 e.2) hi, List.drop_length, items_nil]
          · obtain ⟨k1, k2, k3, k4, _⟩ := partS_cut hp.symm hx0
            exact items_fail (fun e => k3 e.2) (item_none (no_named k2) (fun e => k4 e.1) k1)
    · exact whole c' hX.symm
theorem read_cut {l : S} (h : right l = true) (h0 : l ≠ []) {p q : List UInt8} (hpq : p ++ q = textS l) (hq : q ≠ []) : readF p = none := by
  unfold textS at hpq
  rw [if_neg h0] at hpq
  cases p with
  | nil => unfold readF; rw [if_pos (by rw [bt_nil]; decide)]
  | cons b p =>
    simp only [List.cons_append, List.nil_append, List.cons.injEq] at hpq
    obtain ⟨rfl, hp⟩ := hpq
    have h94 : bt p 0 ≠ 94 := by
      cases p with
      | nil => rw [bt_nil]; decide
      | cons b p =>
        have := (flat_hd l []).2
        rw [← hp] at this
        exact this
    unfold readF
    rw [if_neg (by simp [bt]), bt_consS]
    simp only [if_neg h94, List.drop_succ_cons, List.drop_zero]
    rw [items_cut l _ true [] p q (okAll h) hp hq]
theorem read_take {l : S} (h : right l = true) (h0 : l ≠ []) {m : Nat} (hm : m < (textS l).length) : readF ((textS l).take m) = none :=
  read_cut h h0 (List.take_append_drop m _) (by
    intro e
    have := congrArg List.length e
    simp only [List.length_drop, List.length_nil] at this
    omega)
end Go.Proofs.YtiooimdncocfdaaGreatDoor.Rs
/- Plain facts for ClassOf: the order of ranges does not matter; pieces make the set again. -/
namespace Go.Proofs.YtiooimdncocfdaaGreatDoor.Rs
/-- what is made of ranges does not depend on their order, nor on how often they come -/
theorem setOf_congr {a b : S} (ha : ∀ r ∈ a, rg r) (h : ∀ x, x ∈ a ↔ x ∈ b) : setOf a = setOf b := by
  have hb : ∀ r ∈ b, rg r := fun r hr => ha r ((h r).2 hr)
  refine uniq (setOf_right a ha) (setOf_right b hb) fun c => ?_
  rw [setOf_mem a ha, setOf_mem b hb, mem_congr h]
theorem setOf_turn (l : S) (k : Nat) (h : ∀ r ∈ l, rg r) : setOf (l.drop k ++ (l ++ l.take k)) = setOf l := by
  refine (setOf_congr h fun x => ?_).symm
  simp only [List.mem_append]
  constructor
  · exact fun hx => .inr (.inl hx)
  · rintro (hx | hx | hx)
    · exact List.mem_of_mem_drop hx
    · exact hx
    · exact List.mem_of_mem_take hx
/-- ranges, each cut in two -/
def mid (i : Nat) (r : R) : Int := r.1 + (r.2 - r.1) * i / 20
def cutGo : Nat → S → S
  | _, [] => []
  | i, r :: l => (mid i r, r.2) :: (r.1, mid i r) :: cutGo (i + 1) l
theorem mid_bd {i : Nat} {r : R} (hi : i ≤ 20) (h : r.1 ≤ r.2) : r.1 ≤ mid i r ∧ mid i r ≤ r.2 := by
  unfold mid
  have h1 : 0 ≤ (r.2 - r.1) * (i : Int) := Int.mul_nonneg (by omega) (by omega)
  have h2 : (r.2 - r.1) * (i : Int) ≤ (r.2 - r.1) * 20 := Int.mul_le_mul_of_nonneg_left (by omega) (by omega)
  generalize (r.2 - r.1) * (i : Int) = x at *
  omega
theorem cutGo_mem (c : Int) : ∀ (l : S) (i : Nat), i + l.length ≤ 20 → (∀ r ∈ l, r.1 ≤ r.2) → mem c (cutGo i l) = mem c l
  | [], _, _, _ => rfl
  | r :: l, i, hi, h => by
    have ih := cutGo_mem c l (i + 1) (by simp at hi; omega) (fun q hq => h q (by simp [hq]))
    have hm := mid_bd (i := i) (r := r) (by simp at hi; omega) (h r (by simp))
    simp only [cutGo, mem_cons, ih]
    rw [← Bool.or_assoc]
    congr 1
    rw [Bool.eq_iff_iff, Bool.or_eq_true, inR_iff, inR_iff, inR_iff]
    simp only
    omega
theorem cutGo_rg : ∀ (l : S) (i : Nat), i + l.length ≤ 20 → (∀ r ∈ l, rg r) → ∀ r ∈ cutGo i l, rg r
  | [], _, _, _ => by simp [cutGo]
  | q :: l, i, hi, h => by
    intro r hr
    have hq := h q (by simp)
    have hm := mid_bd (i := i) (r := q) (by simp at hi; omega) hq.2.1
    simp only [cutGo, List.mem_cons] at hr
    rcases hr with rfl | rfl | hr
    · exact ⟨by have := hq.1; simp only; omega, hm.2, hq.2.2⟩
    · exact ⟨hq.1, hm.1, by have := hq.2.2; simp only; omega⟩
    · exact cutGo_rg l (i + 1) (by simp at hi; omega) (fun x hx => h x (by simp [hx])) r hr
theorem cutGo_len : ∀ (l : S) (i : Nat), (cutGo i l).length = 2 * l.length
  | [], _ => rfl
  | r :: l, i => by simp only [cutGo, List.length_cons, cutGo_len l]; omega
theorem cutGo_snoc : ∀ (l : S) (i : Nat) (r : R), cutGo i (l ++ [r]) = cutGo i l ++ [(mid (i + l.length) r, r.2), (r.1, mid (i + l.length) r)]
  | [], i, r => by simp [cutGo]
  | q :: l, i, r => by
    simp only [List.cons_append, cutGo, cutGo_snoc l (i + 1) r, List.length_cons]
    rw [show i + 1 + l.length = i + (l.length + 1) by omega]
theorem cut_step {l : S} {k : Nat} {r : R} (hr : l[k]? = some r) : cutGo 0 (l.take (k + 1)) = cutGo 0 (l.take k) ++ [(mid k r, r.2), (r.1, mid k r)] := by
  rw [take_succ hr, cutGo_snoc]
  have : (l.take k).length = k := by have := (List.getElem?_eq_some_iff.1 hr).1; rw [List.length_take]; omega
  rw [this, Nat.zero_add]
theorem cut_back {l : S} (h : right l = true) (hl : l.length ≤ 20) : setOf (cutGo 0 l) = l := by
  have hrg := right_rg h
  have hc := cutGo_rg l 0 (by omega) hrg
  refine uniq (setOf_right _ hc) h fun c => ?_
  rw [setOf_mem _ hc, cutGo_mem c l 0 (by omega) (fun r hr => (hrg r hr).2.1)]
  cases hm : mem c l
  · simp
  · rw [mem_pt h hm]; rfl
/-- the members, at a point -/
theorem setOf_has {l : S} (h : ∀ r ∈ l, rg r) {c : Int} (hc : pt c = true) : mem c (setOf l) = mem c l := by rw [setOf_mem l h, hc]; rfl
end Go.Proofs.YtiooimdncocfdaaGreatDoor.Rs
/- Plain facts for ClassWrong: a set that is right, and six that are not. -/
namespace Go.Proofs.YtiooimdncocfdaaGreatDoor.Rs
theorem mkR_hi {a : Int} {x : Sm} (ha : -2 ≤ a) (h : SmOk x) : (mkR a x).2 ≤ a + 123395 := by
  obtain ⟨l1, l2⟩ := mkLo_bd (a := a) h
  obtain ⟨⟨a1, a2⟩, ⟨b1, b2⟩, _⟩ := h
  unfold mkR
  split
  · simp only; omega
  · simp only; omega
theorem mkGo_hi : ∀ (l : List Sm) (a : Int), -2 ≤ a → (∀ x ∈ l, SmOk x) → ∀ r ∈ mkGo a l, r.2 ≤ a + 123395 * l.length
  | [], _, _, _ => by simp [mkGo]
  | x :: l, a, ha, h => by
    intro r hr
    have hx := h x (by simp)
    have h1 := mkR_hi ha hx
    unfold mkGo at hr
    split at hr
    · simp at hr
    · rename_i h2
      have ho := mkR_ok ha hx (by omega)
      have ho2 := (okR_iff _).1 ho.1
      rcases List.mem_cons.1 hr with rfl | hr
      · simp only [List.length_cons]; omega
      · have := mkGo_hi l (mkR a x).2 (by omega) (fun y hy => h y (by simp [hy])) r hr
        simp only [List.length_cons]; omega
/-- the set that is right -/
def goodS (l : List Sm) : S := made (l.take 5) ++ [(1000000, 1000005)]
theorem goodS_len (l : List Sm) : 1 ≤ (goodS l).length ∧ (goodS l).length ≤ 21 := by
  have := made_len (l.take 5)
  simp only [goodS, List.length_append, List.length_singleton]
  omega
theorem goodS_right {l : List Sm} (h : ∀ x ∈ l, SmOk x) : right (goodS l) = true := by
  have h5 : ∀ x ∈ l.take 5, SmOk x := fun x hx => h x (List.mem_of_mem_take hx)
  unfold goodS right
  refine (rightA_append 0 _ _ (-2)).2 ⟨made_right h5, by decide, ?_⟩
  cases hg : (made (l.take 5)).getLast? with
  | none => simp
  | some q =>
    have hm := List.mem_of_getLast? hg
    have := mkGo_hi ((l.take 5).take 20) (-2) (by omega) (fun x hx => h5 x (List.mem_of_mem_take hx)) q hm
    have hl : ((l.take 5).take 20).length ≤ 5 := by simp only [List.length_take]; omega
    simp only
    omega
theorem ins_get {l : S} {i : Nat} (x : R) (h : i < l.length) : (l.take (i + 1) ++ [x] ++ l.drop (i + 1))[i + 1]? = some x ∧ (l.take (i + 1) ++ [x] ++ l.drop (i + 1))[i]? = l[i]? := by
  have hl : (l.take (i + 1)).length = i + 1 := by rw [List.length_take]; omega
  constructor
  · rw [List.append_assoc, List.getElem?_append_right (by omega), hl]; simp
  · rw [List.append_assoc, List.getElem?_append_left (by omega), List.getElem?_take, if_pos (by omega)]
/-- the six defects -/
def badS (l : S) (i way : Nat) (n : Int) : S :=
  let r := l.getD i (0, 0)
  if way = 0 then l.set i (r.1, min n (r.1 - 1))
  else if way = 1 then l.set 0 (min n (-1), (l.getD 0 (0, 0)).2)
  else if way = 2 then l.set (l.length - 1) ((l.getD (l.length - 1) (0, 0)).1, max n 1114112)
  else if way = 3 then l ++ [r]
  else if way = 4 then l.take (i + 1) ++ [(r.2 + 1, r.2 + 1)] ++ l.drop (i + 1)
  else [(5, 1000001)]
theorem badS_not {l : S} {i way : Nat} {n : Int} (h : right l = true) (hi : i < l.length) : right (badS l i way n) = false := by
  obtain ⟨r, hr⟩ : ∃ r, l[i]? = some r := ⟨_, List.getElem?_eq_getElem hi⟩
  have hg : l.getD i (0, 0) = r := by simp [List.getD, hr]
  unfold badS
  rw [hg]
  simp only
  split
  · refine right_no (k := i) (r := (r.1, min n (r.1 - 1))) (by rw [List.getElem?_set_self hi]) (okR_no _ (.inr (.inr (.inl ?_))))
    simp only; omega
  split
  · refine right_no (k := 0) (r := (min n (-1), (l.getD 0 (0, 0)).2)) (by rw [List.getElem?_set_self (by omega)]) (okR_no _ (.inl ?_))
    have : ¬ (pt (min n (-1)) = true) := by rw [pt_iff]; omega
    simpa using this
  split
  · refine right_no (k := l.length - 1) (r := ((l.getD (l.length - 1) (0, 0)).1, max n 1114112)) (by rw [List.getElem?_set_self (by omega)]) (okR_no _ (.inr (.inl ?_)))
    have : ¬ (pt (max n 1114112) = true) := by rw [pt_iff]; omega
    simpa using this
  split
  · obtain ⟨q, hq⟩ : ∃ q, l[l.length - 1]? = some q := ⟨_, List.getElem?_eq_getElem (by omega)⟩
    refine right_no2 (k := l.length) (q := q) (r := r) (by omega) ?_ ?_ ?_
    · rw [List.getElem?_append_left (by omega), hq]
    · rw [List.getElem?_append_right (Nat.le_refl _)]; simp
    · have ho := right_ok h hq
      by_cases he : i = l.length - 1
      · rw [he, hq] at hr
        cases hr
        omega
      · have := right_lt h i (l.length - 1) r q (by omega) hr hq
        have ho2 := right_ok h hr
        omega
  split
  · obtain ⟨h1, h2⟩ := ins_get (r.2 + 1, r.2 + 1) hi
    refine right_no2 (k := i + 1) (q := r) (by omega) (by rw [Nat.add_sub_cancel, h2, hr]) h1 ?_
    simp only; omega
  · decide
theorem all_rgB {l : S} (h : ∀ r ∈ l, rg r) : l.all rgB = true := List.all_eq_true.2 fun r hr => (rgB_iff r).2 (h r hr)
theorem badS_err {l : S} {i way : Nat} {n : Int} (h : right l = true) (hi : i < l.length) (hl : l.length ≤ 1000) (hb : ∀ r ∈ l, r.2 ≤ 1000005) : ofErr (badS l i way n) = if way < 3 then 2 else 0 := by
  obtain ⟨r, hr⟩ : ∃ r, l[i]? = some r := ⟨_, List.getElem?_eq_getElem hi⟩
  have hg : l.getD i (0, 0) = r := by simp [List.getD, hr]
  have hrm := List.mem_of_getElem? hr
  have hrg := right_rg h
  have h3 := hrg r hrm
  have h4 := hb r hrm
  have e : (badS l i way n).length ≤ 4096 := by
    unfold badS
    simp only
    repeat' split
    all_goals simp only [List.length_set, List.length_append, List.length_singleton, List.length_take, List.length_drop]; omega
  unfold ofErr
  rw [if_neg (by omega)]
  unfold badS
  rw [hg]
  simp only
  have no : ∀ (k : Nat) (x : R), (badS l i way n)[k]? = some x → rgB x = false → (badS l i way n).all rgB = false := fun k x hx => all_no hx
  split
  · rename_i hw
    rw [all_no (k := i) (r := (r.1, min n (r.1 - 1))) (by rw [List.getElem?_set_self hi]) (by
      have : ¬ (rgB (r.1, min n (r.1 - 1)) = true) := by rw [rgB_iff]; intro h; have := h.2.1; simp only at this; omega
      simpa using this)]
    simp only [Bool.false_eq_true, if_false]
    rw [if_pos (by omega)]
  split
  · rw [all_no (k := 0) (r := (min n (-1), (l.getD 0 (0, 0)).2)) (by rw [List.getElem?_set_self (by omega)]) (by
      have : ¬ (rgB (min n (-1), (l.getD 0 (0, 0)).2) = true) := by rw [rgB_iff]; intro h; have := h.1; simp only at this; omega
      simpa using this)]
    simp only [Bool.false_eq_true, if_false]
    rw [if_pos (by omega)]
  split
  · rw [all_no (k := l.length - 1) (r := ((l.getD (l.length - 1) (0, 0)).1, max n 1114112)) (by rw [List.getElem?_set_self (by omega)]) (by
      have : ¬ (rgB ((l.getD (l.length - 1) (0, 0)).1, max n 1114112) = true) := by rw [rgB_iff]; intro h; have := h.2.2; simp only at this; omega
      simpa using this)]
    simp only [Bool.false_eq_true, if_false]
    rw [if_pos (by omega)]
  split
  · rw [all_rgB (by
      intro x hx
      rcases List.mem_append.1 hx with hx | hx
      · exact hrg x hx
      · simp only [List.mem_singleton] at hx
        subst hx; exact h3)]
    simp only [if_true]
    rw [if_neg (by omega)]
  split
  · rw [all_rgB (by
      intro x hx
      simp only [List.mem_append, List.mem_singleton] at hx
      rcases hx with (hx | hx) | hx
      · exact hrg x (List.mem_of_mem_take hx)
      · subst hx
        obtain ⟨g1, g2, g3⟩ := h3
        exact ⟨by simp only; omega, by simp only; omega, by simp only; omega⟩
      · exact hrg x (List.mem_of_mem_drop hx))]
    simp only [if_true]
    rw [if_neg (by omega)]
  · rw [show List.all [((5, 1000001) : R)] rgB = true by decide]
    simp only [if_true]
    rw [if_neg (by omega)]
theorem goodS_hi {l : List Sm} (h : ∀ x ∈ l, SmOk x) : ∀ r ∈ goodS l, r.2 ≤ 1000005 := by
  intro r hr
  unfold goodS at hr
  rcases List.mem_append.1 hr with hr | hr
  · have := mkGo_hi ((l.take 5).take 20) (-2) (by omega) (fun x hx => h x (List.mem_of_mem_take (List.mem_of_mem_take hx))) r hr
    have hl : ((l.take 5).take 20).length ≤ 5 := by simp only [List.length_take]; omega
    omega
  · simp only [List.mem_singleton] at hr
    subst hr; decide
theorem not_next {l : S} (h : right l = false) (c : Int) : nextN l c = 0 ∧ nextB l c = false := by simp [nextN, nextB, h]
end Go.Proofs.YtiooimdncocfdaaGreatDoor.Rs
