/- Texts of the claim, put together: PlA. -/
import Derived.Lib.TrimUEq
import Derived.Lib.Bytealg
namespace Go.Proofs.YtimahlimmblgkaaGreatDoor.Rs
abbrev R := Int × Int
abbrev S := List R
def pt (c : Int) : Bool := (decide (0 ≤ c) && decide (c ≤ 55295)) || (decide (57344 ≤ c) && decide (c ≤ 1114111))
def inR (c : Int) (r : R) : Bool := decide (r.1 ≤ c) && decide (c ≤ r.2)
def mem (c : Int) (l : S) : Bool := l.any (inR c)
def okR (r : R) : Bool := pt r.1 && pt r.2 && decide (r.1 ≤ r.2) && !(decide (r.1 ≤ 55295) && decide (55295 < r.2))
def rightA (h : Int) : S → Bool
  | [] => true
  | r :: l => okR r && decide (h + 1 < r.1) && rightA r.2 l
def right (l : S) : Bool := rightA (-2) l
theorem pt_iff (c : Int) : pt c = true ↔ (0 ≤ c ∧ c ≤ 55295) ∨ (57344 ≤ c ∧ c ≤ 1114111) := by simp [pt]
theorem inR_iff (c : Int) (r : R) : inR c r = true ↔ r.1 ≤ c ∧ c ≤ r.2 := by simp [inR]
theorem okR_iff (r : R) : okR r = true ↔ r.1 ≤ r.2 ∧ ((0 ≤ r.1 ∧ r.2 ≤ 55295) ∨ (57344 ≤ r.1 ∧ r.2 ≤ 1114111)) := by
  simp only [okR, Bool.and_eq_true, pt_iff, decide_eq_true_eq, Bool.not_eq_true', Bool.and_eq_false_iff, decide_eq_false_iff_not]
  omega
theorem mem_nil (c : Int) : mem c [] = false := rfl
theorem mem_cons (c : Int) (r : R) (l : S) : mem c (r :: l) = (inR c r || mem c l) := rfl
theorem mem_append (c : Int) (a b : S) : mem c (a ++ b) = (mem c a || mem c b) := by simp [mem]
theorem mem_reverse (c : Int) (a : S) : mem c a.reverse = mem c a := by simp [mem]
theorem mem_iff (c : Int) (l : S) : mem c l = true ↔ ∃ r ∈ l, r.1 ≤ c ∧ c ≤ r.2 := by simp [mem, inR]
theorem rightA_cons (h : Int) (r : R) (l : S) : rightA h (r :: l) = true ↔ okR r = true ∧ h + 1 < r.1 ∧ rightA r.2 l = true := by
  simp only [rightA, Bool.and_eq_true, decide_eq_true_eq, and_assoc]
theorem mem_lb {h c : Int} : ∀ {l : S}, rightA h l = true → mem c l = true → h + 1 < c
  | [], _, hm => by simp [mem] at hm
  | r :: l, hr, hm => by
    obtain ⟨ho, hl, ht⟩ := (rightA_cons h r l).1 hr
    rw [okR_iff] at ho
    rw [mem_cons, Bool.or_eq_true, inR_iff] at hm
    rcases hm with hm | hm
    · omega
    · have := mem_lb ht hm; omega
theorem mem_pt {h c : Int} : ∀ {l : S}, rightA h l = true → mem c l = true → pt c = true
  | [], _, hm => by simp [mem] at hm
  | r :: l, hr, hm => by
    obtain ⟨ho, hl, ht⟩ := (rightA_cons h r l).1 hr
    rw [okR_iff] at ho
    rw [mem_cons, Bool.or_eq_true, inR_iff] at hm
    rcases hm with hm | hm
    · rw [pt_iff]; omega
    · exact mem_pt ht hm
theorem uniqA : ∀ (x y : S) (h h' : Int), rightA h x = true → rightA h' y = true → (∀ c, mem c x = mem c y) → x = y
  | [], [], _, _, _, _, _ => rfl
  | [], s :: ys, _, h', _, hy, hm => by
    obtain ⟨ho, _, _⟩ := (rightA_cons h' s ys).1 hy
    rw [okR_iff] at ho
    have h1 := hm s.1
    have : inR s.1 s = true := by rw [inR_iff]; omega
    rw [mem_nil, mem_cons, this] at h1
    simp at h1
  | r :: xs, [], h, _, hx, _, hm => by
    obtain ⟨ho, _, _⟩ := (rightA_cons h r xs).1 hx
    rw [okR_iff] at ho
    have h1 := hm r.1
    have : inR r.1 r = true := by rw [inR_iff]; omega
    rw [mem_nil, mem_cons, this] at h1
    simp at h1
  | r :: xs, s :: ys, h, h', hx, hy, hm => by
    obtain ⟨ho, _, hxt⟩ := (rightA_cons h r xs).1 hx
    obtain ⟨ho', _, hyt⟩ := (rightA_cons h' s ys).1 hy
    rw [okR_iff] at ho ho'
    have up : ∀ (r s : R) (ys : S), rightA s.2 ys = true → s.1 ≤ s.2 → mem r.1 (s :: ys) = true → s.1 ≤ r.1 := by
      intro r s ys hyt hs h1
      rw [mem_cons, Bool.or_eq_true, inR_iff] at h1
      rcases h1 with h1 | h1
      · omega
      · have := mem_lb hyt h1; omega
    have hr1 : mem r.1 (r :: xs) = true := by rw [mem_cons, Bool.or_eq_true, inR_iff]; omega
    have hs1 : mem s.1 (s :: ys) = true := by rw [mem_cons, Bool.or_eq_true, inR_iff]; omega
    have e1 : r.1 = s.1 := by
      have a := up r s ys hyt ho'.1 (by rw [← hm]; exact hr1)
      have b := up s r xs hxt ho.1 (by rw [hm]; exact hs1)
      omega
    have hi : ∀ (r s : R) (xs ys : S), rightA r.2 xs = true → r.1 = s.1 → r.1 ≤ r.2 → (mem (r.2 + 1) (s :: ys) = true → mem (r.2 + 1) (r :: xs) = true) → s.2 ≤ r.2 := by
      intro r s xs ys hxt e1 hr himp
      by_cases hlt : r.2 < s.2
      · have hq : mem (r.2 + 1) (s :: ys) = true := by rw [mem_cons, Bool.or_eq_true, inR_iff]; omega
        have h2 := himp hq
        rw [mem_cons, Bool.or_eq_true, inR_iff] at h2
        rcases h2 with h2 | h2
        · omega
        · have := mem_lb hxt h2; omega
      · omega
    have e2 : r.2 = s.2 := by
      have a := hi r s xs ys hxt e1 ho.1 (by rw [hm]; exact id)
      have b := hi s r ys xs hyt e1.symm ho'.1 (by rw [hm]; exact id)
      omega
    have er : r = s := Prod.ext e1 e2
    subst er
    have ht : ∀ c, mem c xs = mem c ys := by
      intro c
      by_cases hc : inR c r = true
      · rw [inR_iff] at hc
        have a : mem c xs = false := by
          cases hq : mem c xs with
          | false => rfl
          | true => have := mem_lb hxt hq; omega
        have b : mem c ys = false := by
          cases hq : mem c ys with
          | false => rfl
          | true => have := mem_lb hyt hq; omega
        rw [a, b]
      · have hc' : inR c r = false := by simpa using hc
        have := hm c
        rw [mem_cons, mem_cons, hc'] at this
        simpa using this
    rw [uniqA xs ys r.2 r.2 hxt hyt ht]
theorem uniq {x y : S} (hx : right x = true) (hy : right y = true) (h : ∀ c, mem c x = mem c y) : x = y := uniqA x y _ _ hx hy h
def parts (r : R) : S := (if r.1 ≤ 55295 then [(r.1, min r.2 55295)] else []) ++ (if 57344 ≤ r.2 then [(max r.1 57344, r.2)] else [])
def mg (acc : S) (p : R) : S :=
  match acc with
  | [] => [p]
  | q :: t => if p.1 ≤ q.2 + 1 then (q.1, max q.2 p.2) :: t else p :: q :: t
def addR (acc : S) (r : R) : S := (parts r).foldl mg acc
def fromSorted (l : S) : S := (l.foldl addR []).reverse
/-- a range of numbers from 0 to the last code point -/
def rg (r : R) : Prop := 0 ≤ r.1 ∧ r.1 ≤ r.2 ∧ r.2 ≤ 1114111
/-- a right list, its last range first -/
def RR : S → Prop
  | [] => True
  | [q] => okR q = true
  | q :: q' :: t => okR q = true ∧ q'.2 + 1 < q.1 ∧ RR (q' :: t)
theorem RR.tail {q : R} {t : S} (h : RR (q :: t)) : RR t := by
  cases t with
  | nil => trivial
  | cons q' t => exact h.2.2
theorem RR.ok {q : R} {t : S} (h : RR (q :: t)) : okR q = true := by
  cases t with
  | nil => exact h
  | cons q' t => exact h.1
theorem rightA_append (h : Int) (r : R) : ∀ (l : S) (h0 : Int), rightA h0 (l ++ [r]) = true ↔ rightA h0 l = true ∧ okR r = true ∧ (match l.getLast? with | some q => q.2 | none => h0) + 1 < r.1
  | [], h0 => by simp [rightA]
  | s :: l, h0 => by
    rw [List.cons_append, rightA_cons, rightA_append h r l s.2, rightA_cons]
    cases hl : l.getLast? with
    | none =>
      have : l = [] := by simpa using hl
      subst this
      simp [and_assoc]
    | some q =>
      have hne : l ≠ [] := by intro e; subst e; simp at hl
      have : (s :: l).getLast? = some q := by
        cases l with
        | nil => exact absurd rfl hne
        | cons a l => rw [List.getLast?_cons_cons]; exact hl
      rw [this]
      simp only [and_assoc]
theorem right_of_RR : ∀ (l : S), RR l → right l.reverse = true
  | [], _ => rfl
  | [q], h => by
    have h' : okR q = true := h
    have := (okR_iff q).1 h'
    rw [right, List.reverse_singleton, rightA_cons]
    exact ⟨h', by omega, rfl⟩
  | q :: q' :: t, h => by
    obtain ⟨h1, h2, h3⟩ := h
    have ih := right_of_RR (q' :: t) h3
    unfold right at ih ⊢
    rw [List.reverse_cons, rightA_append 0]
    refine ⟨ih, h1, ?_⟩
    have : (q' :: t).reverse.getLast? = some q' := by simp
    rw [this]
    exact h2
/-- what holds of the list when ranges with Lo up to lo have come -/
def Inv (lo : Int) (acc : S) : Prop :=
  RR acc ∧ match acc with
  | [] => True
  | q :: _ => q.1 ≤ lo ∨ (q.1 = 57344 ∧ 57344 ≤ q.2 ∧ ∀ c, lo ≤ c → c ≤ 55295 → mem c acc = true)
theorem mg_le {lo : Int} {acc : S} (hR : RR acc) (p : R) (hp : okR p = true) (_hl : p.1 ≤ lo) (hq : ∀ q t, acc = q :: t → q.1 ≤ p.1) :
    RR (mg acc p) ∧ (∀ c, mem c (mg acc p) = (mem c acc || inR c p)) ∧ (∃ q t, mg acc p = q :: t ∧ q.1 ≤ p.1 ∧ p.2 ≤ q.2) := by
  cases acc with
  | nil => exact ⟨hp, fun c => by simp [mg, mem], ⟨p, [], rfl, Int.le_refl _, Int.le_refl _⟩⟩
  | cons q t =>
    have hqp := hq q t rfl
    have hoq := (okR_iff q).1 hR.ok
    have hop := (okR_iff p).1 hp
    by_cases hc : p.1 ≤ q.2 + 1
    · have e : mg (q :: t) p = (q.1, max q.2 p.2) :: t := by simp [mg, hc]
      rw [e]
      refine ⟨?_, ?_, ⟨_, t, rfl, hqp, by simp only; omega⟩⟩
      · have hk : okR (q.1, max q.2 p.2) = true := by rw [okR_iff]; simp only; omega
        cases t with
        | nil => exact hk
        | cons q' t => exact ⟨hk, hR.2.1, hR.2.2⟩
      · intro c
        rw [mem_cons, mem_cons, Bool.eq_iff_iff]
        simp only [Bool.or_eq_true, inR_iff]
        constructor
        · rintro (h | h)
          · by_cases h' : c ≤ q.2
            · exact .inl (.inl ⟨h.1, h'⟩)
            · exact .inr (by omega)
          · exact .inl (.inr h)
        · rintro ((h | h) | h)
          · exact .inl (by omega)
          · exact .inr h
          · exact .inl (by omega)
    · have e : mg (q :: t) p = p :: q :: t := by simp [mg, hc]
      rw [e]
      refine ⟨⟨hp, by omega, hR⟩, ?_, ⟨_, _, rfl, Int.le_refl _, Int.le_refl _⟩⟩
      intro c
      rw [mem_cons, Bool.or_comm]
theorem addR_inv {lo : Int} {acc : S} (h : Inv lo acc) (r : R) (hr : rg r) (hlo : lo ≤ r.1) :
    Inv r.1 (addR acc r) ∧ ∀ c, mem c (addR acc r) = (mem c acc || (pt c && inR c r)) := by
  obtain ⟨hR, hh⟩ := h
  obtain ⟨r0, r1, r2⟩ := hr
  by_cases hlow : r.1 ≤ 55295
  · -- the low part comes first
    have hp : okR (r.1, min r.2 55295) = true := by rw [okR_iff]; simp only; omega
    -- behind the low part
    have step1 : ∃ acc1, mg acc (r.1, min r.2 55295) = acc1 ∧ RR acc1 ∧ (∀ c, mem c acc1 = (mem c acc || inR c (r.1, min r.2 55295))) ∧
        ∃ q t, acc1 = q :: t ∧ ((q.1 ≤ r.1 ∧ min r.2 55295 ≤ q.2) ∨ (q.1 = 57344 ∧ 57344 ≤ q.2 ∧ ∀ c, r.1 ≤ c → c ≤ 55295 → mem c acc1 = true)) := by
      cases hacc : acc with
      | nil =>
        obtain ⟨a, b, q, t, e1, e2, e3⟩ := mg_le (lo := r.1) (acc := []) trivial _ hp (Int.le_refl _) (fun _ _ h => by simp at h)
        exact ⟨_, rfl, a, b, q, t, e1, .inl ⟨e2, e3⟩⟩
      | cons q t =>
        subst hacc
        rcases hh with hq | ⟨hq1, hq2, hcov⟩
        · obtain ⟨a, b, q', t', e1, e2, e3⟩ := mg_le (lo := r.1) hR _ hp (Int.le_refl _) (fun q' t' h => by cases h; simp only; omega)
          exact ⟨_, rfl, a, b, q', t', e1, .inl ⟨e2, e3⟩⟩
        · have e : mg (q :: t) (r.1, min r.2 55295) = q :: t := by
            have h1 : r.1 ≤ q.2 + 1 := by omega
            have h2 : max q.2 (min r.2 55295) = q.2 := by omega
            simp [mg, h1, h2]
          refine ⟨_, e, hR, ?_, q, t, rfl, .inr ⟨hq1, hq2, fun c h1 h2 => hcov c (by omega) h2⟩⟩
          intro c
          cases hi : inR c (r.1, min r.2 55295) with
          | false => simp
          | true =>
            rw [inR_iff] at hi
            simp only at hi
            rw [hcov c (by omega) (by omega)]
            simp
    obtain ⟨acc1, e1, hR1, hm1, q, t, hq, hcase⟩ := step1
    by_cases hhigh : 57344 ≤ r.2
    · have hp2 : okR (max r.1 57344, r.2) = true := by rw [okR_iff]; simp only; omega
      have ea : addR acc r = mg acc1 (max r.1 57344, r.2) := by simp [addR, parts, hlow, hhigh, e1]
      obtain ⟨a, b, q', t', f1, f2, f3⟩ := mg_le (lo := max r.1 57344) hR1 _ hp2 (Int.le_refl _) (fun q' t' h => by
        rw [hq] at h; cases h; simp only
        rcases hcase with h | h <;> omega)
      have hall : ∀ c, mem c (addR acc r) = (mem c acc || (pt c && inR c r)) := by
        intro c
        rw [ea, b, hm1, Bool.eq_iff_iff]
        simp only [Bool.or_eq_true, Bool.and_eq_true, inR_iff, pt_iff]
        constructor
        · rintro ((h | h) | h)
          · exact .inl h
          · exact .inr (by omega)
          · exact .inr (by omega)
        · rintro (h | h)
          · exact .inl (.inl h)
          · by_cases hc : c ≤ 55295
            · exact .inl (.inr (by omega))
            · exact .inr (by omega)
      refine ⟨⟨by rw [ea]; exact a, ?_⟩, hall⟩
      rw [ea, f1]
      simp only at f2 f3 ⊢
      have hok := (okR_iff q').1 (by have := a; rw [f1] at this; exact this.ok)
      by_cases hq'' : q'.1 ≤ r.1
      · exact .inl hq''
      · refine .inr ⟨by omega, by omega, fun c h1 h2 => ?_⟩
        rw [← f1, ← ea, hall]
        simp only [Bool.or_eq_true, Bool.and_eq_true, inR_iff, pt_iff]
        exact .inr (by omega)
    · have ea : addR acc r = acc1 := by simp [addR, parts, hlow, hhigh, e1]
      have hall : ∀ c, mem c (addR acc r) = (mem c acc || (pt c && inR c r)) := by
        intro c
        rw [ea, hm1, Bool.eq_iff_iff]
        simp only [Bool.or_eq_true, Bool.and_eq_true, inR_iff, pt_iff]
        constructor
        · rintro (h | h)
          · exact .inl h
          · exact .inr (by omega)
        · rintro (h | h)
          · exact .inl h
          · exact .inr (by omega)
      refine ⟨⟨by rw [ea]; exact hR1, ?_⟩, hall⟩
      rw [ea, hq]
      rcases hcase with h | ⟨h1, h2, h3⟩
      · exact .inl h.1
      · exact .inr ⟨h1, h2, fun c a b => by rw [← hq]; exact h3 c a b⟩
  · by_cases hhigh : 57344 ≤ r.2
    · have hp2 : okR (max r.1 57344, r.2) = true := by rw [okR_iff]; simp only; omega
      have ea : addR acc r = mg acc (max r.1 57344, r.2) := by simp [addR, parts, hlow, hhigh]
      obtain ⟨a, b, q', t', f1, f2, f3⟩ := mg_le (lo := max r.1 57344) hR _ hp2 (Int.le_refl _) (fun q' t' h => by
        subst h; simp only
        rcases hh with h | h <;> omega)
      have hall : ∀ c, mem c (addR acc r) = (mem c acc || (pt c && inR c r)) := by
        intro c
        rw [ea, b, Bool.eq_iff_iff]
        simp only [Bool.or_eq_true, Bool.and_eq_true, inR_iff, pt_iff]
        constructor
        · rintro (h | h)
          · exact .inl h
          · exact .inr (by omega)
        · rintro (h | h)
          · exact .inl h
          · exact .inr (by omega)
      refine ⟨⟨by rw [ea]; exact a, ?_⟩, hall⟩
      rw [ea, f1]
      simp only at f2 f3 ⊢
      have hok := (okR_iff q').1 (by have := a; rw [f1] at this; exact this.ok)
      by_cases hq'' : q'.1 ≤ r.1
      · exact .inl hq''
      · exact .inr ⟨by omega, by omega, fun c h1 h2 => by omega⟩
    · have ea : addR acc r = acc := by simp [addR, parts, hlow, hhigh]
      rw [ea]
      refine ⟨⟨hR, ?_⟩, fun c => ?_⟩
      · cases acc with
        | nil => trivial
        | cons q t =>
          rcases hh with h | ⟨h1, h2, h3⟩
          · exact .inl (by omega)
          · exact .inr ⟨h1, h2, fun c a b => by omega⟩
      · have : (pt c && inR c r) = false := by
          cases hq : (pt c && inR c r) with
          | false => rfl
          | true =>
            simp only [Bool.and_eq_true, inR_iff, pt_iff] at hq
            omega
        rw [this, Bool.or_false]
theorem foldl_inv : ∀ (l : S) (lo : Int) (acc : S), Inv lo acc → (∀ r ∈ l, rg r) → l.Pairwise (fun a b => a.1 ≤ b.1) → (∀ r ∈ l, lo ≤ r.1) →
    RR (l.foldl addR acc) ∧ ∀ c, mem c (l.foldl addR acc) = (mem c acc || (pt c && mem c l))
  | [], _, acc, h, _, _, _ => ⟨h.1, fun c => by simp [mem]⟩
  | r :: l, lo, acc, h, hrg, hs, hlo => by
    obtain ⟨h1, h2⟩ := addR_inv h r (hrg r (by simp)) (hlo r (by simp))
    have hs' := List.pairwise_cons.1 hs
    obtain ⟨h3, h4⟩ := foldl_inv l r.1 (addR acc r) h1 (fun x hx => hrg x (by simp [hx])) hs'.2 (fun x hx => hs'.1 x hx)
    refine ⟨h3, fun c => ?_⟩
    rw [List.foldl_cons, h4, h2, mem_cons]
    cases mem c acc <;> cases pt c <;> cases inR c r <;> cases mem c l <;> rfl
theorem fromSorted_spec (l : S) (hrg : ∀ r ∈ l, rg r) (hs : l.Pairwise (fun a b => a.1 ≤ b.1)) :
    right (fromSorted l) = true ∧ ∀ c, mem c (fromSorted l) = (pt c && mem c l) := by
  obtain ⟨h1, h2⟩ := foldl_inv l 0 [] ⟨trivial, trivial⟩ hrg hs (fun r hr => (hrg r hr).1)
  refine ⟨right_of_RR _ h1, fun c => ?_⟩
  rw [fromSorted, mem_reverse, h2]
  simp [mem]
def ins (r : R) : S → S
  | [] => [r]
  | q :: t => if r.1 ≤ q.1 then r :: q :: t else q :: ins r t
def isort : S → S
  | [] => []
  | r :: t => ins r (isort t)
theorem mem_ins (r x : R) : ∀ l : S, x ∈ ins r l ↔ x = r ∨ x ∈ l
  | [] => by simp [ins]
  | q :: t => by
    by_cases h : r.1 ≤ q.1
    · simp [ins, h]
    · simp only [ins, h, if_false, List.mem_cons, mem_ins r x t]
      constructor
      · rintro (h | h | h) <;> simp [h]
      · rintro (h | h | h) <;> simp [h]
theorem mem_isort (x : R) : ∀ l : S, x ∈ isort l ↔ x ∈ l
  | [] => Iff.rfl
  | r :: t => by rw [isort, mem_ins, mem_isort x t, List.mem_cons]
theorem ins_sorted (r : R) : ∀ l : S, l.Pairwise (fun a b => a.1 ≤ b.1) → (ins r l).Pairwise (fun a b => a.1 ≤ b.1)
  | [], _ => by simp [ins]
  | q :: t, h => by
    have h' := List.pairwise_cons.1 h
    by_cases hc : r.1 ≤ q.1
    · simp only [ins, hc, if_true]
      refine List.pairwise_cons.2 ⟨fun a ha => ?_, h⟩
      rcases List.mem_cons.1 ha with rfl | ha
      · exact hc
      · have := h'.1 a ha; omega
    · simp only [ins, hc, if_false]
      refine List.pairwise_cons.2 ⟨fun a ha => ?_, ins_sorted r t h'.2⟩
      rcases (mem_ins r a t).1 ha with rfl | ha
      · omega
      · exact h'.1 a ha
theorem isort_sorted : ∀ l : S, (isort l).Pairwise (fun a b => a.1 ≤ b.1)
  | [] => List.Pairwise.nil
  | r :: t => ins_sorted r _ (isort_sorted t)
/-- the right list of the code points of some ranges -/
def setOf (l : S) : S := fromSorted (isort l)
theorem mem_congr {a b : S} (h : ∀ x, x ∈ a ↔ x ∈ b) (c : Int) : mem c a = mem c b := by
  rw [Bool.eq_iff_iff, mem_iff, mem_iff]
  constructor
  · rintro ⟨r, hr, h2⟩; exact ⟨r, (h r).1 hr, h2⟩
  · rintro ⟨r, hr, h2⟩; exact ⟨r, (h r).2 hr, h2⟩
theorem setOf_right (l : S) (hrg : ∀ r ∈ l, rg r) : right (setOf l) = true :=
  (fromSorted_spec _ (fun r hr => hrg r ((mem_isort r l).1 hr)) (isort_sorted l)).1
theorem setOf_mem (l : S) (hrg : ∀ r ∈ l, rg r) (c : Int) : mem c (setOf l) = (pt c && mem c l) := by
  rw [setOf, (fromSorted_spec _ (fun r hr => hrg r ((mem_isort r l).1 hr)) (isort_sorted l)).2, mem_congr (mem_isort · l)]
/-- whatever order the sort brings the ranges into -/
theorem fromSorted_eq (l d : S) (hrg : ∀ r ∈ l, rg r) (hm : ∀ x, x ∈ d ↔ x ∈ l) (hs : d.Pairwise (fun a b => a.1 ≤ b.1)) : fromSorted d = setOf l := by
  obtain ⟨h1, h2⟩ := fromSorted_spec d (fun r hr => hrg r ((hm r).1 hr)) hs
  exact uniq h1 (setOf_right l hrg) fun c => by rw [h2, setOf_mem l hrg, mem_congr hm]
theorem right_rg {h : Int} : ∀ {l : S}, rightA h l = true → ∀ r ∈ l, rg r
  | [], _, r, hr => by simp at hr
  | s :: l, hl, r, hr => by
    obtain ⟨ho, _, ht⟩ := (rightA_cons h s l).1 hl
    rcases List.mem_cons.1 hr with rfl | hr
    · have := (okR_iff r).1 ho; unfold rg; omega
    · exact right_rg ht r hr
/-- a right list makes itself -/
theorem setOf_self {l : S} (h : right l = true) : setOf l = l :=
  uniq (setOf_right l (right_rg h)) h fun c => by
    rw [setOf_mem l (right_rg h)]
    cases hm : mem c l with
    | false => simp
    | true => simp [mem_pt h hm]
def gaps (f : Int) : S → S
  | [] => if f ≤ 1114111 then [(f, 1114111)] else []
  | r :: l => (if f < r.1 then [(f, r.1 - 1)] else []) ++ gaps (r.2 + 1) l
def notS (l : S) : S := setOf (gaps 0 l)
theorem gaps_rg : ∀ (l : S) (f h : Int), 0 ≤ f → rightA h l = true → ∀ r ∈ gaps f l, rg r
  | [], f, h, hf, _, r, hr => by
    unfold gaps at hr
    by_cases hc : f ≤ 1114111
    · simp [hc] at hr; subst hr; exact ⟨hf, hc, Int.le_refl _⟩
    · simp [hc] at hr
  | s :: l, f, h, hf, hl, r, hr => by
    obtain ⟨ho, hlt, ht⟩ := (rightA_cons h s l).1 hl
    have ho' := (okR_iff s).1 ho
    unfold gaps at hr
    rcases List.mem_append.1 hr with hr | hr
    · by_cases hc : f < s.1
      · simp [hc] at hr; subst hr; unfold rg; simp only; omega
      · simp [hc] at hr
    · exact gaps_rg l (s.2 + 1) s.2 (by omega) ht r hr
theorem notS_right {l : S} (h : right l = true) : right (notS l) = true := setOf_right _ (gaps_rg l 0 (-2) (by omega) h)
theorem rightA_iff : ∀ (l : S) (h : Int), rightA h l = true ↔ (∀ (i : Nat) (r : R), l[i]? = some r → okR r = true) ∧ (∀ (i : Nat) (q r : R), l[i]? = some q → l[i + 1]? = some r → q.2 + 1 < r.1) ∧ (∀ r, l[0]? = some r → h + 1 < r.1)
  | [], h => by simp [rightA]
  | s :: l, h => by
    rw [rightA_cons, rightA_iff l s.2]
    constructor
    · rintro ⟨h1, h2, h3, h4, h5⟩
      refine ⟨fun i r hr => ?_, fun i q r hq hr => ?_, fun r hr => ?_⟩
      · cases i with
        | zero => simp at hr; subst hr; exact h1
        | succ i => exact h3 i r (by simpa using hr)
      · cases i with
        | zero => simp at hq; subst hq; exact h5 r (by simpa using hr)
        | succ i => exact h4 i q r (by simpa using hq) (by simpa using hr)
      · simp at hr; subst hr; exact h2
    · rintro ⟨h1, h2, h3⟩
      refine ⟨h1 0 s rfl, h3 s rfl, fun i r hr => h1 (i + 1) r (by simpa using hr), fun i q r hq hr => h2 (i + 1) q r (by simpa using hq) (by simpa using hr), fun r hr => h2 0 s r rfl (by simpa using hr)⟩
theorem right_iff (l : S) : right l = true ↔ (∀ (i : Nat) (r : R), l[i]? = some r → okR r = true) ∧ (∀ (i : Nat) (q r : R), l[i]? = some q → l[i + 1]? = some r → q.2 + 1 < r.1) := by
  rw [right, rightA_iff]
  constructor
  · rintro ⟨h1, h2, _⟩; exact ⟨h1, h2⟩
  · rintro ⟨h1, h2⟩
    exact ⟨h1, h2, fun r hr => by have := (okR_iff r).1 (h1 0 r hr); omega⟩
theorem right_no {l : S} {k : Nat} {r : R} (hr : l[k]? = some r) (h : okR r = false) : right l = false := by
  cases hq : right l with
  | false => rfl
  | true => rw [((right_iff l).1 hq).1 k r hr] at h; cases h
theorem right_no2 {l : S} {k : Nat} {q r : R} (hk : 1 ≤ k) (hq : l[k - 1]? = some q) (hr : l[k]? = some r) (h : r.1 ≤ q.2 + 1) : right l = false := by
  cases hx : right l with
  | false => rfl
  | true =>
    have := ((right_iff l).1 hx).2 (k - 1) q r hq (by rw [show k - 1 + 1 = k from by omega]; exact hr)
    omega
theorem right_yes {l : S} {k : Nat} {r : R} (h0 : right (l.take k) = true) (hr : l[k]? = some r) (ho : okR r = true) (hp : ∀ q, 1 ≤ k → l[k - 1]? = some q → q.2 + 1 < r.1) : right (l.take (k + 1)) = true := by
  rw [right_iff] at h0 ⊢
  simp only [List.getElem?_take] at h0 ⊢
  refine ⟨fun i x hx => ?_, fun i x y hx hy => ?_⟩
  · by_cases hi : i < k
    · exact h0.1 i x (by rw [if_pos hi]; rw [if_pos (by omega)] at hx; exact hx)
    · by_cases hi2 : i < k + 1
      · rw [if_pos hi2] at hx
        obtain rfl : i = k := by omega
        rw [hr] at hx; cases hx; exact ho
      · rw [if_neg hi2] at hx; cases hx
  · by_cases hi : i + 1 < k
    · exact h0.2 i x y (by rw [if_pos (by omega)]; rw [if_pos (by omega)] at hx; exact hx) (by rw [if_pos hi]; rw [if_pos (by omega)] at hy; exact hy)
    · by_cases hi2 : i + 1 < k + 1
      · rw [if_pos (by omega)] at hx
        rw [if_pos hi2] at hy
        obtain rfl : k = i + 1 := by omega
        rw [hr] at hy; cases hy
        exact hp x (by omega) (by simpa using hx)
      · rw [if_neg hi2] at hy; cases hy
theorem right_take_ok {l : S} {k i : Nat} {q : R} (h0 : right (l.take k) = true) (hi : i < k) (hq : l[i]? = some q) : okR q = true :=
  ((right_iff _).1 h0).1 i q (by rw [List.getElem?_take, if_pos hi]; exact hq)
theorem okR_of (r : R) (h1 : pt r.1 = true) (h2 : pt r.2 = true) (h3 : r.1 ≤ r.2) (h4 : ¬ (r.1 ≤ 55295 ∧ 55295 < r.2)) : okR r = true := by
  rw [okR_iff]; rw [pt_iff] at h1 h2; omega
theorem okR_no (r : R) (h : pt r.1 = false ∨ pt r.2 = false ∨ r.2 < r.1 ∨ (r.1 ≤ 55295 ∧ 55295 < r.2)) : okR r = false := by
  unfold okR
  rcases h with h | h | h | h
  · simp [h]
  · simp [h]
  · have : decide (r.1 ≤ r.2) = false := by simp; omega
    simp [this]
  · simp [h.1, h.2]
def cnt : S → Int
  | [] => 0
  | r :: l => (r.2 - r.1 + 1) + cnt l
theorem take_succ {l : S} {k : Nat} {r : R} (hr : l[k]? = some r) : l.take (k + 1) = l.take k ++ [r] := by
  rw [List.take_add_one, hr]; rfl
theorem cnt_bd : ∀ (l : S) (h : Int), rightA h l = true → 0 ≤ cnt l ∧ (cnt l ≤ 1114111 - h ∨ cnt l = 0)
  | [], h, _ => by simp [cnt]
  | r :: l, h, hr => by
    obtain ⟨h1, h2, h3⟩ := (rightA_cons h r l).1 hr
    have ho := (okR_iff r).1 h1
    have ih := cnt_bd l r.2 h3
    rw [cnt]; omega
theorem cnt_le {l : S} (h : right l = true) : 0 ≤ cnt l ∧ cnt l ≤ 1114113 := by have := cnt_bd l (-2) h; omega
def Bd (q : R) : Prop := 0 ≤ q.1 ∧ q.1 ≤ 1114111 ∧ 0 ≤ q.2 ∧ q.2 ≤ 1114111
theorem bd_mg {acc : S} {p : R} (h : ∀ q ∈ acc, Bd q) (hp : Bd p) : ∀ q ∈ mg acc p, Bd q := by
  intro q hq
  cases acc with
  | nil => simp [mg] at hq; subst hq; exact hp
  | cons s t =>
    have hs := h s (by simp)
    unfold mg at hq
    by_cases hc : p.1 ≤ s.2 + 1
    · simp only [hc, if_true, List.mem_cons] at hq
      rcases hq with rfl | hq
      · unfold Bd at hs hp ⊢; simp only; omega
      · exact h q (by simp [hq])
    · simp only [hc, if_false, List.mem_cons] at hq
      rcases hq with rfl | hq
      · exact hp
      · exact h q (by simpa using hq)
theorem bd_foldl : ∀ (l : S) (acc : S), (∀ q ∈ acc, Bd q) → (∀ q ∈ l, Bd q) → ∀ q ∈ l.foldl mg acc, Bd q
  | [], _, h, _ => h
  | p :: l, acc, h, hl => bd_foldl l (mg acc p) (bd_mg h (hl p (by simp))) (fun q hq => hl q (by simp [hq]))
theorem bd_parts {r : R} (h : rg r) : ∀ q ∈ parts r, Bd q := by
  intro q hq
  obtain ⟨h0, h1, h2⟩ := h
  unfold parts at hq
  rcases List.mem_append.1 hq with hq | hq
  · by_cases hc : r.1 ≤ 55295
    · simp [hc] at hq; subst hq; unfold Bd; simp only; omega
    · simp [hc] at hq
  · by_cases hc : 57344 ≤ r.2
    · simp [hc] at hq; subst hq; unfold Bd; simp only; omega
    · simp [hc] at hq
theorem bd_addRs : ∀ (l : S) (acc : S), (∀ q ∈ acc, Bd q) → (∀ r ∈ l, rg r) → ∀ q ∈ l.foldl addR acc, Bd q
  | [], _, h, _ => h
  | r :: l, acc, h, hl => bd_addRs l (addR acc r) (bd_foldl _ _ h (bd_parts (hl r (by simp)))) (fun q hq => hl q (by simp [hq]))
theorem addR_len (acc : S) (r : R) : (addR acc r).length ≤ acc.length + 2 := by
  have hm : ∀ (a : S) (p : R), (mg a p).length ≤ a.length + 1 := by
    intro a p
    cases a with
    | nil => simp [mg]
    | cons q t => by_cases hc : p.1 ≤ q.2 + 1 <;> simp [mg, hc]
  have hp : (parts r).length ≤ 2 := by unfold parts; split <;> split <;> simp
  unfold addR
  generalize parts r = ps at hp
  match ps, hp with
  | [], _ => simp
  | [p], _ => have := hm acc p; simp; omega
  | [p, p'], _ => have := hm acc p; have := hm (mg acc p) p'; simp; omega
theorem foldl_len : ∀ (l acc : S), (l.foldl addR acc).length ≤ acc.length + 2 * l.length
  | [], acc => by simp
  | r :: l, acc => by
    have h1 := addR_len acc r
    have h2 := foldl_len l (addR acc r)
    simp only [List.foldl_cons, List.length_cons]; omega
theorem mg_len (a : S) (p : R) : (mg a p).length ≤ a.length + 1 := by
  cases a with
  | nil => simp [mg]
  | cons q t => by_cases hc : p.1 ≤ q.2 + 1 <;> simp [mg, hc]
theorem foldl_mg_len : ∀ (l acc : S), (l.foldl mg acc).length ≤ acc.length + l.length
  | [], acc => by simp
  | r :: l, acc => by
    have h1 := mg_len acc r
    have h2 := foldl_mg_len l (mg acc r)
    simp only [List.foldl_cons, List.length_cons]; omega
end Go.Proofs.YtimahlimmblgkaaGreatDoor.Rs
namespace Go.Proofs.YtimahlimmblgkaaGreatDoor.Rs
def gstep (p : S × Int) (r : R) : S × Int := ((if p.2 < r.1 then p.1 ++ [(p.2, r.1 - 1)] else p.1), r.2 + 1)
def gend (p : S × Int) : S := if p.2 ≤ 1114111 then p.1 ++ [(p.2, 1114111)] else p.1
theorem gaps_fold : ∀ (l : S) (acc : S) (f : Int), gend (l.foldl gstep (acc, f)) = acc ++ gaps f l
  | [], acc, f => by
    unfold gend gaps
    simp only [List.foldl_nil]
    by_cases h : f ≤ 1114111 <;> simp [h]
  | r :: l, acc, f => by
    rw [List.foldl_cons]
    unfold gaps
    have : gstep (acc, f) r = ((if f < r.1 then acc ++ [(f, r.1 - 1)] else acc), r.2 + 1) := rfl
    rw [this, gaps_fold l _ _]
    by_cases h : f < r.1 <;> simp [h]
theorem gaps_fold0 (l : S) : gend (l.foldl gstep ([], 0)) = gaps 0 l := by rw [gaps_fold]; rfl
theorem gst_len : ∀ (l : S) (p : S × Int), (l.foldl gstep p).1.length ≤ p.1.length + l.length
  | [], p => by simp
  | r :: l, p => by
    rw [List.foldl_cons]
    refine Nat.le_trans (gst_len l _) ?_
    unfold gstep
    by_cases h : p.2 < r.1 <;> simp [h] <;> omega
theorem gst_bd : ∀ (l : S) (p : S × Int), (∀ r ∈ l, rg r) → 0 ≤ p.2 ∧ p.2 ≤ 1114112 → 0 ≤ (l.foldl gstep p).2 ∧ (l.foldl gstep p).2 ≤ 1114112
  | [], p, _, h => h
  | r :: l, p, hr, h => by
    rw [List.foldl_cons]
    refine gst_bd l _ (fun x hx => hr x (List.mem_cons_of_mem _ hx)) ?_
    have := hr r (List.mem_cons_self ..)
    unfold rg at this
    show 0 ≤ r.2 + 1 ∧ r.2 + 1 ≤ 1114112
    omega
theorem gst_step {l : S} {k : Nat} {r : R} (hr : l[k]? = some r) : (l.take (k + 1)).foldl gstep ([], 0) = gstep ((l.take k).foldl gstep ([], 0)) r := by rw [take_succ hr, List.foldl_append]; rfl
end Go.Proofs.YtimahlimmblgkaaGreatDoor.Rs
namespace Go.Proofs.YtimahlimmblgkaaGreatDoor.Rs
/-- the byte at a place, as a number; 0 behind the end -/
def bt (s : List UInt8) (i : Nat) : Int := ((s.getD i 0).toNat : Int)
theorem bt_range (s : List UInt8) (i : Nat) : 0 ≤ bt s i ∧ bt s i < 256 := by have := (s.getD i 0).toNat_lt; unfold bt; omega
theorem bt_drop (s : List UInt8) (k i : Nat) : bt (s.drop k) i = bt s (k + i) := by simp [bt, List.getD]
def hexD (c : Int) : Option Int := if 48 ≤ c ∧ c ≤ 57 then some (c - 48) else if 97 ≤ c ∧ c ≤ 102 then some (c - 87) else if 65 ≤ c ∧ c ≤ 70 then some (c - 55) else none
def hexF : List UInt8 → Int → Option Int
  | [], n => some n
  | b :: l, n => match hexD (b.toNat : Int) with
    | some d => hexF l (16 * n + d)
    | none => none
/-- the number of one to six hexadecimal digits -/
def hexS (l : List UInt8) : Option Int := if l.length = 0 ∨ 6 < l.length then none else hexF l 0
theorem hexD_range {c d : Int} (h : hexD c = some d) : 0 ≤ d ∧ d ≤ 15 := by
  unfold hexD at h
  split at h
  · cases h; omega
  · split at h
    · cases h; omega
    · split at h
      · cases h; omega
      · cases h
theorem hexF_range : ∀ (l : List UInt8) (n x : Int), 0 ≤ n → hexF l n = some x → 0 ≤ x ∧ x < (n + 1) * 16 ^ l.length
  | [], n, x, h0, h => by simp only [hexF, Option.some.injEq] at h; subst h; simp; omega
  | b :: l, n, x, h0, h => by
    unfold hexF at h
    cases hd : hexD (b.toNat : Int) with
    | none => rw [hd] at h; cases h
    | some d =>
      rw [hd] at h
      have hr := hexD_range hd
      have ih := hexF_range l (16 * n + d) x (by omega) h
      refine ⟨ih.1, ?_⟩
      have e : (n + 1) * 16 ^ (b :: l).length = (n + 1) * 16 * 16 ^ l.length := by rw [List.length_cons, Int.pow_succ, Int.mul_comm (16 ^ l.length) 16, Int.mul_assoc]
      rw [e]
      refine Int.lt_of_lt_of_le ih.2 (Int.mul_le_mul_of_nonneg_right (by omega) (Int.pow_nonneg (by omega)))
theorem hexF_ge : ∀ (l : List UInt8) (n x : Int), 0 ≤ n → hexF l n = some x → n ≤ x
  | [], n, x, _, h => by simp only [hexF, Option.some.injEq] at h; omega
  | b :: l, n, x, h0, h => by
    unfold hexF at h
    cases hd : hexD (b.toNat : Int) with
    | none => rw [hd] at h; cases h
    | some d =>
      rw [hd] at h
      have hr := hexD_range hd
      have := hexF_ge l _ x (by omega) h
      omega
def sign (c : Int) : Option Int :=
  if c = 110 then some 10 else if c = 116 then some 9 else if c = 114 then some 13 else if c = 102 then some 12 else if c = 118 then some 11 else if c = 97 then some 7 else none
def letterB (c : Int) : Bool := (decide (48 ≤ c) && decide (c ≤ 57)) || (decide (65 ≤ c) && decide (c ≤ 90)) || (decide (97 ≤ c) && decide (c ≤ 122))
def ptO (n : Nat) : Option Int → Option (Int × Nat)
  | some x => if pt x then some (x, n) else none
  | none => none
/-- the escape with which a string begins, and how many bytes it has -/
def escS (s : List UInt8) : Option (Int × Nat) :=
  if s.length < 2 then none
  else if bt s 0 ≠ 92 then none
  else match sign (bt s 1) with
    | some c => some (c, 2)
    | none =>
      if bt s 1 = 120 ∧ 2 < s.length ∧ bt s 2 = 123 then
        (let e := Lib.indexByte s 125
        if e < 0 ∨ 9 < e then none else ptO (e.toNat + 1) (hexS ((s.take e.toNat).drop 3)))
      else if bt s 1 = 120 ∧ 3 < s.length then ptO 4 (hexS ((s.take 4).drop 2))
      else if 32 < bt s 1 ∧ bt s 1 < 127 ∧ letterB (bt s 1) = false then some (bt s 1, 2)
      else none
/-- the text of a code point -/
def hexDig (d : Nat) : UInt8 := UInt8.ofNat (if d < 10 then 48 + d else 55 + d)
def hexT : Nat → Nat → List UInt8
  | 0, _ => []
  | f + 1, n => if n < 16 then [hexDig n] else hexT f (n / 16) ++ [hexDig (n % 16)]
def plainB (c : Int) : Bool := decide (33 ≤ c ∧ c ≤ 126 ∧ c ≠ 45 ∧ c ≠ 91 ∧ c ≠ 92 ∧ c ≠ 93 ∧ c ≠ 94)
def markS (c : Int) : List UInt8 := if plainB c then [UInt8.ofNat c.toNat] else [92, 120, 123] ++ hexT 16 c.toNat ++ [125]
def rangeT (r : R) : List UInt8 := markS r.1 ++ (if r.1 < r.2 then 45 :: markS r.2 else [])
def allT : List UInt8 := [91, 94, 92, 120, 123, 48, 125, 45, 92, 120, 123, 49, 48, 70, 70, 70, 70, 125, 93]
def textS (l : S) : List UInt8 := if l = [] then allT else [91] ++ l.flatMap rangeT ++ [93]
/-- the point with which a string begins -/
def decS (t : List UInt8) : Nat × Nat := if t = [] then (65533, 0) else Lib.decodeL t
def partS (t : List UInt8) : Option (Int × Nat) :=
  if t.length = 0 then none
  else if bt t 0 = 92 then escS t
  else if ((decS t).1 ≠ 65533 ∨ 1 < (decS t).2) ∧ (decS t).1 ≠ 91 ∧ (decS t).1 ≠ 93 ∧ (decS t).1 ≠ 45 then some ((decS t).1, (decS t).2)
  else none
def setD : S := [(48, 57)]
def setSp : S := [(9, 10), (12, 13), (32, 32)]
def setW : S := [(48, 57), (65, 90), (95, 95), (97, 122)]
/-- the named set of a letter -/
def namedO (c : Int) : Option S :=
  if c = 100 then some setD else if c = 115 then some setSp else if c = 119 then some setW
  else if c = 68 then some (notS setD) else if c = 83 then some (notS setSp) else if c = 87 then some (notS setW) else none
/-- the item with which a string begins, and how many bytes it has -/
def itemS (t : List UInt8) (first : Bool) : Option (S × Nat) :=
  match (if bt t 0 = 92 ∧ 1 < t.length then namedO (bt t 1) else none) with
  | some l => some (l, 2)
  | none =>
    if bt t 0 = 45 ∧ (first = true ∨ bt t 1 = 93) then some ([(45, 45)], 1)
    else match partS t with
      | none => none
      | some (a, n) =>
        if bt t n = 45 ∧ bt t (n + 1) ≠ 93 then
          match partS (t.drop (n + 1)) with
          | none => none
          | some (b, m) => if b < a then none else some ([(a, b)], n + 1 + m)
        else some ([(a, a)], n)
/-- all items, and the ] behind them: what is left of the string -/
def itemsS : Nat → List UInt8 → Bool → S → Option (S × List UInt8)
  | 0, _, _, _ => none
  | f + 1, t, first, acc =>
    if first = false ∧ bt t 0 = 93 then some (acc, t.drop 1)
    else match itemS t first with
      | none => none
      | some (l, n) => itemsS f (t.drop n) false (acc ++ l)
end Go.Proofs.YtimahlimmblgkaaGreatDoor.Rs
namespace Go.Proofs.YtimahlimmblgkaaGreatDoor.Rs
end Go.Proofs.YtimahlimmblgkaaGreatDoor.Rs
namespace Go.Proofs.YtimahlimmblgkaaGreatDoor.Rs
/-- the class with which a string begins: its set, and how many bytes it has -/
def readF (s : List UInt8) : Option (S × Nat) :=
  if bt s 0 ≠ 91 then none
  else match itemsS (s.length + 1) (s.drop (if bt s 1 = 94 then 2 else 1)) true [] with
    | none => none
    | some (l, r) => some (if bt s 1 = 94 then notS (setOf l) else setOf l, s.length - r.length)
def readL (s : List UInt8) : S := ((readF s).map (·.1)).getD []
def readN (s : List UInt8) : Nat := ((readF s).map (·.2)).getD 0
def readE (s : List UInt8) : Int := if (readF s).isSome then 0 else 61
theorem read_some {s : List UInt8} {l : S} {n : Nat} (h : readF s = some (l, n)) : readL s = l ∧ readN s = n ∧ readE s = 0 := by simp [readL, readN, readE, h]
theorem read_none {s : List UInt8} (h : readF s = none) : readL s = [] ∧ readN s = 0 ∧ readE s = 61 := by simp [readL, readN, readE, h]
end Go.Proofs.YtimahlimmblgkaaGreatDoor.Rs
