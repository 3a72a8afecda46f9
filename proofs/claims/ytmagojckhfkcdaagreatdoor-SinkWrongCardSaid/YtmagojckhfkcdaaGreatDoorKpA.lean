/- Several parts in one text: KpA, KRp, KRq. -/
import Derived.Lib.SlicesCompact
/- Several parts in one text: KpA, KtP, KqP, KqA. -/
/- Plain facts for chapter 38: strings that are valid, names, labels, keys, items. -/
namespace Go.Proofs.YtmagojckhfkcdaaGreatDoor.Sk
abbrev B := List UInt8
/-- how many bytes a form has that begins with a byte; 0 if there is none -/
def hd (c : Nat) : Nat := if c < 128 then 1 else if 194 ≤ c ∧ c < 224 then 2 else if 224 ≤ c ∧ c < 240 then 3 else if 240 ≤ c ∧ c < 245 then 4 else 0
def cont (c : Nat) : Bool := decide (128 ≤ c ∧ c < 192)
/-- whether a second byte can follow a first one -/
def sec (f c : Nat) : Bool :=
  cont c && (if f = 224 then decide (160 ≤ c) else if f = 237 then decide (c < 160) else if f = 240 then decide (144 ≤ c) else if f = 244 then decide (c < 144) else true)
def okB (f j : Nat) (a : UInt8) : Bool := if j = 0 then sec f a.toNat else cont a.toNat
def okGo (f : Nat) : Nat → Nat → B → Bool
  | _, 0, _ => true
  | _, _ + 1, [] => false
  | j, k + 1, a :: r => okB f j a && okGo f (j + 1) k r
/-- the length of the form with which bytes begin -/
def rd : B → Option Nat
  | [] => none
  | f :: r => if hd f.toNat ≠ 0 ∧ okGo f.toNat 0 (hd f.toNat - 1) r = true then some (hd f.toNat) else none
def validF : Nat → B → Bool
  | _, [] => true
  | 0, _ => true
  | k + 1, s => match rd s with
    | none => false
    | some n => validF k (s.drop n)
def valid (s : B) : Bool := validF s.length s
theorem hd_le (c : Nat) : hd c ≤ 4 := by
  unfold hd
  repeat (first | omega | split)
theorem okGo_len (f : Nat) : ∀ (k j : Nat) (r : B), okGo f j k r = true → k ≤ r.length
  | 0, _, _, _ => Nat.zero_le _
  | k + 1, _, [], h => by simp [okGo] at h
  | k + 1, j, a :: r, h => by
    simp only [okGo, Bool.and_eq_true] at h
    have := okGo_len f k (j + 1) r h.2
    simp only [List.length_cons]
    omega
theorem okGo_snoc (f : Nat) : ∀ (k j : Nat) (r : B), okGo f j (k + 1) r = (okGo f j k r && (match r[k]? with | some a => okB f (j + k) a | none => false))
  | 0, j, [] => by simp [okGo]
  | 0, j, a :: r => by simp [okGo]
  | k + 1, j, [] => by simp [okGo]
  | k + 1, j, a :: r => by
    rw [okGo, okGo_snoc f k (j + 1) r, okGo, Bool.and_assoc]
    simp only [List.getElem?_cons_succ]
    rw [show j + 1 + k = j + (k + 1) by omega]
theorem okGo_take {f : Nat} {r : B} : ∀ {m k : Nat}, k ≤ m → okGo f 0 m r = true → okGo f 0 k r = true
  | 0, k, h, _ => by obtain rfl : k = 0 := by omega
                     rfl
  | m + 1, k, h, hm => by
    rcases Nat.lt_or_ge k (m + 1) with hk | hk
    · rw [okGo_snoc, Bool.and_eq_true] at hm
      exact okGo_take (by omega) hm.1
    · obtain rfl : k = m + 1 := by omega
      exact hm
theorem okGo_at {f : Nat} {r : B} {m k : Nat} (h : k < m) (hm : okGo f 0 m r = true) : ∃ a, r[k]? = some a ∧ okB f k a = true := by
  have h1 := okGo_take (k := k + 1) (by omega) hm
  rw [okGo_snoc, Bool.and_eq_true] at h1
  cases hr : r[k]? with
  | none => rw [hr] at h1; simp at h1
  | some a => rw [hr] at h1; exact ⟨a, rfl, by simpa using h1.2⟩
theorem rd_yes {f : UInt8} {r : B} (h0 : hd f.toNat ≠ 0) (h : okGo f.toNat 0 (hd f.toNat - 1) r = true) : rd (f :: r) = some (hd f.toNat) := by
  simp only [rd]
  rw [if_pos ⟨h0, h⟩]
theorem rd_zero {f : UInt8} {r : B} (h0 : hd f.toNat = 0) : rd (f :: r) = none := by
  simp only [rd]
  rw [if_neg (fun h => h.1 h0)]
theorem rd_no {f : UInt8} {r : B} {k : Nat} (hk : k < hd f.toNat - 1) (h : ∀ a, r[k]? = some a → okB f.toNat k a = false) : rd (f :: r) = none := by
  simp only [rd]
  rw [if_neg]
  rintro ⟨_, h2⟩
  obtain ⟨a, ha, hb⟩ := okGo_at hk h2
  rw [h a ha] at hb
  cases hb
theorem rd_pos {s : B} {n : Nat} (h : rd s = some n) : 1 ≤ n ∧ n ≤ 4 ∧ n ≤ s.length := by
  cases s with
  | nil => simp [rd] at h
  | cons f r =>
    simp only [rd] at h
    split at h
    · rename_i ho
      have hn := hd_le f.toNat
      have hl := okGo_len _ _ _ _ ho.2
      cases h
      simp only [List.length_cons]
      have := ho.1
      omega
    · cases h
theorem validF_fuel : ∀ (k : Nat) (s : B), s.length ≤ k → validF k s = validF s.length s
  | 0, s, h => by
    cases s with
    | nil => rfl
    | cons _ _ => simp at h
  | k + 1, s, h => by
    cases s with
    | nil => rfl
    | cons f r =>
      simp only [List.length_cons]
      simp only [validF]
      cases hr : rd (f :: r) with
      | none => rfl
      | some n =>
        have hp := rd_pos hr
        simp only [List.length_cons] at hp h
        have hl : ((f :: r).drop n).length ≤ r.length := by simp; omega
        simp only
        rw [validF_fuel k _ (by omega), validF_fuel r.length _ hl]
theorem valid_nil : valid [] = true := rfl
theorem valid_none {s : B} (h0 : s ≠ []) (h : rd s = none) : valid s = false := by
  cases s with
  | nil => exact absurd rfl h0
  | cons f r => simp only [valid, List.length_cons, validF, h]
theorem valid_some {s : B} {n : Nat} (h : rd s = some n) : valid s = valid (s.drop n) := by
  have hp := rd_pos h
  cases s with
  | nil => simp [rd] at h
  | cons f r =>
    simp only [List.length_cons] at hp
    have hl : ((f :: r).drop n).length ≤ r.length := by simp; omega
    unfold valid
    simp only [List.length_cons, validF, h]
    exact validF_fuel _ _ hl
theorem drop_at {s : B} {k : Nat} (h : k < s.length) : s.drop k = s[k] :: s.drop (k + 1) := List.drop_eq_getElem_cons h

/-! names, values -/
def let_ (c : Nat) : Bool := decide (97 ≤ c ∧ c ≤ 122 ∨ 65 ≤ c ∧ c ≤ 90 ∨ c = 95)
def dig (c : Nat) : Bool := decide (48 ≤ c ∧ c ≤ 57)
def nameGo (i : Nat) : B → Bool
  | [] => true
  | c :: r => (let_ c.toNat || (decide (1 ≤ i) && dig c.toNat)) && nameGo (i + 1) r
def nameB (s : B) : Bool := decide (1 ≤ s.length ∧ s.length ≤ 128) && nameGo 0 s
def valueB (s : B) : Bool := decide (s.length ≤ 1024) && valid s

abbrev Lab := ByteArray × ByteArray
abbrev d (s : ByteArray) : B := s.data.toList
def labOk (prev : Option ByteArray) (x : Lab) : Bool :=
  nameB (d x.1) && valueB (d x.2) && decide (d x.2 ≠ []) && (match prev with | none => true | some p => decide (d p < d x.1))
def labGo (prev : Option ByteArray) : List Lab → Bool
  | [] => true
  | x :: l => labOk prev x && labGo (some x.1) l
def labRight (l : List Lab) : Bool := decide (l.length ≤ 64) && labGo none l
def bytesS (l : List Lab) : B := l.flatMap fun x => d x.1 ++ [255] ++ (d x.2 ++ [255])

/-! an entry, an item -/
structure Ent where
  lab : List Lab
  mark : Bool
  bits : Int
  st : Bool
  time : Int
  stamp : Int
def jobB (s : B) : Bool := decide (1 ≤ s.length ∧ s.length ≤ 128) && valid s
def onto (x : UInt8) : List B → List B
  | p :: q => (x :: p) :: q
  | [] => [[x]]
/-- the pieces of bytes between those that are c -/
def cutAt (c : UInt8) : B → List B
  | [] => [[]]
  | x :: r => if x = c then [] :: cutAt c r else onto x (cutAt c r)
/-- pieces taken two by two -/
def two : List B → List Lab
  | a :: b :: r => (⟨a.toArray⟩, ⟨b.toArray⟩) :: two r
  | _ => []
def readS (s : B) : Option (List Lab) :=
  if (cutAt 255 s).length % 2 = 0 ∨ (cutAt 255 s).getLast? ≠ some [] ∨ 129 < (cutAt 255 s).length then none
  else if labRight (two (cutAt 255 s)) then some (two (cutAt 255 s)) else none
/-- what is ahead of the first c, and behind it -/
def ahead (c : UInt8) : B → Option (B × B)
  | [] => none
  | x :: r => if x = c then some ([], r) else (ahead c r).map fun p => (x :: p.1, p.2)
def readKey (s : B) : Option (B × List Lab) :=
  match ahead 254 s with
  | none => none
  | some (j, r) => if jobB j then (readS r).map fun l => (j, l) else none
def itemRight (k : B) (e : Ent) : Bool :=
  (readKey k).isSome && labRight e.lab && decide (0 ≤ e.stamp ∧ e.stamp ≤ 562949953421313) && (!e.mark || (decide (e.bits = 0) && !e.st)) && (e.st || decide (e.time = 0))
structure It where
  key : ByteArray
  e : Ent
abbrev Line := B × B
def lineOf (x : It) : Line := (d x.key, bytesS x.e.lab)
abbrev Last := Option (Int × Bool)
def upd (f : Line → Last) (k : Line) (v : Int × Bool) : Line → Last := fun q => if q = k then some v else f q
def fol (f : Line → Last) (x : It) : Int :=
  match f (lineOf x) with
  | some (s, m) => if x.e.stamp ≤ s then 381 else if x.e.mark && m then 382 else 0
  | none => if x.e.mark then 382 else 0
def know (f : Line → Last) (x : It) : Line → Last := upd f (lineOf x) (x.e.stamp, x.e.mark)
/-- what is known of lines behind items -/
def lastOf (l : List It) : Line → Last := l.foldl know (fun _ => none)
def chkGo (f : Line → Last) (i : Int) : List It → Int × Int
  | [] => (-1, 0)
  | x :: l => if itemRight (d x.key) x.e then (if fol f x = 0 then chkGo (know f x) (i + 1) l else (i, fol f x)) else (i, 380)
def check (l : List It) : Int × Int := chkGo (fun _ => none) 0 l
def appGo (f : Line → Last) : List It → Int
  | [] => 0
  | x :: l => if fol f x = 0 then appGo (know f x) l else fol f x
def appErr (its l : List It) : Int :=
  if l.all (fun x => itemRight (d x.key) x.e) then (if appGo (lastOf its) l = 0 then (if 65536 < its.length + l.length then 4 else 0) else appGo (lastOf its) l) else 380
def app (its l : List It) : List It := if appErr its l = 0 then its ++ l else its
end Go.Proofs.YtmagojckhfkcdaaGreatDoor.Sk
/- Chapter 38's texts: words, as plain functions. -/
namespace Go.Proofs.YtmagojckhfkcdaaGreatDoor.Sk
/-- a digit of 16, in capitals -/
def hexU (n : Nat) : UInt8 := if n < 10 then UInt8.ofNat (48 + n) else UInt8.ofNat (55 + n)
/-- what stands for a byte in a word -/
def wordC (c : UInt8) : B := if c = 37 ∨ c < 33 ∨ 126 < c then [37, hexU (c.toNat / 16), hexU (c.toNat % 16)] else [c]
def wordS (s : B) : B := if s = [] then [45] else if s = [45] then [37, 50, 68] else s.flatMap wordC
theorem wordC_yes {c : UInt8} (h : c.toNat = 37 ∨ c.toNat < 33 ∨ 126 < c.toNat) : wordC c = [37, hexU (c.toNat / 16), hexU (c.toNat % 16)] := by
  unfold wordC
  refine if_pos ?_
  rcases h with h | h | h
  · exact .inl (UInt8.toNat_inj.1 h)
  · exact .inr (.inl (UInt8.lt_iff_toNat_lt.2 h))
  · exact .inr (.inr (UInt8.lt_iff_toNat_lt.2 h))
theorem wordC_37 {c : UInt8} (h : c.toNat = 37) : wordC c = [37, 50, 53] := by
  rw [wordC_yes (.inl h), h]
  rfl
theorem wordC_no {c : UInt8} (h1 : c.toNat ≠ 37) (h2 : 33 ≤ c.toNat) (h3 : c.toNat ≤ 126) : wordC c = [c] := by
  unfold wordC
  refine if_neg ?_
  rintro (h | h | h)
  · exact h1 (by rw [h]; rfl)
  · have := UInt8.lt_iff_toNat_lt.1 h; simp at this; omega
  · have := UInt8.lt_iff_toNat_lt.1 h; simp at this; omega
theorem wordC_len (c : UInt8) : (wordC c).length ≤ 3 := by
  unfold wordC
  split <;> simp
theorem wordF_len : ∀ s : B, (s.flatMap wordC).length ≤ 3 * s.length
  | [] => by simp
  | c :: s => by
    have := wordC_len c
    have := wordF_len s
    simp only [List.flatMap_cons, List.length_append, List.length_cons]
    omega
theorem wordF_step {s : B} {k : Nat} {c : UInt8} (h : s[k]? = some c) : (s.take (k + 1)).flatMap wordC = (s.take k).flatMap wordC ++ wordC c := by
  have : s.take (k + 1) = s.take k ++ [c] := by rw [List.take_add_one, h]; rfl
  rw [this, List.flatMap_append]
  simp
def hexT : ByteArray := ⟨#[48, 49, 50, 51, 52, 53, 54, 55, 56, 57, 65, 66, 67, 68, 69, 70]⟩
theorem hex_at : ∀ n : Nat, n < 16 → hexT.extract n (n + 1) = ⟨#[hexU n]⟩
  | 0, _ => by decide
  | 1, _ => by decide
  | 2, _ => by decide
  | 3, _ => by decide
  | 4, _ => by decide
  | 5, _ => by decide
  | 6, _ => by decide
  | 7, _ => by decide
  | 8, _ => by decide
  | 9, _ => by decide
  | 10, _ => by decide
  | 11, _ => by decide
  | 12, _ => by decide
  | 13, _ => by decide
  | 14, _ => by decide
  | 15, _ => by decide
  | n + 16, h => by omega
end Go.Proofs.YtmagojckhfkcdaaGreatDoor.Sk
/- Chapter 38, plain facts: what labels and keys are written as is read back. -/
namespace Go.Proofs.YtmagojckhfkcdaaGreatDoor.Sk
theorem okGo_small {f : Nat} : ∀ {k j : Nat} {r : B}, okGo f j k r = true → ∀ c ∈ r.take k, c.toNat < 192
  | 0, _, _, _, c, hc => by simp at hc
  | k + 1, _, [], h, _, _ => by simp [okGo] at h
  | k + 1, j, a :: r, h, c, hc => by
    simp only [okGo, Bool.and_eq_true] at h
    rw [List.take_succ_cons, List.mem_cons] at hc
    rcases hc with rfl | hc
    · have h1 := h.1
      unfold okB at h1
      split at h1
      · unfold sec at h1
        rw [Bool.and_eq_true] at h1
        have := h1.1
        unfold cont at this
        simp at this
        exact this.2
      · unfold cont at h1
        simp at h1
        exact h1.2
    · exact okGo_small h.2 c hc
theorem rd_small {s : B} {n : Nat} (h : rd s = some n) : ∀ c ∈ s.take n, c.toNat < 245 := by
  cases s with
  | nil => simp [rd] at h
  | cons f r =>
    simp only [rd] at h
    split at h
    · rename_i ho
      cases h
      intro c hc
      have hn : 1 ≤ hd f.toNat := by omega
      obtain ⟨m, hm⟩ : ∃ m, hd f.toNat = m + 1 := ⟨hd f.toNat - 1, by omega⟩
      rw [hm, List.take_succ_cons, List.mem_cons] at hc
      rcases hc with rfl | hc
      · have := ho.1
        unfold hd at this
        repeat (first | omega | split at this)
      · have h2 := ho.2
        rw [hm] at h2
        have := okGo_small h2 c hc
        omega
    · cases h
theorem valid_small : ∀ (n : Nat) {s : B}, s.length ≤ n → valid s = true → ∀ c ∈ s, c.toNat < 245
  | 0, s, hn, _, c, hc => by
    obtain rfl : s = [] := List.eq_nil_of_length_eq_zero (by omega)
    cases hc
  | n + 1, s, hn, h, c, hc => by
    cases hr : rd s with
    | none =>
      have := valid_none (by intro e; subst e; cases hc) hr
      rw [this] at h
      cases h
    | some k =>
      have hp := rd_pos hr
      rw [valid_some hr] at h
      rw [← List.take_append_drop k s, List.mem_append] at hc
      rcases hc with hc | hc
      · exact rd_small hr c hc
      · exact valid_small n (by simp; omega) h c hc
theorem nameGo_small : ∀ {s : B} {i : Nat}, nameGo i s = true → ∀ c ∈ s, c.toNat < 123
  | [], _, _, c, hc => by cases hc
  | x :: r, i, h, c, hc => by
    simp only [nameGo, Bool.and_eq_true] at h
    rcases List.mem_cons.1 hc with rfl | hc
    · have h1 := h.1
      unfold let_ dig at h1
      simp only [Bool.or_eq_true, Bool.and_eq_true, decide_eq_true_eq] at h1
      omega
    · exact nameGo_small h.2 c hc
theorem not_mem_big {s : B} {k : Nat} (h : ∀ c ∈ s, c.toNat < k) {x : UInt8} (hx : k ≤ x.toNat) : x ∉ s := fun hm => by have := h x hm; omega
theorem cutAt_app {c : UInt8} : ∀ {p : B}, c ∉ p → ∀ r, cutAt c (p ++ [c] ++ r) = p :: cutAt c r
  | [], _, r => by simp [cutAt]
  | x :: p, h, r => by
    have hx : x ≠ c := fun e => h (by subst e; exact List.mem_cons_self ..)
    have ih := cutAt_app (fun hm => h (List.mem_cons_of_mem _ hm)) r (c := c) (p := p)
    simp only [List.cons_append, cutAt]
    rw [if_neg hx, ih]
    rfl
theorem ahead_app {c : UInt8} : ∀ {p : B}, c ∉ p → ∀ r, ahead c (p ++ [c] ++ r) = some (p, r)
  | [], _, r => by simp [ahead]
  | x :: p, h, r => by
    have hx : x ≠ c := fun e => h (by subst e; exact List.mem_cons_self ..)
    have ih := ahead_app (fun hm => h (List.mem_cons_of_mem _ hm)) r (c := c) (p := p)
    simp only [List.cons_append, ahead]
    rw [if_neg hx, ih]
    rfl
/-- a name and a value without the byte 255 -/
def No255 (l : List Lab) : Prop := ∀ x ∈ l, (255 : UInt8) ∉ d x.1 ∧ (255 : UInt8) ∉ d x.2
def strsB (l : List Lab) : List B := l.flatMap fun x => [d x.1, d x.2]
theorem cut_bytes : ∀ {l : List Lab}, No255 l → cutAt 255 (bytesS l) = strsB l ++ [[]]
  | [], _ => by simp [bytesS, strsB, cutAt]
  | x :: l, h => by
    have hx := h x (List.mem_cons_self ..)
    have ih := cut_bytes (l := l) (fun y hy => h y (List.mem_cons_of_mem _ hy))
    have e : bytesS (x :: l) = d x.1 ++ [255] ++ (d x.2 ++ [255] ++ bytesS l) := by simp [bytesS]
    rw [e, cutAt_app hx.1, cutAt_app hx.2, ih]
    simp [strsB]
theorem two_strs : ∀ l : List Lab, two (strsB l ++ [[]]) = l
  | [] => rfl
  | x :: l => by
    have ih := two_strs l
    have e : strsB (x :: l) ++ [[]] = d x.1 :: d x.2 :: (strsB l ++ [[]]) := by simp [strsB]
    rw [e, two, ih]
theorem strsB_len : ∀ l : List Lab, (strsB l).length = 2 * l.length
  | [] => rfl
  | x :: l => by
    have ih := strsB_len l
    have e : strsB (x :: l) = d x.1 :: d x.2 :: strsB l := by simp [strsB]
    rw [e, List.length_cons, List.length_cons, ih, List.length_cons]
    omega
theorem labGo_no : ∀ {l : List Lab} {p : Option ByteArray}, labGo p l = true → No255 l
  | [], _, _, _, hx => by cases hx
  | y :: l, p, h, x, hx => by
    simp only [labGo, Bool.and_eq_true] at h
    rcases List.mem_cons.1 hx with rfl | hx
    · have h1 := h.1
      unfold labOk at h1
      simp only [Bool.and_eq_true] at h1
      refine ⟨not_mem_big (k := 123) ?_ (by decide), not_mem_big (k := 245) ?_ (by decide)⟩
      · have h2 := h1.1.1.1
        unfold nameB at h2
        rw [Bool.and_eq_true] at h2
        exact nameGo_small h2.2
      · have h2 := h1.1.1.2
        unfold valueB at h2
        rw [Bool.and_eq_true] at h2
        exact valid_small _ (Nat.le_refl _) h2.2
    · exact labGo_no h.2 x hx
theorem readS_bytes {l : List Lab} (h : labRight l = true) : readS (bytesS l) = some l := by
  have h0 := h
  unfold labRight at h
  rw [Bool.and_eq_true] at h
  have hc := cut_bytes (labGo_no h.2)
  have h64 : l.length ≤ 64 := by simpa using h.1
  unfold readS
  rw [hc, two_strs, if_neg, if_pos h0]
  rw [List.length_append, strsB_len, List.getLast?_concat]
  simp only [List.length_singleton, ne_eq, not_true_eq_false, false_or, not_or]
  omega
theorem bytesS_inj {l m : List Lab} (hl : labRight l = true) (hm : labRight m = true) (h : bytesS l = bytesS m) : l = m := by
  have h1 := readS_bytes hl
  rw [h, readS_bytes hm] at h1
  exact (Option.some.inj h1).symm
theorem readKey_bytes {j : B} {l : List Lab} (hj : jobB j = true) (hl : labRight l = true) : readKey (j ++ [254] ++ bytesS l) = some (j, l) := by
  have h1 := hj
  unfold jobB at h1
  rw [Bool.and_eq_true] at h1
  unfold readKey
  rw [ahead_app (not_mem_big (k := 245) (valid_small _ (Nat.le_refl _) h1.2) (by decide))]
  simp only [hj, if_true, readS_bytes hl, Option.map_some]
/-- what is known of a line comes of an item -/
theorem last_item : ∀ (l : List It) (q : Line) (v : Int × Bool), lastOf l q = some v → ∃ x ∈ l, lineOf x = q ∧ v = (x.e.stamp, x.e.mark) := by
  have key : ∀ (l : List It) (f : Line → Last) (q : Line) (v : Int × Bool), l.foldl know f q = some v → f q = some v ∨ ∃ x ∈ l, lineOf x = q ∧ v = (x.e.stamp, x.e.mark) := by
    intro l
    induction l with
    | nil => intro f q v h; exact .inl h
    | cons x r ih =>
      intro f q v h
      rcases ih (know f x) q v h with h1 | ⟨y, hy, e⟩
      · unfold know upd at h1
        split at h1
        · rename_i e
          cases h1
          exact .inr ⟨x, List.mem_cons_self .., e.symm, rfl⟩
        · exact .inl h1
      · exact .inr ⟨y, List.mem_cons_of_mem _ hy, e⟩
  intro l q v h
  rcases key l _ q v h with h1 | h1
  · cases h1
  · exact h1
/-- what is known of the line of an item is told -/
theorem last_some : ∀ (l : List It) (f : Line → Last) (x : It), x ∈ l → (l.foldl know f (lineOf x)).isSome = true := by
  have keep : ∀ (l : List It) (f : Line → Last) (q : Line), (f q).isSome = true → (l.foldl know f q).isSome = true := by
    intro l
    induction l with
    | nil => intro f q h; exact h
    | cons x r ih =>
      intro f q h
      refine ih _ _ ?_
      unfold know upd
      split
      · rfl
      · exact h
  intro l
  induction l with
  | nil => intro f x h; cases h
  | cons y r ih =>
    intro f x h
    rcases List.mem_cons.1 h with rfl | h
    · refine keep r _ _ ?_
      unfold know upd
      rw [if_pos rfl]
      rfl
    · exact ih _ x h
end Go.Proofs.YtmagojckhfkcdaaGreatDoor.Sk
/- Chapter 38, plain facts: lists of byte strings in order; the keys, and the open series, of what is known of lines. -/
namespace Go.Proofs.YtmagojckhfkcdaaGreatDoor.Sk
open Go.Lib
abbrev leS (x y : B) : Bool := decide (x ≤ y)
theorem sorted_unique : ∀ {l m : List B}, l.Pairwise (· < ·) → m.Pairwise (· < ·) → (∀ x, x ∈ l ↔ x ∈ m) → l = m
  | [], [], _, _, _ => rfl
  | [], y :: m, _, _, h => by have := (h y).2 (List.mem_cons_self ..); cases this
  | x :: l, [], _, _, h => by have := (h x).1 (List.mem_cons_self ..); cases this
  | x :: l, y :: m, hl, hm, h => by
    rw [List.pairwise_cons] at hl hm
    have hxy : x = y := by
      rcases List.mem_cons.1 ((h x).1 (List.mem_cons_self ..)) with e | e
      · exact e
      · rcases List.mem_cons.1 ((h y).2 (List.mem_cons_self ..)) with e' | e'
        · exact e'.symm
        · exact absurd (hl.1 y e') (List.lt_asymm (hm.1 x e))
    subst hxy
    rw [sorted_unique hl.2 hm.2 (fun z => ?_)]
    constructor
    · intro hz
      rcases List.mem_cons.1 ((h z).1 (List.mem_cons_of_mem _ hz)) with e | e
      · subst e; exact absurd (hl.1 z hz) (List.lt_irrefl z)
      · exact e
    · intro hz
      rcases List.mem_cons.1 ((h z).2 (List.mem_cons_of_mem _ hz)) with e | e
      · subst e; exact absurd (hm.1 z hz) (List.lt_irrefl z)
      · exact e
theorem sortS_pair (l : List B) : (l.mergeSort leS).Pairwise (fun x y => x ≤ y) := by
  have tr : ∀ a b c : B, leS a b = true → leS b c = true → leS a c = true := fun a b c h1 h2 => by simp only [leS, decide_eq_true_eq] at *; exact List.le_trans h1 h2
  have to : ∀ a b : B, (leS a b || leS b a) = true := fun a b => by simp only [leS, Bool.or_eq_true, decide_eq_true_eq]; exact List.le_total a b
  exact (List.pairwise_mergeSort tr to l).imp (fun h => by simpa [leS] using h)
theorem sortS_mem (l : List B) (x : B) : x ∈ l.mergeSort leS ↔ x ∈ l := (List.mergeSort_perm l leS).mem_iff
theorem sortS_len (l : List B) : (l.mergeSort leS).length = l.length := (List.mergeSort_perm l leS).length_eq
theorem lt_of_le_ne' {a b : B} (h : a ≤ b) (hne : a ≠ b) : a < b := by
  rcases Decidable.em (a < b) with h1 | h1
  · exact h1
  · exact absurd (List.le_antisymm h (List.not_lt.1 h1)) hne
theorem compact_step (zs : List B) (hs : zs.Pairwise (fun x y => x ≤ y)) : ∀ m, m ≤ zs.length →
    (compactUpTo zs.toArray m).Pairwise (· < ·) ∧ (∀ x, x ∈ compactUpTo zs.toArray m ↔ ∃ j, j < m ∧ zs[j]? = some x)
  | 0, _ => ⟨by simp [compactUpTo], fun x => by simp [compactUpTo]⟩
  | m + 1, hm => by
    obtain ⟨h1, h2⟩ := compact_step zs hs m (by omega)
    have hg : ∀ j (hj : j < zs.length), zs.toArray[j]! = zs[j] := fun j hj => by rw [getElem!_pos zs.toArray j (by simpa using hj)]; simp
    have hmz : m < zs.length := by omega
    rw [compactUpTo_succ]
    by_cases hk : keeps zs.toArray m = true
    · rw [if_pos hk, hg m hmz]
      refine ⟨?_, fun x => ?_⟩
      · rw [List.pairwise_append]
        refine ⟨h1, by simp, fun a ha b hb => ?_⟩
        obtain rfl := List.mem_singleton.1 hb
        obtain ⟨j, hj, hja⟩ := (h2 a).1 ha
        have hm0 : m ≠ 0 := by omega
        simp only [keeps, hm0, false_or, decide_eq_true_eq] at hk
        rw [hg m hmz, hg (m - 1) (by omega)] at hk
        have hle : zs[m - 1] ≤ zs[m] := List.pairwise_iff_getElem.1 hs (m - 1) m (by omega) hmz (by omega)
        have hlt := lt_of_le_ne' hle (fun e => hk e.symm)
        obtain ⟨hjl, rfl⟩ := List.getElem?_eq_some_iff.1 hja
        by_cases e : j = m - 1
        · subst e; exact hlt
        · have hle2 : zs[j] ≤ zs[m - 1] := List.pairwise_iff_getElem.1 hs j (m - 1) hjl (by omega) (by omega)
          exact List.lt_of_le_of_lt hle2 hlt
      · rw [List.mem_append, h2 x, List.mem_singleton]
        constructor
        · rintro (⟨j, hj, e⟩ | e)
          · exact ⟨j, by omega, e⟩
          · exact ⟨m, by omega, by rw [List.getElem?_eq_getElem hmz, e]⟩
        · rintro ⟨j, hj, e⟩
          by_cases hjm : j = m
          · subst hjm
            rw [List.getElem?_eq_getElem hmz] at e
            exact .inr (Option.some.inj e).symm
          · exact .inl ⟨j, by omega, e⟩
    · rw [if_neg hk, List.append_nil]
      refine ⟨h1, fun x => ?_⟩
      rw [h2 x]
      have hm0 : m ≠ 0 := by intro e; subst e; simp [keeps] at hk
      have he : zs[m] = zs[m - 1] := by
        simp only [keeps, hm0, false_or, decide_eq_true_eq, Decidable.not_not, ne_eq] at hk
        rwa [hg m hmz, hg (m - 1) (by omega)] at hk
      constructor
      · rintro ⟨j, hj, e⟩; exact ⟨j, by omega, e⟩
      · rintro ⟨j, hj, e⟩
        by_cases hjm : j = m
        · subst hjm
          exact ⟨j - 1, by omega, by rw [List.getElem?_eq_getElem (by omega), ← he, ← List.getElem?_eq_getElem hmz]; exact e⟩
        · exact ⟨j, by omega, e⟩
theorem compact_len (zs : List B) : (compact zs).length ≤ zs.length := by
  unfold compact compactUpTo
  rw [List.length_map]
  exact Nat.le_trans (List.length_filter_le _ _) (by simp)
theorem compactS_ok (l : List B) : (compact (l.mergeSort leS)).Pairwise (· < ·) ∧ ∀ x, x ∈ compact (l.mergeSort leS) ↔ x ∈ l := by
  obtain ⟨h1, h2⟩ := compact_step (l.mergeSort leS) (sortS_pair l) (l.mergeSort leS).length (Nat.le_refl _)
  refine ⟨h1, fun x => ?_⟩
  rw [← sortS_mem l x]
  refine (h2 x).trans ⟨?_, ?_⟩
  · rintro ⟨j, _, e⟩; exact List.mem_of_getElem? e
  · intro hx
    obtain ⟨j, hj⟩ := List.mem_iff_getElem?.1 hx
    exact ⟨j, (List.getElem?_eq_some_iff.1 hj).1, hj⟩
/-- a list without repetition, sorted, is strictly ascending -/
theorem sortS_strict {l : List B} (h : l.Nodup) : (l.mergeSort leS).Pairwise (· < ·) := by
  have h1 := sortS_pair l
  have h2 : (l.mergeSort leS).Nodup := (List.mergeSort_perm l leS).nodup_iff.2 h
  exact (h1.and h2).imp (fun ⟨a, b⟩ => lt_of_le_ne' a b)
def fitL (k : Line) : Prop := k.1.length ≤ 9223372036854775807 ∧ k.2.length ≤ 9223372036854775807
/-- the keys of the lines that f knows, in order, each once -/
structure KeysAre (f : Line → Last) (ks : List B) : Prop where
  so : ks.Pairwise (· < ·)
  mem : ∀ k, k ∈ ks ↔ ∃ b, fitL (k, b) ∧ (f (k, b)).isSome = true
theorem KeysAre.unique {f : Line → Last} {l m : List B} (h : KeysAre f l) (k : KeysAre f m) : l = m :=
  sorted_unique h.so k.so (fun x => (h.mem x).trans (k.mem x).symm)
/-- the series of a key whose last item is a sample, in order, each once -/
structure OpenAre (f : Line → Last) (key : B) (ss : List B) : Prop where
  so : ss.Pairwise (· < ·)
  mem : ∀ b, b ∈ ss ↔ fitL (key, b) ∧ ∃ s, f (key, b) = some (s, false)
theorem OpenAre.unique {f g : Line → Last} {key : B} {l m : List B} (h : OpenAre f key l) (k : OpenAre g key m) (e : ∀ b, f (key, b) = g (key, b)) : l = m :=
  sorted_unique h.so k.so (fun x => (h.mem x).trans (by rw [k.mem x, e x]))
end Go.Proofs.YtmagojckhfkcdaaGreatDoor.Sk
/- Plain law of the references: forms of code points, names, labels in order. -/
namespace Go.Proofs.YtmagojckhfkcdaaGreatDoor.Sk
/-- the bytes of the form of a number, as numbers -/
def formN (x : Int) : List Int :=
  if x < 128 then [x] else if x < 2048 then [192 + x / 64, 128 + x % 64] else if x < 65536 then [224 + x / 4096, 128 + x / 64 % 64, 128 + x % 64] else [240 + x / 262144, 128 + x / 4096 % 64, 128 + x / 64 % 64, 128 + x % 64]
def pointB (x : Int) : Bool := decide (0 ≤ x ∧ x < 55296 ∨ 57343 < x ∧ x < 1114112)
/-- the number that bytes would be the form of -/
def numB : B → Int
  | [a] => a.toNat
  | [a, b] => 64 * ((a.toNat : Int) - 192) + b.toNat - 128
  | [a, b, c] => 4096 * ((a.toNat : Int) - 224) + 64 * ((b.toNat : Int) - 128) + c.toNat - 128
  | [a, b, c, e] => 262144 * ((a.toNat : Int) - 240) + 4096 * ((b.toNat : Int) - 128) + 64 * ((c.toNat : Int) - 128) + e.toNat - 128
  | _ => -1
def natsB (s : B) : List Int := s.map fun c => (c.toNat : Int)
def isForm (s : B) : Bool := pointB (numB s) && decide (formN (numB s) = natsB s)
def valR (s : B) : Int := if isForm s then numB s else -1
def formB (x : Int) : B := (formN x).map fun i => UInt8.ofNat i.toNat
theorem natsB_inj : ∀ {a b : B}, natsB a = natsB b → a = b
  | [], [], _ => rfl
  | [], _ :: _, h => by simp [natsB] at h
  | _ :: _, [], h => by simp [natsB] at h
  | x :: a, y :: b, h => by
    simp only [natsB, List.map_cons, List.cons.injEq] at h
    have h1 : x = y := UInt8.toNat_inj.1 (by omega)
    rw [h1, natsB_inj (a := a) (b := b) h.2]
theorem formN_byte {x : Int} (h0 : 0 ≤ x) (h1 : x < 1114112) : ∀ i ∈ formN x, 0 ≤ i ∧ i < 256 := by
  unfold formN
  intro i hi
  repeat' split at hi
  all_goals
    simp only [List.mem_cons, List.not_mem_nil, or_false] at hi
    omega
theorem nats_map : ∀ {l : List Int}, (∀ i ∈ l, 0 ≤ i ∧ i < 256) → natsB (l.map fun i => UInt8.ofNat i.toNat) = l
  | [], _ => rfl
  | i :: l, h => by
    have hi := h i (List.mem_cons_self ..)
    have ih := nats_map (l := l) (fun j hj => h j (List.mem_cons_of_mem _ hj))
    unfold natsB at ih ⊢
    rw [List.map_cons, List.map_cons, ih, UInt8.toNat_ofNat']
    congr 1
    omega
theorem natsB_formB {x : Int} (h0 : 0 ≤ x) (h1 : x < 1114112) : natsB (formB x) = formN x := nats_map (formN_byte h0 h1)
theorem pointB_range {x : Int} (h : pointB x = true) : 0 ≤ x ∧ x < 1114112 := by
  unfold pointB at h
  simp only [decide_eq_true_eq] at h
  omega
theorem isForm_point {s : B} (h : pointB (numB s) = true) : isForm s = decide (formB (numB s) = s) := by
  obtain ⟨h0, h1⟩ := pointB_range h
  unfold isForm
  rw [h, Bool.true_and, ← natsB_formB h0 h1, decide_eq_decide]
  exact ⟨natsB_inj, fun e => by rw [e]⟩
theorem valR_nonneg (s : B) : (0 ≤ valR s) ↔ isForm s = true := by
  unfold valR
  cases h : isForm s with
  | true =>
    unfold isForm at h
    rw [Bool.and_eq_true] at h
    have := pointB_range h.1
    simp; omega
  | false => simp
theorem rd_eq {f : UInt8} {r : B} {n : Nat} (h0 : n ≠ 0) : rd (f :: r) = some n ↔ hd f.toNat = n ∧ okGo f.toNat 0 (n - 1) r = true := by
  simp only [rd]
  by_cases h : hd f.toNat ≠ 0 ∧ okGo f.toNat 0 (hd f.toNat - 1) r = true
  · rw [if_pos h]
    constructor
    · intro e
      have e := Option.some.inj e
      rw [e] at h
      exact ⟨e, h.2⟩
    · rintro ⟨e, _⟩
      rw [e]
  · rw [if_neg h]
    constructor
    · intro e; cases e
    · rintro ⟨e, h2⟩
      exact absurd ⟨by omega, by rw [e]; exact h2⟩ h
theorem isForm_1 (a : UInt8) : isForm [a] = true ↔ rd [a] = some 1 := by
  have ha := a.toNat_lt
  obtain ⟨x, hx⟩ : ∃ x : Int, x = a.toNat := ⟨_, rfl⟩
  have e1 : isForm [a] = true ↔ (0 ≤ x ∧ x < 55296 ∨ 57343 < x ∧ x < 1114112) ∧ formN x = [(a.toNat : Int)] := by
    have hnum : numB [a] = x := hx.symm
    unfold isForm pointB natsB
    rw [hnum]
    simp
  have e2 : rd [a] = some 1 ↔ a.toNat < 128 := by
    rw [rd_eq (by decide)]
    by_cases h : a.toNat < 128
    · have h2 : hd a.toNat = 1 := by unfold hd; rw [if_pos h]
      simp [h2, h, okGo]
    · have h2 : hd a.toNat ≠ 1 := by unfold hd; repeat (first | omega | split)
      simp [h2, h]
  rw [e1, e2]
  unfold formN
  constructor
  · rintro ⟨h1, h2⟩
    repeat' split at h2
    all_goals simp only [List.cons.injEq, reduceCtorEq, and_false, and_true] at h2
    omega
  · intro h
    refine ⟨by omega, ?_⟩
    rw [if_pos (by omega), hx]
theorem isForm_2 (a b : UInt8) : isForm [a, b] = true ↔ rd [a, b] = some 2 := by
  have ha := a.toNat_lt
  have hb := b.toNat_lt
  obtain ⟨x, hx⟩ : ∃ x, x = 64 * ((a.toNat : Int) - 192) + b.toNat - 128 := ⟨_, rfl⟩
  have e1 : isForm [a, b] = true ↔ (0 ≤ x ∧ x < 55296 ∨ 57343 < x ∧ x < 1114112) ∧ formN x = [(a.toNat : Int), (b.toNat : Int)] := by
    have hnum : numB [a, b] = x := hx.symm
    unfold isForm pointB natsB
    rw [hnum]
    simp
  have e2 : rd [a, b] = some 2 ↔ (194 ≤ a.toNat ∧ a.toNat < 224) ∧ 128 ≤ b.toNat ∧ b.toNat < 192 := by
    rw [rd_eq (by decide)]
    by_cases h : 194 ≤ a.toNat ∧ a.toNat < 224
    · have h2 : hd a.toNat = 2 := by unfold hd; rw [if_neg (by omega), if_pos h]
      have : okGo a.toNat 0 (2 - 1) [b] = true ↔ 128 ≤ b.toNat ∧ b.toNat < 192 := by
        simp only [okGo, okB, sec, cont, Bool.and_true, if_pos, Bool.and_eq_true, decide_eq_true_eq]
        rw [if_neg (by omega), if_neg (by omega), if_neg (by omega), if_neg (by omega)]
        simp
      rw [this]
      exact ⟨fun ⟨_, q⟩ => ⟨h, q⟩, fun ⟨_, q⟩ => ⟨h2, q⟩⟩
    · have h2 : hd a.toNat ≠ 2 := by unfold hd; repeat (first | omega | split)
      exact ⟨fun ⟨q, _⟩ => absurd q h2, fun ⟨q, _⟩ => absurd q h⟩
  rw [e1, e2]
  unfold formN
  constructor
  · rintro ⟨h1, h2⟩
    repeat' split at h2
    all_goals simp only [List.cons.injEq, reduceCtorEq, and_false, and_true] at h2
    omega
  · rintro ⟨h1, h2⟩
    refine ⟨by omega, ?_⟩
    rw [if_neg (by omega), if_pos (by omega)]
    simp only [List.cons.injEq, and_true]
    omega
theorem isForm_3 (a b c : UInt8) : isForm [a, b, c] = true ↔ rd [a, b, c] = some 3 := by
  have ha := a.toNat_lt
  have hb := b.toNat_lt
  have hc := c.toNat_lt
  obtain ⟨x, hx⟩ : ∃ x, x = 4096 * ((a.toNat : Int) - 224) + 64 * ((b.toNat : Int) - 128) + c.toNat - 128 := ⟨_, rfl⟩
  have e1 : isForm [a, b, c] = true ↔ (0 ≤ x ∧ x < 55296 ∨ 57343 < x ∧ x < 1114112) ∧ formN x = [(a.toNat : Int), (b.toNat : Int), (c.toNat : Int)] := by
    have hnum : numB [a, b, c] = x := hx.symm
    unfold isForm pointB natsB
    rw [hnum]
    simp
  have e2 : rd [a, b, c] = some 3 ↔ (224 ≤ a.toNat ∧ a.toNat < 240) ∧ (128 ≤ b.toNat ∧ b.toNat < 192) ∧ (a.toNat = 224 → 160 ≤ b.toNat) ∧ (a.toNat = 237 → b.toNat < 160) ∧ 128 ≤ c.toNat ∧ c.toNat < 192 := by
    rw [rd_eq (by decide)]
    by_cases h : 224 ≤ a.toNat ∧ a.toNat < 240
    · have h2 : hd a.toNat = 3 := by unfold hd; rw [if_neg (by omega), if_neg (by omega), if_pos h]
      have : okGo a.toNat 0 (3 - 1) [b, c] = true ↔ (128 ≤ b.toNat ∧ b.toNat < 192) ∧ (a.toNat = 224 → 160 ≤ b.toNat) ∧ (a.toNat = 237 → b.toNat < 160) ∧ 128 ≤ c.toNat ∧ c.toNat < 192 := by
        simp only [okGo, okB, sec, cont, Bool.and_true, if_pos, Bool.and_eq_true, decide_eq_true_eq]
        rw [if_neg (show ¬ (0 + 1 = 0) by omega)]
        simp only [decide_eq_true_eq]
        by_cases h3 : a.toNat = 224
        · rw [if_pos h3]; simp only [decide_eq_true_eq]; omega
        · rw [if_neg h3]
          by_cases h4 : a.toNat = 237
          · rw [if_pos h4]; simp only [decide_eq_true_eq]; omega
          · rw [if_neg h4, if_neg (by omega), if_neg (by omega)]
            simp; omega
      rw [this]
      exact ⟨fun ⟨_, q⟩ => ⟨h, q⟩, fun ⟨_, q⟩ => ⟨h2, q⟩⟩
    · have h2 : hd a.toNat ≠ 3 := by unfold hd; repeat (first | omega | split)
      exact ⟨fun ⟨q, _⟩ => absurd q h2, fun ⟨q, _⟩ => absurd q h⟩
  rw [e1, e2]
  unfold formN
  constructor
  · rintro ⟨h1, h2⟩
    repeat' split at h2
    all_goals simp only [List.cons.injEq, reduceCtorEq, and_false, and_true] at h2
    omega
  · rintro ⟨h1, h2, h3, h4, h5⟩
    refine ⟨by omega, ?_⟩
    rw [if_neg (by omega), if_neg (by omega), if_pos (by omega)]
    simp only [List.cons.injEq, and_true]
    omega
theorem isForm_4 (a b c e : UInt8) : isForm [a, b, c, e] = true ↔ rd [a, b, c, e] = some 4 := by
  have ha := a.toNat_lt
  have hb := b.toNat_lt
  have hc := c.toNat_lt
  have he := e.toNat_lt
  obtain ⟨x, hx⟩ : ∃ x, x = 262144 * ((a.toNat : Int) - 240) + 4096 * ((b.toNat : Int) - 128) + 64 * ((c.toNat : Int) - 128) + e.toNat - 128 := ⟨_, rfl⟩
  have e1 : isForm [a, b, c, e] = true ↔ (0 ≤ x ∧ x < 55296 ∨ 57343 < x ∧ x < 1114112) ∧ formN x = [(a.toNat : Int), (b.toNat : Int), (c.toNat : Int), (e.toNat : Int)] := by
    have hnum : numB [a, b, c, e] = x := hx.symm
    unfold isForm pointB natsB
    rw [hnum]
    simp
  have e2 : rd [a, b, c, e] = some 4 ↔ (240 ≤ a.toNat ∧ a.toNat < 245) ∧ (128 ≤ b.toNat ∧ b.toNat < 192) ∧ (a.toNat = 240 → 144 ≤ b.toNat) ∧ (a.toNat = 244 → b.toNat < 144) ∧ (128 ≤ c.toNat ∧ c.toNat < 192) ∧ 128 ≤ e.toNat ∧ e.toNat < 192 := by
    rw [rd_eq (by decide)]
    by_cases h : 240 ≤ a.toNat ∧ a.toNat < 245
    · have h2 : hd a.toNat = 4 := by unfold hd; rw [if_neg (by omega), if_neg (by omega), if_neg (by omega), if_pos h]
      have : okGo a.toNat 0 (4 - 1) [b, c, e] = true ↔ (128 ≤ b.toNat ∧ b.toNat < 192) ∧ (a.toNat = 240 → 144 ≤ b.toNat) ∧ (a.toNat = 244 → b.toNat < 144) ∧ (128 ≤ c.toNat ∧ c.toNat < 192) ∧ 128 ≤ e.toNat ∧ e.toNat < 192 := by
        simp only [okGo, okB, sec, cont, Bool.and_true, if_pos, Bool.and_eq_true, decide_eq_true_eq]
        rw [if_neg (show ¬ (0 + 1 = 0) by omega), if_neg (show ¬ (0 + 1 + 1 = 0) by omega)]
        simp only [decide_eq_true_eq]
        rw [if_neg (show ¬ a.toNat = 224 by omega), if_neg (show ¬ a.toNat = 237 by omega)]
        by_cases h3 : a.toNat = 240
        · rw [if_pos h3]; simp only [decide_eq_true_eq]; omega
        · rw [if_neg h3]
          by_cases h4 : a.toNat = 244
          · rw [if_pos h4]; simp only [decide_eq_true_eq]; omega
          · rw [if_neg h4]
            simp; omega
      rw [this]
      exact ⟨fun ⟨_, q⟩ => ⟨h, q⟩, fun ⟨_, q⟩ => ⟨h2, q⟩⟩
    · have h2 : hd a.toNat ≠ 4 := by unfold hd; repeat (first | omega | split)
      exact ⟨fun ⟨q, _⟩ => absurd q h2, fun ⟨q, _⟩ => absurd q h⟩
  rw [e1, e2]
  unfold formN
  constructor
  · rintro ⟨h1, h2⟩
    repeat' split at h2
    all_goals simp only [List.cons.injEq, reduceCtorEq, and_false, and_true] at h2
    omega
  · rintro ⟨h1, h2, h3, h4, h5, h6⟩
    refine ⟨by omega, ?_⟩
    rw [if_neg (by omega), if_neg (by omega), if_neg (by omega)]
    simp only [List.cons.injEq, and_true]
    omega
theorem isForm_rd : ∀ {s : B}, 1 ≤ s.length → s.length ≤ 4 → (isForm s = true ↔ rd s = some s.length)
  | [], h, _ => by simp at h
  | [a], _, _ => isForm_1 a
  | [a, b], _, _ => isForm_2 a b
  | [a, b, c], _, _ => isForm_3 a b c
  | [a, b, c, e], _, _ => isForm_4 a b c e
  | _ :: _ :: _ :: _ :: _ :: _, _, h => by simp at h
theorem okGo_of_take {f : Nat} : ∀ {k j m : Nat} {r : B}, k ≤ m → (okGo f j k (r.take m) = okGo f j k r)
  | 0, _, _, _, _ => by simp [okGo]
  | k + 1, j, 0, r, h => by omega
  | k + 1, j, m + 1, [], _ => by simp
  | k + 1, j, m + 1, a :: r, h => by
    rw [List.take_succ_cons, okGo, okGo, okGo_of_take (by omega)]
theorem rd_take {s : B} {n : Nat} (h1 : 1 ≤ n) : rd (s.take n) = some n ↔ rd s = some n := by
  cases s with
  | nil => simp [rd]
  | cons f r =>
    obtain ⟨m, rfl⟩ : ∃ m, n = m + 1 := ⟨n - 1, by omega⟩
    rw [List.take_succ_cons, rd_eq (by omega), rd_eq (by omega), okGo_of_take (by omega)]
/-- no form of any length begins here -/
theorem rd_none {s : B} (h : ∀ m, 1 ≤ m → m ≤ 4 → m ≤ s.length → isForm (s.take m) = false) : rd s = none := by
  cases hr : rd s with
  | none => rfl
  | some n =>
    obtain ⟨h1, h2, h3⟩ := rd_pos hr
    have ht := (rd_take h1).2 hr
    have hl : (s.take n).length = n := by rw [List.length_take]; omega
    have := (isForm_rd (s := s.take n) (by omega) (by omega)).2 (by rw [hl]; exact ht)
    rw [h n h1 h2 h3] at this
    cases this
theorem rd_form {s : B} {n : Nat} (h1 : 1 ≤ n) (h2 : n ≤ 4) (h3 : n ≤ s.length) (h : isForm (s.take n) = true) : rd s = some n := by
  have hl : (s.take n).length = n := by rw [List.length_take]; omega
  refine (rd_take h1).1 ?_
  have := (isForm_rd (s := s.take n) (by omega) (by omega)).1 h
  rw [hl] at this
  exact this
end Go.Proofs.YtmagojckhfkcdaaGreatDoor.Sk
/- Plain law of the references: bytes read piece by piece; the last item of a line; the breach that is told. -/
namespace Go.Proofs.YtmagojckhfkcdaaGreatDoor.Sk
/-! pieces, one by one -/
theorem cutAt_miss {c : UInt8} : ∀ {p : B}, c ∉ p → cutAt c p = [p]
  | [], _ => rfl
  | x :: p, h => by
    have hx : x ≠ c := fun e => h (by subst e; exact List.mem_cons_self ..)
    have ih := cutAt_miss (c := c) (p := p) (fun hm => h (List.mem_cons_of_mem _ hm))
    rw [cutAt, if_neg hx, ih]
    rfl
theorem ahead_none {c : UInt8} : ∀ {p : B}, c ∉ p → ahead c p = none
  | [], _ => rfl
  | x :: p, h => by
    have hx : x ≠ c := fun e => h (by subst e; exact List.mem_cons_self ..)
    rw [ahead, if_neg hx, ahead_none (fun hm => h (List.mem_cons_of_mem _ hm))]
    rfl
/-- behind k bytes: the whole pieces P, and where the piece begins that is not yet whole -/
structure CutTo (c : UInt8) (s : B) (P : List B) (f k : Nat) : Prop where
  cut : cutAt c s = P ++ cutAt c (s.drop f)
  no : c ∉ (s.drop f).take (k - f)
  le : f ≤ k
  len : k ≤ s.length
theorem CutTo.start (c : UInt8) (s : B) : CutTo c s [] 0 0 := ⟨rfl, by simp, Nat.le_refl _, Nat.zero_le _⟩
theorem take_more {s : B} {f k : Nat} {x : UInt8} (h : f ≤ k) (hx : s[k]? = some x) : (s.drop f).take (k + 1 - f) = (s.drop f).take (k - f) ++ [x] := by
  rw [show k + 1 - f = k - f + 1 by omega, List.take_add_one, List.getElem?_drop, show f + (k - f) = k by omega, hx]
  rfl
theorem CutTo.skip {c x : UInt8} {s : B} {P : List B} {f k : Nat} (h : CutTo c s P f k) (hx : s[k]? = some x) (hne : x ≠ c) : CutTo c s P f (k + 1) := by
  refine ⟨h.cut, ?_, by have := h.le; omega, (List.getElem?_eq_some_iff.1 hx).1⟩
  rw [take_more h.le hx]
  intro hm
  rcases List.mem_append.1 hm with hm | hm
  · exact h.no hm
  · exact hne (List.mem_singleton.1 hm).symm
theorem CutTo.piece {c : UInt8} {s : B} {P : List B} {f k : Nat} (h : CutTo c s P f k) (hx : s[k]? = some c) : CutTo c s (P ++ [(s.drop f).take (k - f)]) (k + 1) (k + 1) := by
  have hk := (List.getElem?_eq_some_iff.1 hx).1
  refine ⟨?_, by simp, Nat.le_refl _, hk⟩
  have e : s.drop f = (s.drop f).take (k - f) ++ [c] ++ s.drop (k + 1) := by
    rw [← take_more h.le hx]
    have := List.take_append_drop (k + 1 - f) (s.drop f)
    rw [List.drop_drop, show f + (k + 1 - f) = k + 1 by have := h.le; omega] at this
    exact this.symm
  rw [h.cut, e, cutAt_app h.no, List.append_assoc]
  congr 2
  rw [← e]
theorem CutTo.done {c : UInt8} {s : B} {P : List B} {f : Nat} (h : CutTo c s P f s.length) : cutAt c s = P ++ [s.drop f] := by
  have := h.no
  rw [List.take_of_length_le (by simp)] at this
  rw [h.cut, cutAt_miss this]
theorem two_even : ∀ {P : List B} (Q : List B), P.length % 2 = 0 → two (P ++ Q) = two P ++ two Q
  | [], Q, _ => by simp [two]
  | [_], _, h => by simp at h
  | a :: b :: r, Q, h => by
    simp only [List.cons_append, two]
    rw [two_even (P := r) Q (by simp only [List.length_cons] at h; omega)]
theorem two_snoc {P : List B} (h : P.length % 2 = 0) (a b : B) : two (P ++ [a] ++ [b]) = two P ++ [(⟨a.toArray⟩, ⟨b.toArray⟩)] := by
  rw [List.append_assoc, two_even _ h]
  rfl
theorem two_one {P : List B} (h : P.length % 2 = 0) (a : B) : two (P ++ [a]) = two P := by
  rw [two_even _ h]
  simp [two]
theorem two_len : ∀ P : List B, (two P).length = P.length / 2
  | [] => by simp [two]
  | [_] => by simp [two]
  | a :: b :: r => by
    have := two_len r
    simp only [two, List.length_cons, this]
    omega
/-- what is read of bytes whose last piece is t -/
theorem readS_odd {s : B} {P : List B} {t : B} (h : cutAt 255 s = P ++ [t]) (hp : P.length % 2 = 1) : readS s = none := by
  unfold readS
  rw [h, if_pos (.inl (by rw [List.length_append, List.length_singleton]; omega))]
theorem readS_rest {s : B} {P : List B} {t : B} (h : cutAt 255 s = P ++ [t]) (ht : t ≠ []) : readS s = none := by
  unfold readS
  rw [h, if_pos (.inr (.inl (by rw [List.getLast?_concat]; simpa using ht)))]
theorem readS_lab {s : B} {P : List B} (h : cutAt 255 s = P ++ [[]]) (hp : P.length % 2 = 0) : readS s = if labRight (two P) then some (two P) else none := by
  have e : two (P ++ [[]]) = two P := two_one hp _
  by_cases hl : 129 < (P ++ [([] : B)]).length
  · have hno : labRight (two P) = false := by
      unfold labRight
      rw [decide_eq_false (by rw [two_len]; rw [List.length_append, List.length_singleton] at hl; omega)]
      rfl
    unfold readS
    rw [h, if_pos (.inr (.inr hl)), hno]
    rfl
  · unfold readS
    rw [h, if_neg, e]
    rw [List.getLast?_concat, List.length_append, List.length_singleton]
    rw [List.length_append, List.length_singleton] at hl
    simp only [ne_eq, not_true_eq_false, false_or, not_or]
    omega
/-- ahead of k bytes no c lies -/
theorem ahead_at {c : UInt8} {s : B} {k : Nat} (hx : s[k]? = some c) (h : c ∉ s.take k) : ahead c s = some (s.take k, s.drop (k + 1)) := by
  have hk := (List.getElem?_eq_some_iff.1 hx).1
  have e : s = s.take k ++ [c] ++ s.drop (k + 1) := by
    have h1 : s.take (k + 1) = s.take k ++ [c] := by rw [List.take_add_one, hx]; rfl
    rw [← h1, List.take_append_drop]
  have := ahead_app (c := c) (p := s.take k) h (s.drop (k + 1))
  rw [← e] at this
  exact this
theorem take_no {c x : UInt8} {s : B} {k : Nat} (hx : s[k]? = some x) (hne : x ≠ c) (h : c ∉ s.take k) : c ∉ s.take (k + 1) := by
  rw [List.take_add_one, hx]
  intro hm
  rcases List.mem_append.1 hm with hm | hm
  · exact h hm
  · exact hne (by simpa using hm : c = x).symm
theorem readKey_at {s : B} {k : Nat} (hx : s[k]? = some 254) (h : (254 : UInt8) ∉ s.take k) : (readKey s).isSome = ((readS (s.drop (k + 1))).isSome && jobB (s.take k)) := by
  unfold readKey
  rw [ahead_at hx h]
  simp only
  cases hj : jobB (s.take k) with
  | true => simp
  | false => simp
theorem readKey_no {s : B} (h : (254 : UInt8) ∉ s) : readKey s = none := by
  unfold readKey
  rw [ahead_none h]
/-! the last item of a line -/
theorem last_snoc (l : List It) (y : It) : lastOf (l ++ [y]) = know (lastOf l) y := by
  unfold lastOf
  rw [List.foldl_append]
  rfl
/-- what is known of a line, seen from the end of items -/
theorem last_back {l : List It} {q : Line} {k : Nat} (h : k ≤ l.length) (hno : ∀ (j : Nat) y, k ≤ j → l[j]? = some y → lineOf y ≠ q) : lastOf l q = lastOf (l.take k) q := by
  obtain ⟨n, hn⟩ : ∃ n, n = l.length - k := ⟨_, rfl⟩
  induction n generalizing k with
  | zero => rw [List.take_of_length_le (by omega)]
  | succ n ih =>
    obtain ⟨y, hy⟩ : ∃ y, l[k]? = some y := ⟨_, List.getElem?_eq_getElem (by omega)⟩
    rw [ih (k := k + 1) (by omega) (fun j z hj hz => hno j z (by omega) hz) (by omega), List.take_add_one, hy]
    simp only [Option.toList_some]
    rw [last_snoc]
    unfold know upd
    rw [if_neg (fun e => hno k y (Nat.le_refl _) hy e.symm)]
theorem last_hit {l : List It} {q : Line} {k : Nat} {y : It} (hy : l[k]? = some y) (hq : lineOf y = q) (hno : ∀ (j : Nat) z, k + 1 ≤ j → l[j]? = some z → lineOf z ≠ q) : lastOf l q = some (y.e.stamp, y.e.mark) := by
  have hk := (List.getElem?_eq_some_iff.1 hy).1
  rw [last_back (k := k + 1) hk hno, List.take_add_one, hy]
  simp only [Option.toList_some]
  rw [last_snoc]
  unfold know upd
  rw [if_pos hq.symm]
theorem last_miss {l : List It} {q : Line} (hno : ∀ (j : Nat) z, l[j]? = some z → lineOf z ≠ q) : lastOf l q = none := by
  rw [last_back (k := 0) (Nat.zero_le _) (fun j z _ hz => hno j z hz)]
  rfl
theorem fol_hit {l : List It} {x y : It} {k : Nat} (hy : l[k]? = some y) (hq : lineOf y = lineOf x) (hno : ∀ (j : Nat) z, k + 1 ≤ j → l[j]? = some z → lineOf z ≠ lineOf x) :
    fol (lastOf l) x = if x.e.stamp ≤ y.e.stamp then 381 else if x.e.mark && y.e.mark then 382 else 0 := by
  unfold fol
  rw [last_hit hy hq hno]
theorem fol_miss {l : List It} {x : It} (hno : ∀ (j : Nat) z, l[j]? = some z → lineOf z ≠ lineOf x) : fol (lastOf l) x = if x.e.mark then 382 else 0 := by
  unfold fol
  rw [last_miss hno]
/-- check, item by item -/
theorem chk_prefix : ∀ (l m : List It) (f : Line → Last) (i : Int), l.all (fun x => itemRight (d x.key) x.e) = true → appGo f l = 0 → chkGo f i (l ++ m) = chkGo (l.foldl know f) (i + l.length) m
  | [], _, _, _, _, _ => by simp
  | x :: r, m, f, i, h, hg => by
    rw [List.all_cons, Bool.and_eq_true] at h
    unfold appGo at hg
    split at hg
    · rename_i h0
      have e : chkGo f i (x :: (r ++ m)) = (if itemRight (d x.key) x.e then (if fol f x = 0 then chkGo (know f x) (i + 1) (r ++ m) else (i, fol f x)) else (i, 380)) := by rw [chkGo]
      rw [List.cons_append, e, if_pos h.1, if_pos h0, chk_prefix r m _ _ h.2 hg, List.foldl_cons, List.length_cons, show i + 1 + (r.length : Int) = i + ((r.length + 1 : Nat) : Int) by omega]
    · rename_i h0
      exact absurd hg h0
/-- behind k items, all of which are right and follow -/
structure ChkTo (l : List It) (k : Nat) : Prop where
  le : k ≤ l.length
  rest : check l = chkGo (lastOf (l.take k)) (k : Int) (l.drop k)
  right : ∀ x ∈ l.take k, itemRight (d x.key) x.e = true
theorem ChkTo.start (l : List It) : ChkTo l 0 := ⟨Nat.zero_le _, rfl, by simp⟩
theorem ChkTo.step {l : List It} {k : Nat} {x : It} (h : ChkTo l k) (hx : l[k]? = some x) (hr : itemRight (d x.key) x.e = true) (hf : fol (lastOf (l.take k)) x = 0) : ChkTo l (k + 1) := by
  have hk := (List.getElem?_eq_some_iff.1 hx).1
  have hd : l.drop k = x :: l.drop (k + 1) := by rw [List.drop_eq_getElem_cons hk, (List.getElem?_eq_some_iff.1 hx).2]
  have ht : l.take (k + 1) = l.take k ++ [x] := by rw [List.take_add_one, hx]; rfl
  refine ⟨hk, ?_, fun y hy => ?_⟩
  · rw [h.rest, hd, chkGo, if_pos hr, if_pos hf, ht, last_snoc]
    congr 1
  · rw [ht] at hy
    rcases List.mem_append.1 hy with hy | hy
    · exact h.right y hy
    · rw [List.mem_singleton.1 hy]; exact hr
theorem ChkTo.bad {l : List It} {k : Nat} {x : It} (h : ChkTo l k) (hx : l[k]? = some x) (hr : itemRight (d x.key) x.e = false) : check l = ((k : Int), 380) := by
  have hk := (List.getElem?_eq_some_iff.1 hx).1
  have hd : l.drop k = x :: l.drop (k + 1) := by rw [List.drop_eq_getElem_cons hk, (List.getElem?_eq_some_iff.1 hx).2]
  rw [h.rest, hd, chkGo, hr]
  simp
theorem ChkTo.breach {l : List It} {k : Nat} {x : It} (h : ChkTo l k) (hx : l[k]? = some x) (hr : itemRight (d x.key) x.e = true) (hf : fol (lastOf (l.take k)) x ≠ 0) : check l = ((k : Int), fol (lastOf (l.take k)) x) := by
  have hk := (List.getElem?_eq_some_iff.1 hx).1
  have hd : l.drop k = x :: l.drop (k + 1) := by rw [List.drop_eq_getElem_cons hk, (List.getElem?_eq_some_iff.1 hx).2]
  rw [h.rest, hd, chkGo, if_pos hr, if_neg hf]
theorem ChkTo.done {l : List It} (h : ChkTo l l.length) : check l = (-1, 0) := by
  rw [h.rest, List.drop_length]
  rfl
/-- items that are right lie in one line just if keys and labels are the same -/
theorem line_iff {x y : It} (hx : itemRight (d x.key) x.e = true) (hy : itemRight (d y.key) y.e = true) : lineOf x = lineOf y ↔ x.key = y.key ∧ x.e.lab = y.e.lab := by
  have lx : labRight x.e.lab = true := by unfold itemRight at hx; simp only [Bool.and_eq_true] at hx; exact hx.1.1.1.2
  have ly : labRight y.e.lab = true := by unfold itemRight at hy; simp only [Bool.and_eq_true] at hy; exact hy.1.1.1.2
  unfold lineOf
  constructor
  · intro h
    injection h with h1 h2
    exact ⟨ByteArray.ext (Array.toList_inj.1 h1), bytesS_inj lx ly h2⟩
  · rintro ⟨h1, h2⟩
    rw [h1, h2]
/-! strings in order -/
theorem lt_step {a b : B} {k : Nat} (h : a.take k = b.take k) {x y : UInt8} (hx : a[k]? = some x) (hy : b[k]? = some y) (hne : x ≠ y) : decide (a < b) = decide (x < y) := by
  induction k generalizing a b with
  | zero =>
    cases a with
    | nil => simp at hx
    | cons p a =>
      cases b with
      | nil => simp at hy
      | cons q b =>
        simp at hx hy
        subst hx; subst hy
        rw [decide_eq_decide, List.cons_lt_cons_iff]
        constructor
        · rintro (h | ⟨h, _⟩)
          · exact h
          · exact absurd h hne
        · exact .inl
  | succ k ih =>
    cases a with
    | nil => simp at hx
    | cons p a =>
      cases b with
      | nil => simp at hy
      | cons q b =>
        simp only [List.take_succ_cons, List.cons.injEq] at h
        simp only [List.getElem?_cons_succ] at hx hy
        rw [← ih h.2 hx hy, decide_eq_decide, List.cons_lt_cons_iff]
        constructor
        · rintro (h' | ⟨_, h'⟩)
          · rw [h.1] at h'; exact absurd h' (UInt8.lt_irrefl _)
          · exact h'
        · intro h'; exact .inr ⟨h.1, h'⟩
theorem lt_end {a b : B} {k : Nat} (h : a.take k = b.take k) (hk : k = a.length ∨ k = b.length) (ha : k ≤ a.length) (hb : k ≤ b.length) : decide (a < b) = decide (a.length < b.length) := by
  induction k generalizing a b with
  | zero =>
    cases a with
    | nil =>
      cases b with
      | nil => simp
      | cons q b => simp
    | cons p a =>
      cases b with
      | nil => simp
      | cons q b => simp at hk
  | succ k ih =>
    cases a with
    | nil => simp at ha
    | cons p a =>
      cases b with
      | nil => simp at hb
      | cons q b =>
        simp only [List.take_succ_cons, List.cons.injEq] at h
        simp only [List.length_cons] at hk ha hb ⊢
        have := ih (a := a) (b := b) h.2 (by omega) (by omega) (by omega)
        rw [decide_eq_decide] at this ⊢
        rw [List.cons_lt_cons_iff]
        constructor
        · rintro (h' | ⟨_, h'⟩)
          · rw [h.1] at h'; exact absurd h' (UInt8.lt_irrefl _)
          · have := this.1 h'; omega
        · intro h'; exact .inr ⟨h.1, this.2 (by omega)⟩
end Go.Proofs.YtmagojckhfkcdaaGreatDoor.Sk
