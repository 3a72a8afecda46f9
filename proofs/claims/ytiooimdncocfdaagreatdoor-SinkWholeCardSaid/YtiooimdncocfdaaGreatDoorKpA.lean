/- Plain facts for chapter 38: strings that are valid, names, labels, keys, items. -/
namespace Go.Proofs.YtiooimdncocfdaaGreatDoor.Sk
abbrev B := List UInt8
/-- how many bytes a form has that begins with a byte; 0 if there is none -/
def hd (c : Nat) : Nat := if c < 128 then 1 else if 194 ≤ c ∧ c < 224 then 2 else if 224 ≤ c ∧ c < 240 then 3 else if 240 ≤ c ∧ c < 245 then 4 else 0
def cont (c : Nat) : Bool := decide (128 ≤ c ∧ c < 192)
/-- whether a second byte can follow a first one -/
def sec (f c : Nat) : Bool :=
  cont c && (if f = 224 then decide (160 ≤ c) else if f = 237 then decide (c < 160) else if f = 240 then decide (144 ≤ c) else if f = 244 then decide (c < 144) else true)
def okB (f j : Nat) (a : UInt8) : Bool := if j = 0 then sec f a.toNat else cont a.toNat
def okGo (f : Nat) : Nat → Nat → B → Bool
  | _, 0, _ => true
  | _, _ + 1, [] => false
  | j, k + 1, a :: r => okB f j a && okGo f (j + 1) k r
/-- the length of the form with which bytes begin -/
def rd : B → Option Nat
  | [] => none
  | f :: r => if hd f.toNat ≠ 0 ∧ okGo f.toNat 0 (hd f.toNat - 1) r = true then some (hd f.toNat) else none
def validF : Nat → B → Bool
  | _, [] => true
  | 0, _ => true
  | k + 1, s => match rd s with
    | none => false
    | some n => validF k (s.drop n)
def valid (s : B) : Bool := validF s.length s
theorem hd_le (c : Nat) : hd c ≤ 4 := by
  unfold hd
  repeat (first | omega | split)
theorem okGo_len (f : Nat) : ∀ (k j : Nat) (r : B), okGo f j k r = true → k ≤ r.length
  | 0, _, _, _ => Nat.zero_le _
  | k + 1, _, [], h => by simp [okGo] at h
  | k + 1, j, a :: r, h => by
    simp only [okGo, Bool.and_eq_true] at h
    have := okGo_len f k (j + 1) r h.2
    simp only [List.length_cons]
    omega
theorem okGo_snoc (f : Nat) : ∀ (k j : Nat) (r : B), okGo f j (k + 1) r = (okGo f j k r && (match r[k]? with | some a => okB f (j + k) a | none => false))
  | 0, j, [] => by simp [okGo]
  | 0, j, a :: r => by simp [okGo]
  | k + 1, j, [] => by simp [okGo]
  | k + 1, j, a :: r => by
    rw [okGo, okGo_snoc f k (j + 1) r, okGo, Bool.and_assoc]
    simp only [List.getElem?_cons_succ]
    rw [show j + 1 + k = j + (k + 1) by omega]
theorem okGo_take {f : Nat} {r : B} : ∀ {m k : Nat}, k ≤ m → okGo f 0 m r = true → okGo f 0 k r = true
  | 0, k, h, _ => by obtain rfl : k = 0 := by omega
                     rfl
  | m + 1, k, h, hm => by
    rcases Nat.lt_or_ge k (m + 1) with hk | hk
    · rw [okGo_snoc, Bool.and_eq_true] at hm
      exact okGo_take (by omega) hm.1
    · obtain rfl : k = m + 1 := by omega
      exact hm
theorem okGo_at {f : Nat} {r : B} {m k : Nat} (h : k < m) (hm : okGo f 0 m r = true) : ∃ a, r[k]? = some a ∧ okB f k a = true := by
  have h1 := okGo_take (k := k + 1) (by omega) hm
  rw [okGo_snoc, Bool.and_eq_true] at h1
  cases hr : r[k]? with
  | none => rw [hr] at h1; simp at h1
  | some a => rw [hr] at h1; exact ⟨a, rfl, by simpa using h1.2⟩
theorem rd_yes {f : UInt8} {r : B} (h0 : hd f.toNat ≠ 0) (h : okGo f.toNat 0 (hd f.toNat - 1) r = true) : rd (f :: r) = some (hd f.toNat) := by
  simp only [rd]
  rw [if_pos ⟨h0, h⟩]
theorem rd_zero {f : UInt8} {r : B} (h0 : hd f.toNat = 0) : rd (f :: r) = none := by
  simp only [rd]
  rw [if_neg (fun h => h.1 h0)]
theorem rd_no {f : UInt8} {r : B} {k : Nat} (hk : k < hd f.toNat - 1) (h : ∀ a, r[k]? = some a → okB f.toNat k a = false) : rd (f :: r) = none := by
  simp only [rd]
  rw [if_neg]
  rintro ⟨_, h2⟩
  obtain ⟨a, ha, hb⟩ := okGo_at hk h2
  rw [h a ha] at hb
  cases hb
theorem rd_pos {s : B} {n : Nat} (h : rd s = some n) : 1 ≤ n ∧ n ≤ 4 ∧ n ≤ s.length := by
  cases s with
  | nil => simp [rd] at h
  | cons f r =>
    simp only [rd] at h
    split at h
    · rename_i ho
      have hn := hd_le f.toNat
      have hl := okGo_len _ _ _ _ ho.2
      cases h
      simp only [List.length_cons]
      have := ho.1
      omega
    · cases h
theorem validF_fuel : ∀ (k : Nat) (s : B), s.length ≤ k → validF k s = validF s.length s
  | 0, s, h => by
    cases s with
    | nil => rfl
    | cons _ _ => simp at h
  | k + 1, s, h => by
    cases s with
    | nil => rfl
    | cons f r =>
      simp only [List.length_cons]
      simp only [validF]
      cases hr : rd (f :: r) with
      | none => rfl
      | some n =>
        have hp := rd_pos hr
        simp only [List.length_cons] at hp h
        have hl : ((f :: r).drop n).length ≤ r.length := by simp; omega
        simp only
        rw [validF_fuel k _ (by omega), validF_fuel r.length _ hl]
theorem valid_nil : valid [] = true := rfl
theorem valid_none {s : B} (h0 : s ≠ []) (h : rd s = none) : valid s = false := by
  cases s with
  | nil => exact absurd rfl h0
  | cons f r => simp only [valid, List.length_cons, validF, h]
theorem valid_some {s : B} {n : Nat} (h : rd s = some n) : valid s = valid (s.drop n) := by
  have hp := rd_pos h
  cases s with
  | nil => simp [rd] at h
  | cons f r =>
    simp only [List.length_cons] at hp
    have hl : ((f :: r).drop n).length ≤ r.length := by simp; omega
    unfold valid
    simp only [List.length_cons, validF, h]
    exact validF_fuel _ _ hl
theorem drop_at {s : B} {k : Nat} (h : k < s.length) : s.drop k = s[k] :: s.drop (k + 1) := List.drop_eq_getElem_cons h

/-! names, values -/
def let_ (c : Nat) : Bool := decide (97 ≤ c ∧ c ≤ 122 ∨ 65 ≤ c ∧ c ≤ 90 ∨ c = 95)
def dig (c : Nat) : Bool := decide (48 ≤ c ∧ c ≤ 57)
def nameGo (i : Nat) : B → Bool
  | [] => true
  | c :: r => (let_ c.toNat || (decide (1 ≤ i) && dig c.toNat)) && nameGo (i + 1) r
def nameB (s : B) : Bool := decide (1 ≤ s.length ∧ s.length ≤ 128) && nameGo 0 s
def valueB (s : B) : Bool := decide (s.length ≤ 1024) && valid s

abbrev Lab := ByteArray × ByteArray
abbrev d (s : ByteArray) : B := s.data.toList
def labOk (prev : Option ByteArray) (x : Lab) : Bool :=
  nameB (d x.1) && valueB (d x.2) && decide (d x.2 ≠ []) && (match prev with | none => true | some p => decide (d p < d x.1))
def labGo (prev : Option ByteArray) : List Lab → Bool
  | [] => true
  | x :: l => labOk prev x && labGo (some x.1) l
def labRight (l : List Lab) : Bool := decide (l.length ≤ 64) && labGo none l
def bytesS (l : List Lab) : B := l.flatMap fun x => d x.1 ++ [255] ++ (d x.2 ++ [255])

/-! an entry, an item -/
structure Ent where
  lab : List Lab
  mark : Bool
  bits : Int
  st : Bool
  time : Int
  stamp : Int
def jobB (s : B) : Bool := decide (1 ≤ s.length ∧ s.length ≤ 128) && valid s
def onto (x : UInt8) : List B → List B
  | p :: q => (x :: p) :: q
  | [] => [[x]]
/-- the pieces of bytes between those that are c -/
def cutAt (c : UInt8) : B → List B
  | [] => [[]]
  | x :: r => if x = c then [] :: cutAt c r else onto x (cutAt c r)
/-- pieces taken two by two -/
def two : List B → List Lab
  | a :: b :: r => (⟨a.toArray⟩, ⟨b.toArray⟩) :: two r
  | _ => []
def readS (s : B) : Option (List Lab) :=
  if (cutAt 255 s).length % 2 = 0 ∨ (cutAt 255 s).getLast? ≠ some [] ∨ 129 < (cutAt 255 s).length then none
  else if labRight (two (cutAt 255 s)) then some (two (cutAt 255 s)) else none
/-- what is ahead of the first c, and behind it -/
def ahead (c : UInt8) : B → Option (B × B)
  | [] => none
  | x :: r => if x = c then some ([], r) else (ahead c r).map fun p => (x :: p.1, p.2)
def readKey (s : B) : Option (B × List Lab) :=
  match ahead 254 s with
  | none => none
  | some (j, r) => if jobB j then (readS r).map fun l => (j, l) else none
def itemRight (k : B) (e : Ent) : Bool :=
  (readKey k).isSome && labRight e.lab && decide (0 ≤ e.stamp ∧ e.stamp ≤ 562949953421313) && (!e.mark || (decide (e.bits = 0) && !e.st)) && (e.st || decide (e.time = 0))
structure It where
  key : ByteArray
  e : Ent
abbrev Line := B × B
def lineOf (x : It) : Line := (d x.key, bytesS x.e.lab)
abbrev Last := Option (Int × Bool)
def upd (f : Line → Last) (k : Line) (v : Int × Bool) : Line → Last := fun q => if q = k then some v else f q
def fol (f : Line → Last) (x : It) : Int :=
  match f (lineOf x) with
  | some (s, m) => if x.e.stamp ≤ s then 381 else if x.e.mark && m then 382 else 0
  | none => if x.e.mark then 382 else 0
def know (f : Line → Last) (x : It) : Line → Last := upd f (lineOf x) (x.e.stamp, x.e.mark)
/-- what is known of lines behind items -/
def lastOf (l : List It) : Line → Last := l.foldl know (fun _ => none)
def chkGo (f : Line → Last) (i : Int) : List It → Int × Int
  | [] => (-1, 0)
  | x :: l => if itemRight (d x.key) x.e then (if fol f x = 0 then chkGo (know f x) (i + 1) l else (i, fol f x)) else (i, 380)
def check (l : List It) : Int × Int := chkGo (fun _ => none) 0 l
def appGo (f : Line → Last) : List It → Int
  | [] => 0
  | x :: l => if fol f x = 0 then appGo (know f x) l else fol f x
def appErr (its l : List It) : Int :=
  if l.all (fun x => itemRight (d x.key) x.e) then (if appGo (lastOf its) l = 0 then (if 65536 < its.length + l.length then 4 else 0) else appGo (lastOf its) l) else 380
def app (its l : List It) : List It := if appErr its l = 0 then its ++ l else its
end Go.Proofs.YtiooimdncocfdaaGreatDoor.Sk
