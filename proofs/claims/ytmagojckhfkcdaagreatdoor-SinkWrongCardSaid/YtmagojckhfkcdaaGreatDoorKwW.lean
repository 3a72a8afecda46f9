/- Plain law of SinkWrong: an item with one defect is not right. -/
import Derived.Test.YtmagojckhfkcdaaGreatDoorKTl
namespace Go.Proofs.YtmagojckhfkcdaaGreatDoor.Sk
open Go
/-- the key with the defect numbered q -/
def badK (x : Sm) (q : Int) : ByteArray := if q = 5 then ⟨#[106]⟩ else if q = 6 then keyS x ++ ⟨#[255]⟩ else keyS x
/-- the entry with the defect numbered q -/
def badE (x : Sm) (q n : Int) : Ent :=
  let e := entS x 1000
  if q = 0 then { e with stamp := min n (-1) }
  else if q = 1 then { e with stamp := max n 562949953421314 }
  else if q = 2 then { e with st := false, time := max n 1 }
  else if q = 3 then { e with mark := true, bits := max n 1 }
  else if q = 4 then { e with lab := [(xB, ⟨#[]⟩)] }
  else if q = 5 then e
  else if q = 6 then e
  else { e with mark := true, st := true, bits := 0, time := 0 }
theorem keyN_cases (k : Int) : keyN k = kJ ∨ keyN k = kJ2 ∨ keyN k = kK1 := by
  unfold keyN
  split
  · exact .inl rfl
  · split
    · exact .inr (.inl rfl)
    · exact .inr (.inr rfl)
theorem keyJ_no : readKey (d ⟨#[106]⟩) = none := by kernel_rfl
theorem keyx_no (x : Sm) : readKey (d (keyS x ++ ⟨#[255]⟩)) = none := by
  unfold keyS
  rcases keyN_cases (x.key % 3) with h | h | h <;> rw [h] <;> kernel_rfl
theorem lab_no : labRight [(xB, ⟨#[]⟩)] = false := by kernel_rfl
theorem bad_no (x : Sm) (q n : Int) : itemRight (d (badK x q)) (badE x q n) = false := by
  by_cases h5 : q = 5
  · subst h5
    unfold itemRight
    rw [show badK x 5 = ⟨#[106]⟩ from rfl, keyJ_no]
    rfl
  by_cases h6 : q = 6
  · subst h6
    unfold itemRight
    rw [show badK x 6 = keyS x ++ ⟨#[255]⟩ from rfl, keyx_no]
    rfl
  unfold itemRight badE
  dsimp only
  split
  · have : ¬ (0 ≤ min n (-1) ∧ min n (-1) ≤ 562949953421313) := by omega
    simp [this]
  · split
    · have : ¬ (0 ≤ max n 562949953421314 ∧ max n 562949953421314 ≤ 562949953421313) := by omega
      simp [this]
    · split
      · have : ¬ (max n 1 = 0) := by omega
        simp [this]
      · split
        · have : ¬ (max n 1 = 0) := by omega
          simp [this]
        · split
          · simp [lab_no]
          · simp
theorem chk_append : ∀ (l m : List It) (f : Line → Last) (i : Int), l.all (fun x => itemRight (d x.key) x.e) = true → appGo f l = 0 → chkGo f i (l ++ m) = chkGo (l.foldl know f) (i + l.length) m
  | [], _, _, _, _, _ => by simp
  | x :: r, m, f, i, h, hg => by
    rw [List.all_cons, Bool.and_eq_true] at h
    unfold appGo at hg
    split at hg
    · rename_i h0
      have e : chkGo f i (x :: (r ++ m)) = (if itemRight (d x.key) x.e then (if fol f x = 0 then chkGo (know f x) (i + 1) (r ++ m) else (i, fol f x)) else (i, 380)) := by rw [chkGo]
      rw [List.cons_append, e, if_pos h.1, if_pos h0, chk_append r m _ _ h.2 hg, List.foldl_cons, List.length_cons, show i + 1 + (r.length : Int) = i + ((r.length + 1 : Nat) : Int) by omega]
    · rename_i h0
      exact absurd hg h0
theorem chk_bad {l : List It} (h : Sound l) {k : Nat} (hk : k ≤ l.length) {x : It} (m : List It) (hx : itemRight (d x.key) x.e = false) : check (l.take k ++ x :: m) = ((k : Int), 380) := by
  have h1 : Sound (l.take k ++ l.drop k) := by rw [List.take_append_drop]; exact h
  have h2 := h1.left
  unfold check
  rw [chk_append _ _ _ _ h2.right h2.go, List.length_take, Nat.min_eq_left hk]
  unfold chkGo
  rw [hx]
  simp
theorem chk_late {l : List It} (h : Sound l) (hs : ∀ y ∈ l, y.e.stamp < 2000) {a b : It} (ha : itemRight (d a.key) a.e = true) (hb : itemRight (d b.key) b.e = true) (hl : lineOf b = lineOf a) (ma : a.e.mark = true) (mb : b.e.mark = true) (sa : a.e.stamp = 2000) (sb : b.e.stamp = 2001) :
    check (l ++ [a, b]) = ((l.length : Int), 382) ∨ check (l ++ [a, b]) = ((l.length : Int) + 1, 382) := by
  have e0 : check (l ++ [a, b]) = chkGo (lastOf l) (0 + l.length) [a, b] := chk_append _ _ _ _ h.right h.go
  rw [e0, Int.zero_add]
  have hfol : ∀ s m, lastOf l (lineOf a) = some (s, m) → s < 2000 := fun s m e => by
    obtain ⟨y, hy, e1⟩ := last_from l _ s m e
    have := hs y hy
    omega
  by_cases h0 : fol (lastOf l) a = 0
  · right
    have h1 : fol (know (lastOf l) a) b = 382 := by
      unfold fol know upd
      rw [if_pos hl]
      dsimp only
      rw [if_neg (by omega), ma, mb]
      rfl
    unfold chkGo
    rw [if_pos ha, if_pos h0]
    unfold chkGo
    rw [if_pos hb, h1]
    rfl
  · left
    have h1 : fol (lastOf l) a = 382 := by
      unfold fol at h0 ⊢
      cases e : lastOf l (lineOf a) with
      | none => simp [ma]
      | some v =>
        obtain ⟨s, m⟩ := v
        have h2 := hfol s m e
        rw [e] at h0
        dsimp only at h0 ⊢
        rw [if_neg (by omega)] at h0 ⊢
        rw [ma] at h0 ⊢
        cases m
        · exact absurd rfl h0
        · rfl
    unfold chkGo
    rw [if_pos ha, h1]
    rfl
end Go.Proofs.YtmagojckhfkcdaaGreatDoor.Sk
