/- Chapter 38, plain facts for the laws over small entries: what is filled keeps the rules; SinkWhole. -/
import Derived.Test.YtiooimdncocfdaaGreatDoorKwP
namespace Go.Proofs.YtiooimdncocfdaaGreatDoor.Sk
/-- an entry in small numbers -/
structure Sm where
  key : Int
  ser : Int
  kind : Int
  more : Int
structure SmOk (x : Sm) : Prop where
  k0 : 0 ≤ x.key
  k1 : x.key ≤ 255
  s0 : 0 ≤ x.ser
  s1 : x.ser ≤ 255
  d0 : 0 ≤ x.kind
  d1 : x.kind ≤ 255
  m0 : 0 ≤ x.more
  m1 : x.more ≤ 255
def sB2 : ByteArray := ⟨#[50]⟩
def kJ2 : ByteArray := ⟨#[106]⟩ ++ ⟨#[254]⟩ ++ ⟨#[97, 255, 50, 255]⟩
def kK1 : ByteArray := ⟨#[107]⟩ ++ ⟨#[254]⟩ ++ ⟨#[97, 255, 49, 255]⟩
def stepS (st : Int) (x : Sm) : Int := if 250 ≤ x.more then st + x.more % 4 - 3 else st + x.more % 4
def keyN (k : Int) : ByteArray := if k = 0 then kJ else if k = 1 then kJ2 else kK1
def serN (s : Int) : List Lab := if s = 0 then [(xB, oneB)] else if s = 1 then [(xB, sB2)] else []
def markS (x : Sm) : Bool := decide (x.kind % 3 = 0)
def stS (x : Sm) : Bool := !markS x && decide (x.kind % 2 = 0)
def entS (x : Sm) (st : Int) : Ent := ⟨serN (x.ser % 3), markS x, if markS x then 0 else x.kind, stS x, if stS x then x.more - 99 else 0, st⟩
def keyS (x : Sm) : ByteArray := keyN (x.key % 3)
def itS (x : Sm) (st : Int) : It := ⟨keyS x, entS x st⟩
/-- the items of a sink behind fill -/
def fillS : List It → Int → List Sm → List It
  | its, _, [] => its
  | its, st, x :: r => fillS (app its [itS x (stepS st x)]) (stepS st x) r
def stGo : Int → List Sm → Int
  | st, [] => st
  | st, x :: r => stGo (stepS st x) r
theorem fillS_snoc : ∀ (l : List Sm) (its : List It) (st : Int) (x : Sm), fillS its st (l ++ [x]) = app (fillS its st l) [itS x (stepS (stGo st l) x)]
  | [], _, _, _ => rfl
  | y :: r, its, st, x => by
    simp only [List.cons_append, fillS, stGo]
    exact fillS_snoc r _ _ x
theorem stGo_snoc : ∀ (l : List Sm) (st : Int) (x : Sm), stGo st (l ++ [x]) = stepS (stGo st l) x
  | [], _, _ => rfl
  | y :: r, st, x => by
    simp only [List.cons_append, stGo]
    exact stGo_snoc r _ x
theorem stepS_bd {st : Int} {x : Sm} : st - 3 ≤ stepS st x ∧ stepS st x ≤ st + 3 := by
  unfold stepS
  have h1 := Int.emod_nonneg x.more (show (4 : Int) ≠ 0 by decide)
  have h2 := Int.emod_lt_of_pos x.more (show (0 : Int) < 4 by decide)
  split <;> omega
theorem stGo_bd : ∀ (l : List Sm) (st : Int), st - 3 * l.length ≤ stGo st l ∧ stGo st l ≤ st + 3 * l.length
  | [], st => by simp [stGo]
  | x :: r, st => by
    have h1 := stGo_bd r (stepS st x)
    have h2 := @stepS_bd st x
    simp only [stGo, List.length_cons]
    omega
theorem app_len (its : List It) (x : It) : (app its [x]).length ≤ its.length + 1 := by
  unfold app
  split <;> simp
theorem fillS_len : ∀ (l : List Sm) (its : List It) (st : Int), (fillS its st l).length ≤ its.length + l.length
  | [], its, _ => by simp [fillS]
  | x :: r, its, st => by
    have h1 := fillS_len r (app its [itS x (stepS st x)]) (stepS st x)
    have h2 := app_len its (itS x (stepS st x))
    simp only [fillS, List.length_cons]
    omega
/-! what keeps the rules -/
structure Sound (l : List It) : Prop where
  right : l.all (fun x => itemRight (d x.key) x.e) = true
  go : appGo (fun _ => none) l = 0
theorem appGo_append : ∀ (l m : List It) (f : Line → Last), appGo f (l ++ m) = if appGo f l = 0 then appGo (l.foldl know f) m else appGo f l
  | [], _, _ => by simp [appGo]
  | x :: r, m, f => by
    have h := appGo_append r m (know f x)
    simp only [List.cons_append, appGo, List.foldl_cons]
    by_cases h0 : fol f x = 0
    · simp only [if_pos h0, h]
    · simp only [if_neg h0]
theorem appErr_zero {its l : List It} (h : appErr its l = 0) : l.all (fun x => itemRight (d x.key) x.e) = true ∧ appGo (lastOf its) l = 0 ∧ its.length + l.length ≤ 65536 := by
  unfold appErr at h
  split at h
  · rename_i h1
    split at h
    · rename_i h2
      split at h
      · cases h
      · exact ⟨h1, h2, by omega⟩
    · rename_i h2
      exact absurd h h2
  · cases h
theorem appErr_sound {its l : List It} (h : Sound (its ++ l)) (hl : its.length + l.length ≤ 65536) : appErr its l = 0 := by
  have h1 := h.right
  rw [List.all_append, Bool.and_eq_true] at h1
  have h2 := h.go
  rw [appGo_append] at h2
  unfold appErr
  rw [if_pos h1.2]
  split at h2
  · have h3 : appGo (lastOf its) l = 0 := h2
    rw [if_pos h3, if_neg (by omega)]
  · rename_i h3
    exact absurd h2 h3
theorem Sound.app {its : List It} (h : Sound its) (l : List It) : Sound (app its l) := by
  unfold Sk.app
  split
  · rename_i h0
    obtain ⟨h1, h2, _⟩ := appErr_zero h0
    refine ⟨by rw [List.all_append, h.right, h1]; rfl, ?_⟩
    rw [appGo_append, if_pos h.go]
    exact h2
  · exact h
theorem Sound.nil : Sound [] := ⟨rfl, rfl⟩
theorem Sound.left {l m : List It} (h : Sound (l ++ m)) : Sound l := by
  refine ⟨?_, ?_⟩
  · have := h.right
    rw [List.all_append, Bool.and_eq_true] at this
    exact this.1
  · have := h.go
    rw [appGo_append] at this
    split at this
    · assumption
    · exact this
theorem fillS_sound : ∀ (l : List Sm) (its : List It) (st : Int), Sound its → Sound (fillS its st l)
  | [], _, _, h => h
  | _ :: r, _, _, h => fillS_sound r _ _ (h.app _)
/-- every item that is filled is one of the small ones -/
theorem fillS_mem : ∀ (l : List Sm) (its : List It) (st : Int), ∀ y ∈ fillS its st l, y ∈ its ∨ ∃ x ∈ l, ∃ st', y = itS x st' ∧ st - 3 * l.length ≤ st' ∧ st' ≤ st + 3 * l.length
  | [], _, _, y, h => .inl h
  | x :: r, its, st, y, h => by
    have hb := @stepS_bd st x
    rcases fillS_mem r _ _ y h with h1 | ⟨z, hz, st', h1, h2, h3⟩
    · unfold app at h1
      split at h1
      · rcases List.mem_append.1 h1 with h1 | h1
        · exact .inl h1
        · exact .inr ⟨x, List.mem_cons_self .., stepS st x, by simpa using h1, by simp only [List.length_cons]; omega, by simp only [List.length_cons]; omega⟩
      · exact .inl h1
    · exact .inr ⟨z, List.mem_cons_of_mem _ hz, st', h1, by simp only [List.length_cons]; omega, by simp only [List.length_cons]; omega⟩
/-! the last items of lines -/
theorem fol_lt {f : Line → Last} {x : It} (h : fol f x = 0) : ∀ s m, f (lineOf x) = some (s, m) → s < x.e.stamp := by
  intro s m e
  unfold fol at h
  rw [e] at h
  simp only at h
  split at h
  · cases h
  · omega
theorem know_ge {q : Line} {s0 : Int} {m0 : Bool} : ∀ (l : List It) (f : Line → Last), appGo f l = 0 → f q = some (s0, m0) → ∃ s m, l.foldl know f q = some (s, m) ∧ s0 ≤ s
  | [], f, _, h => ⟨s0, m0, h, Int.le_refl _⟩
  | x :: r, f, h, hq => by
    simp only [appGo] at h
    split at h
    · rename_i h0
      by_cases e : q = lineOf x
      · have h1 := fol_lt h0 s0 m0 (e ▸ hq)
        obtain ⟨s, m, h2, h3⟩ := know_ge (q := q) (s0 := x.e.stamp) (m0 := x.e.mark) r (know f x) h (by unfold know upd; rw [if_pos e])
        exact ⟨s, m, h2, by omega⟩
      · exact know_ge r (know f x) h (by unfold know upd; rw [if_neg e]; exact hq)
    · rename_i h0
      exact absurd h h0
theorem last_ge : ∀ (l : List It) (f : Line → Last) (x : It), appGo f l = 0 → x ∈ l → ∃ s m, l.foldl know f (lineOf x) = some (s, m) ∧ x.e.stamp ≤ s
  | y :: r, f, x, h, hx => by
    simp only [appGo] at h
    split at h
    · rcases List.mem_cons.1 hx with rfl | hx
      · exact know_ge r (know f x) h (by unfold know upd; rw [if_pos rfl])
      · exact last_ge r (know f y) x h hx
    · rename_i h0
      exact absurd h h0
theorem last_from : ∀ (l : List It) (q : Line) (s : Int) (m : Bool), lastOf l q = some (s, m) → ∃ x ∈ l, x.e.stamp = s := by
  have key : ∀ (l : List It) (f : Line → Last) (q : Line) (s : Int) (m : Bool), l.foldl know f q = some (s, m) → f q = some (s, m) ∨ ∃ x ∈ l, x.e.stamp = s := by
    intro l
    induction l with
    | nil => intro f q s m h; exact .inl h
    | cons x r ih =>
      intro f q s m h
      rcases ih (know f x) q s m h with h1 | ⟨y, hy, e⟩
      · unfold know upd at h1
        split at h1
        · cases h1
          exact .inr ⟨x, List.mem_cons_self .., rfl⟩
        · exact .inl h1
      · exact .inr ⟨y, List.mem_cons_of_mem _ hy, e⟩
  intro l q s m h
  rcases key l _ q s m h with h1 | h1
  · cases h1
  · exact h1
theorem right_stamp {x : It} (h : itemRight (d x.key) x.e = true) : 0 ≤ x.e.stamp := by
  unfold itemRight at h
  simp only [Bool.and_eq_true, decide_eq_true_eq] at h
  exact h.1.1.2.1
/-! SinkWhole -/
def badI : It := ⟨kJ, ⟨[(xB, oneB)], true, 0, false, 0, 0⟩⟩
theorem badI_right : itemRight (d badI.key) badI.e = true := by kernel_rfl
theorem minus_right {l : List Lab} {m s : Bool} {b t : Int} (k : B) : itemRight k ⟨l, m, b, s, t, -1⟩ = false := by
  unfold itemRight
  simp
theorem whole_bad {l : List It} (h : Sound l) (k : Nat) : appErr l (l.take k ++ [badI] ++ l.drop k) = 381 ∨ appErr l (l.take k ++ [badI] ++ l.drop k) = 382 := by
  have hall : (l.take k ++ [badI] ++ l.drop k).all (fun x => itemRight (d x.key) x.e) = true := by
    have h1 := h.right
    rw [← List.take_append_drop k l, List.all_append, Bool.and_eq_true] at h1
    rw [List.all_append, List.all_append, h1.1, h1.2]
    simp [badI_right]
  have hgo : appGo (lastOf l) (l.take k ++ [badI] ++ l.drop k) = 381 ∨ appGo (lastOf l) (l.take k ++ [badI] ++ l.drop k) = 382 := by
    cases ht : l.take k with
    | nil =>
      simp only [List.nil_append, List.cons_append, appGo]
      have hf : fol (lastOf l) badI = 381 ∨ fol (lastOf l) badI = 382 := by
        unfold fol
        cases hq : lastOf l (lineOf badI) with
        | none => exact .inr rfl
        | some v =>
          obtain ⟨s, m⟩ := v
          obtain ⟨x, hx, e⟩ := last_from l _ s m hq
          have h2 := right_stamp (List.all_eq_true.1 h.right x hx)
          left
          simp only
          rw [if_pos (show badI.e.stamp ≤ s by show (0 : Int) ≤ s; omega)]
      rw [if_neg (by rcases hf with e | e <;> rw [e] <;> decide)]
      exact hf
    | cons x r =>
      have hx : x ∈ l := List.mem_of_mem_take (by rw [ht]; exact List.mem_cons_self ..)
      obtain ⟨s, m, hs, hle⟩ := last_ge l _ x h.go hx
      have hs' : lastOf l (lineOf x) = some (s, m) := hs
      have hf : fol (lastOf l) x = 381 := by
        unfold fol
        rw [hs']
        simp only
        rw [if_pos hle]
      simp only [List.cons_append, appGo]
      rw [if_neg (by rw [hf]; decide)]
      exact .inl hf
  unfold appErr
  rw [if_pos hall, if_neg (by rcases hgo with e | e <;> rw [e] <;> decide)]
  exact hgo
theorem whole_app {l : List It} (h : Sound l) (hl : l.length ≤ 65536) : appErr [] l = 0 ∧ app [] l = l := by
  have h1 : appErr [] l = 0 := appErr_sound (by simpa using h) (by simpa using hl)
  exact ⟨h1, by unfold app; rw [if_pos h1]; rfl⟩
theorem parts_app {l : List It} (h : Sound l) (hl : l.length ≤ 65536) (k : Nat) : appErr [] (l.take k) = 0 ∧ app [] (l.take k) = l.take k ∧ appErr (l.take k) (l.drop k) = 0 ∧ app (l.take k) (l.drop k) = l := by
  have h0 : Sound (l.take k ++ l.drop k) := by rw [List.take_append_drop]; exact h
  have h1 := whole_app h0.left (by rw [List.length_take]; omega)
  have h2 : appErr (l.take k) (l.drop k) = 0 := appErr_sound h0 (by rw [List.length_take, List.length_drop]; omega)
  exact ⟨h1.1, h1.2, h2, by unfold app; rw [if_pos h2, List.take_append_drop]⟩
theorem minus_err {its l : List It} {x : It} (h : itemRight (d x.key) x.e = false) : appErr its (l ++ [x]) = 380 := by
  unfold appErr
  rw [if_neg]
  rw [List.all_append, Bool.and_eq_true]
  rintro ⟨_, h2⟩
  simp only [List.all_cons, List.all_nil, Bool.and_true] at h2
  rw [h] at h2
  cases h2
end Go.Proofs.YtiooimdncocfdaaGreatDoor.Sk
