/- Several parts in one text: KhP, KTl, KoF. -/
import Derived.Test.YtmagojckhfkcdaaGreatDoorKwA
import Derived.Test.YtmagojckhfkcdaaGreatDoorKpA
import Derived.Test.YtmagojckhfkcdaaGreatDoorKoA
import Derived.RangeFuncNested
import Derived.RangeFuncBound
import Derived.RangeFuncCalls
import Derived.RangeFuncLeaves
import Derived.RangeFuncBox
import Derived.Shelf.Abstract
import Derived.Shelf.RegionOpen
import Derived.OwnWalkIn
import Derived.TacticsInMore
import Derived.LoopNIn
import Derived.LoopIn
import Derived.WalkKit
/- Several parts in one text: KhP, KvR, KvL. -/
/- Chapter 38, plain facts for the laws over small entries: what is filled keeps the rules; SinkWhole. -/
namespace Go.Proofs.YtmagojckhfkcdaaGreatDoor.Sk
/-- an entry in small numbers -/
structure Sm where
  key : Int
  ser : Int
  kind : Int
  more : Int
structure SmOk (x : Sm) : Prop where
  k0 : 0 ≤ x.key
  k1 : x.key ≤ 255
  s0 : 0 ≤ x.ser
  s1 : x.ser ≤ 255
  d0 : 0 ≤ x.kind
  d1 : x.kind ≤ 255
  m0 : 0 ≤ x.more
  m1 : x.more ≤ 255
def sB2 : ByteArray := ⟨#[50]⟩
def kJ2 : ByteArray := ⟨#[106]⟩ ++ ⟨#[254]⟩ ++ ⟨#[97, 255, 50, 255]⟩
def kK1 : ByteArray := ⟨#[107]⟩ ++ ⟨#[254]⟩ ++ ⟨#[97, 255, 49, 255]⟩
def stepS (st : Int) (x : Sm) : Int := if 250 ≤ x.more then st + x.more % 4 - 3 else st + x.more % 4
def keyN (k : Int) : ByteArray := if k = 0 then kJ else if k = 1 then kJ2 else kK1
def serN (s : Int) : List Lab := if s = 0 then [(xB, oneB)] else if s = 1 then [(xB, sB2)] else []
def markS (x : Sm) : Bool := decide (x.kind % 3 = 0)
def stS (x : Sm) : Bool := !markS x && decide (x.kind % 2 = 0)
def entS (x : Sm) (st : Int) : Ent := ⟨serN (x.ser % 3), markS x, if markS x then 0 else x.kind, stS x, if stS x then x.more - 99 else 0, st⟩
def keyS (x : Sm) : ByteArray := keyN (x.key % 3)
def itS (x : Sm) (st : Int) : It := ⟨keyS x, entS x st⟩
/-- the items of a sink behind fill -/
def fillS : List It → Int → List Sm → List It
  | its, _, [] => its
  | its, st, x :: r => fillS (app its [itS x (stepS st x)]) (stepS st x) r
def stGo : Int → List Sm → Int
  | st, [] => st
  | st, x :: r => stGo (stepS st x) r
theorem fillS_snoc : ∀ (l : List Sm) (its : List It) (st : Int) (x : Sm), fillS its st (l ++ [x]) = app (fillS its st l) [itS x (stepS (stGo st l) x)]
  | [], _, _, _ => rfl
  | y :: r, its, st, x => by
    simp only [List.cons_append, fillS, stGo]
    exact fillS_snoc r _ _ x
theorem stGo_snoc : ∀ (l : List Sm) (st : Int) (x : Sm), stGo st (l ++ [x]) = stepS (stGo st l) x
  | [], _, _ => rfl
  | y :: r, st, x => by
    simp only [List.cons_append, stGo]
    exact stGo_snoc r _ x
theorem stepS_bd {st : Int} {x : Sm} : st - 3 ≤ stepS st x ∧ stepS st x ≤ st + 3 := by
  unfold stepS
  have h1 := Int.emod_nonneg x.more (show (4 : Int) ≠ 0 by decide)
  have h2 := Int.emod_lt_of_pos x.more (show (0 : Int) < 4 by decide)
  split <;> omega
theorem stGo_bd : ∀ (l : List Sm) (st : Int), st - 3 * l.length ≤ stGo st l ∧ stGo st l ≤ st + 3 * l.length
  | [], st => by simp [stGo]
  | x :: r, st => by
    have h1 := stGo_bd r (stepS st x)
    have h2 := @stepS_bd st x
    simp only [stGo, List.length_cons]
    omega
theorem app_len (its : List It) (x : It) : (app its [x]).length ≤ its.length + 1 := by
  unfold app
  split <;> simp
theorem fillS_len : ∀ (l : List Sm) (its : List It) (st : Int), (fillS its st l).length ≤ its.length + l.length
  | [], its, _ => by simp [fillS]
  | x :: r, its, st => by
    have h1 := fillS_len r (app its [itS x (stepS st x)]) (stepS st x)
    have h2 := app_len its (itS x (stepS st x))
    simp only [fillS, List.length_cons]
    omega
/-! what keeps the rules -/
structure Sound (l : List It) : Prop where
  right : l.all (fun x => itemRight (d x.key) x.e) = true
  go : appGo (fun _ => none) l = 0
theorem appGo_append : ∀ (l m : List It) (f : Line → Last), appGo f (l ++ m) = if appGo f l = 0 then appGo (l.foldl know f) m else appGo f l
  | [], _, _ => by simp [appGo]
  | x :: r, m, f => by
    have h := appGo_append r m (know f x)
    simp only [List.cons_append, appGo, List.foldl_cons]
    by_cases h0 : fol f x = 0
    · simp only [if_pos h0, h]
    · simp only [if_neg h0]
theorem appErr_zero {its l : List It} (h : appErr its l = 0) : l.all (fun x => itemRight (d x.key) x.e) = true ∧ appGo (lastOf its) l = 0 ∧ its.length + l.length ≤ 65536 := by
  unfold appErr at h
  split at h
  · rename_i h1
    split at h
    · rename_i h2
      split at h
      · cases h
      · exact ⟨h1, h2, by omega⟩
    · rename_i h2
      exact absurd h h2
  · cases h
theorem appErr_sound {its l : List It} (h : Sound (its ++ l)) (hl : its.length + l.length ≤ 65536) : appErr its l = 0 := by
  have h1 := h.right
  rw [List.all_append, Bool.and_eq_true] at h1
  have h2 := h.go
  rw [appGo_append] at h2
  unfold appErr
  rw [if_pos h1.2]
  split at h2
  · have h3 : appGo (lastOf its) l = 0 := h2
    rw [if_pos h3, if_neg (by omega)]
  · rename_i h3
    exact absurd h2 h3
theorem Sound.app {its : List It} (h : Sound its) (l : List It) : Sound (app its l) := by
  unfold Sk.app
  split
  · rename_i h0
    obtain ⟨h1, h2, _⟩ := appErr_zero h0
    refine ⟨by rw [List.all_append, h.right, h1]; rfl, ?_⟩
    rw [appGo_append, if_pos h.go]
    exact h2
  · exact h
theorem Sound.nil : Sound [] := ⟨rfl, rfl⟩
theorem Sound.left {l m : List It} (h : Sound (l ++ m)) : Sound l := by
  refine ⟨?_, ?_⟩
  · have := h.right
    rw [List.all_append, Bool.and_eq_true] at this
    exact this.1
  · have := h.go
    rw [appGo_append] at this
    split at this
    · assumption
    · exact this
theorem fillS_sound : ∀ (l : List Sm) (its : List It) (st : Int), Sound its → Sound (fillS its st l)
  | [], _, _, h => h
  | _ :: r, _, _, h => fillS_sound r _ _ (h.app _)
/-- every item that is filled is one of the small ones -/
theorem fillS_mem : ∀ (l : List Sm) (its : List It) (st : Int), ∀ y ∈ fillS its st l, y ∈ its ∨ ∃ x ∈ l, ∃ st', y = itS x st' ∧ st - 3 * l.length ≤ st' ∧ st' ≤ st + 3 * l.length
  | [], _, _, y, h => .inl h
  | x :: r, its, st, y, h => by
    have hb := @stepS_bd st x
    rcases fillS_mem r _ _ y h with h1 | ⟨z, hz, st', h1, h2, h3⟩
    · unfold app at h1
      split at h1
      · rcases List.mem_append.1 h1 with h1 | h1
        · exact .inl h1
        · exact .inr ⟨x, List.mem_cons_self .., stepS st x, by simpa using h1, by simp only [List.length_cons]; omega, by simp only [List.length_cons]; omega⟩
      · exact .inl h1
    · exact .inr ⟨z, List.mem_cons_of_mem _ hz, st', h1, by simp only [List.length_cons]; omega, by simp only [List.length_cons]; omega⟩
/-! the last items of lines -/
theorem fol_lt {f : Line → Last} {x : It} (h : fol f x = 0) : ∀ s m, f (lineOf x) = some (s, m) → s < x.e.stamp := by
  intro s m e
  unfold fol at h
  rw [e] at h
  simp only at h
  split at h
  · cases h
  · omega
theorem know_ge {q : Line} {s0 : Int} {m0 : Bool} : ∀ (l : List It) (f : Line → Last), appGo f l = 0 → f q = some (s0, m0) → ∃ s m, l.foldl know f q = some (s, m) ∧ s0 ≤ s
  | [], f, _, h => ⟨s0, m0, h, Int.le_refl _⟩
  | x :: r, f, h, hq => by
    simp only [appGo] at h
    split at h
    · rename_i h0
      by_cases e : q = lineOf x
      · have h1 := fol_lt h0 s0 m0 (e ▸ hq)
        obtain ⟨s, m, h2, h3⟩ := know_ge (q := q) (s0 := x.e.stamp) (m0 := x.e.mark) r (know f x) h (by unfold know upd; rw [if_pos e])
        exact ⟨s, m, h2, by omega⟩
      · exact know_ge r (know f x) h (by unfold know upd; rw [if_neg e]; exact hq)
    · rename_i h0
      exact absurd h h0
theorem last_ge : ∀ (l : List It) (f : Line → Last) (x : It), appGo f l = 0 → x ∈ l → ∃ s m, l.foldl know f (lineOf x) = some (s, m) ∧ x.e.stamp ≤ s
  | y :: r, f, x, h, hx => by
    simp only [appGo] at h
    split at h
    · rcases List.mem_cons.1 hx with rfl | hx
      · exact know_ge r (know f x) h (by unfold know upd; rw [if_pos rfl])
      · exact last_ge r (know f y) x h hx
    · rename_i h0
      exact absurd h h0
theorem last_from : ∀ (l : List It) (q : Line) (s : Int) (m : Bool), lastOf l q = some (s, m) → ∃ x ∈ l, x.e.stamp = s := by
  have key : ∀ (l : List It) (f : Line → Last) (q : Line) (s : Int) (m : Bool), l.foldl know f q = some (s, m) → f q = some (s, m) ∨ ∃ x ∈ l, x.e.stamp = s := by
    intro l
    induction l with
    | nil => intro f q s m h; exact .inl h
    | cons x r ih =>
      intro f q s m h
      rcases ih (know f x) q s m h with h1 | ⟨y, hy, e⟩
      · unfold know upd at h1
        split at h1
        · cases h1
          exact .inr ⟨x, List.mem_cons_self .., rfl⟩
        · exact .inl h1
      · exact .inr ⟨y, List.mem_cons_of_mem _ hy, e⟩
  intro l q s m h
  rcases key l _ q s m h with h1 | h1
  · cases h1
  · exact h1
theorem right_stamp {x : It} (h : itemRight (d x.key) x.e = true) : 0 ≤ x.e.stamp := by
  unfold itemRight at h
  simp only [Bool.and_eq_true, decide_eq_true_eq] at h
  exact h.1.1.2.1
/-! SinkWhole -/
def badI : It := ⟨kJ, ⟨[(xB, oneB)], true, 0, false, 0, 0⟩⟩
theorem badI_right : itemRight (d badI.key) badI.e = true := by kernel_rfl
theorem minus_right {l : List Lab} {m s : Bool} {b t : Int} (k : B) : itemRight k ⟨l, m, b, s, t, -1⟩ = false := by
  unfold itemRight
  simp
theorem whole_bad {l : List It} (h : Sound l) (k : Nat) : appErr l (l.take k ++ [badI] ++ l.drop k) = 381 ∨ appErr l (l.take k ++ [badI] ++ l.drop k) = 382 := by
  have hall : (l.take k ++ [badI] ++ l.drop k).all (fun x => itemRight (d x.key) x.e) = true := by
    have h1 := h.right
    rw [← List.take_append_drop k l, List.all_append, Bool.and_eq_true] at h1
    rw [List.all_append, List.all_append, h1.1, h1.2]
    simp [badI_right]
  have hgo : appGo (lastOf l) (l.take k ++ [badI] ++ l.drop k) = 381 ∨ appGo (lastOf l) (l.take k ++ [badI] ++ l.drop k) = 382 := by
    cases ht : l.take k with
    | nil =>
      simp only [List.nil_append, List.cons_append, appGo]
      have hf : fol (lastOf l) badI = 381 ∨ fol (lastOf l) badI = 382 := by
        unfold fol
        cases hq : lastOf l (lineOf badI) with
        | none => exact .inr rfl
        | some v =>
          obtain ⟨s, m⟩ := v
          obtain ⟨x, hx, e⟩ := last_from l _ s m hq
          have h2 := right_stamp (List.all_eq_true.1 h.right x hx)
          left
          simp only
          rw [if_pos (show badI.e.stamp ≤ s by show (0 : Int) ≤ s; omega)]
      rw [if_neg (by rcases hf with e | e <;> rw [e] <;> decide)]
      exact hf
    | cons x r =>
      have hx : x ∈ l := List.mem_of_mem_take (by rw [ht]; exact List.mem_cons_self ..)
      obtain ⟨s, m, hs, hle⟩ := last_ge l _ x h.go hx
      have hs' : lastOf l (lineOf x) = some (s, m) := hs
      have hf : fol (lastOf l) x = 381 := by
        unfold fol
        rw [hs']
        simp only
        rw [if_pos hle]
      simp only [List.cons_append, appGo]
      rw [if_neg (by rw [hf]; decide)]
      exact .inl hf
  unfold appErr
  rw [if_pos hall, if_neg (by rcases hgo with e | e <;> rw [e] <;> decide)]
  exact hgo
theorem whole_app {l : List It} (h : Sound l) (hl : l.length ≤ 65536) : appErr [] l = 0 ∧ app [] l = l := by
  have h1 : appErr [] l = 0 := appErr_sound (by simpa using h) (by simpa using hl)
  exact ⟨h1, by unfold app; rw [if_pos h1]; rfl⟩
theorem parts_app {l : List It} (h : Sound l) (hl : l.length ≤ 65536) (k : Nat) : appErr [] (l.take k) = 0 ∧ app [] (l.take k) = l.take k ∧ appErr (l.take k) (l.drop k) = 0 ∧ app (l.take k) (l.drop k) = l := by
  have h0 : Sound (l.take k ++ l.drop k) := by rw [List.take_append_drop]; exact h
  have h1 := whole_app h0.left (by rw [List.length_take]; omega)
  have h2 : appErr (l.take k) (l.drop k) = 0 := appErr_sound h0 (by rw [List.length_take, List.length_drop]; omega)
  exact ⟨h1.1, h1.2, h2, by unfold app; rw [if_pos h2, List.take_append_drop]⟩
theorem minus_err {its l : List It} {x : It} (h : itemRight (d x.key) x.e = false) : appErr its (l ++ [x]) = 380 := by
  unfold appErr
  rw [if_neg]
  rw [List.all_append, Bool.and_eq_true]
  rintro ⟨_, h2⟩
  simp only [List.all_cons, List.all_nil, Bool.and_true] at h2
  rw [h] at h2
  cases h2
end Go.Proofs.YtmagojckhfkcdaaGreatDoor.Sk
/- Chapter 38, plain facts: the law SinkRules: runs and markers of a line; the open series of a key. -/
namespace Go.Proofs.YtmagojckhfkcdaaGreatDoor.Sk
def hitR (K : ByteArray) (L : List Lab) (x : It) : Bool := decide (x.key = K) && decide (x.e.lab = L)
def lineR (K : ByteArray) (L : List Lab) : Line := (d K, bytesS L)
def stampR (K : ByteArray) (L : List Lab) (l : List It) : Int := match lastOf l (lineR K L) with | none => -1 | some v => v.1
def sampR (K : ByteArray) (L : List Lab) (l : List It) : Bool := match lastOf l (lineR K L) with | none => false | some v => !v.2
def marksR (K : ByteArray) (L : List Lab) (l : List It) : Nat := (l.filter fun x => hitR K L x && x.e.mark).length
def runsR (K : ByteArray) (L : List Lab) (l : List It) : Nat := marksR K L l + if sampR K L l then 1 else 0
theorem data_inj {a b : ByteArray} (h : d a = d b) : a = b := by
  obtain ⟨⟨a⟩⟩ := a
  obtain ⟨⟨b⟩⟩ := b
  simp only [d] at h
  rw [h]
theorem hit_line {K : ByteArray} {L : List Lab} {x : It} (hx : labRight x.e.lab = true) (hL : labRight L = true) : lineOf x = lineR K L ↔ hitR K L x = true := by
  unfold lineOf lineR hitR
  rw [Bool.and_eq_true, decide_eq_true_eq, decide_eq_true_eq, Prod.mk.injEq]
  constructor
  · rintro ⟨h1, h2⟩; exact ⟨data_inj h1, bytesS_inj hx hL h2⟩
  · rintro ⟨h1, h2⟩; rw [h1, h2]; exact ⟨rfl, rfl⟩
theorem lastOf_snoc (l : List It) (x : It) : lastOf (l ++ [x]) = know (lastOf l) x := by unfold lastOf; rw [List.foldl_append]; rfl
theorem sound_fol {l : List It} {x : It} (h : Sound (l ++ [x])) : fol (lastOf l) x = 0 ∧ itemRight (d x.key) x.e = true := by
  have h1 := h.go
  rw [appGo_append] at h1
  have h2 := h.right
  rw [List.all_append, Bool.and_eq_true] at h2
  have h3 : itemRight (d x.key) x.e = true := by simpa using h2.2
  refine ⟨?_, h3⟩
  split at h1
  · have h4 : appGo (lastOf l) [x] = 0 := h1
    unfold appGo at h4
    split at h4
    · assumption
    · exact h4
  · rename_i hn
    exact absurd h1 hn
theorem right_lab' {k : B} {e : Ent} (h : itemRight k e = true) : labRight e.lab = true := by
  unfold itemRight at h
  simp only [Bool.and_eq_true] at h
  exact h.1.1.1.2
theorem rules_no {l : List It} {x : It} {K : ByteArray} {L : List Lab} (hs : Sound (l ++ [x])) (hL : labRight L = true) (h : hitR K L x = false) :
    stampR K L (l ++ [x]) = stampR K L l ∧ sampR K L (l ++ [x]) = sampR K L l ∧ marksR K L (l ++ [x]) = marksR K L l ∧ runsR K L (l ++ [x]) = runsR K L l := by
  have h1 : lineR K L ≠ lineOf x := fun e => by rw [(hit_line (right_lab' (sound_fol hs).2) hL).1 e.symm] at h; cases h
  have h2 : lastOf (l ++ [x]) (lineR K L) = lastOf l (lineR K L) := by rw [lastOf_snoc]; unfold know upd; rw [if_neg h1]
  have h3 : sampR K L (l ++ [x]) = sampR K L l := by unfold sampR; rw [h2]
  have h4 : marksR K L (l ++ [x]) = marksR K L l := by unfold marksR; rw [List.filter_append]; simp [h]
  exact ⟨by unfold stampR; rw [h2], h3, h4, by unfold runsR; rw [h3, h4]⟩
theorem rules_yes {l : List It} {x : It} {K : ByteArray} {L : List Lab} (hs : Sound (l ++ [x])) (hL : labRight L = true) (h : hitR K L x = true) :
    stampR K L l < x.e.stamp ∧ (x.e.mark = true → sampR K L l = true) ∧ stampR K L (l ++ [x]) = x.e.stamp ∧ sampR K L (l ++ [x]) = !x.e.mark ∧ marksR K L (l ++ [x]) = marksR K L l + (if x.e.mark then 1 else 0) ∧
      runsR K L (l ++ [x]) = runsR K L l + (if x.e.mark then 0 else if sampR K L l then 0 else 1) := by
  obtain ⟨hf, hr⟩ := sound_fol hs
  have h1 : lineOf x = lineR K L := (hit_line (right_lab' hr) hL).2 h
  have h2 : lastOf (l ++ [x]) (lineR K L) = some (x.e.stamp, x.e.mark) := by rw [lastOf_snoc]; unfold know upd; rw [if_pos h1.symm]
  have h3 : sampR K L (l ++ [x]) = !x.e.mark := by unfold sampR; rw [h2]
  have h4 : marksR K L (l ++ [x]) = marksR K L l + (if x.e.mark then 1 else 0) := by
    unfold marksR
    rw [List.filter_append, List.length_append]
    cases hm : x.e.mark <;> simp [h, hm]
  have h0 := right_stamp hr
  unfold fol at hf
  rw [h1] at hf
  have h5 : stampR K L l < x.e.stamp ∧ (x.e.mark = true → sampR K L l = true) := by
    unfold stampR sampR
    cases hq : lastOf l (lineR K L) with
    | none =>
      rw [hq] at hf
      simp only at hf ⊢
      refine ⟨by omega, fun hm => ?_⟩
      rw [hm] at hf
      cases hf
    | some v =>
      obtain ⟨s, m⟩ := v
      rw [hq] at hf
      simp only at hf ⊢
      split at hf
      · cases hf
      · refine ⟨by omega, fun hm => ?_⟩
        rw [hm] at hf
        cases m with
        | false => rfl
        | true => simp at hf
  refine ⟨h5.1, h5.2, by unfold stampR; rw [h2], h3, h4, ?_⟩
  unfold runsR
  rw [h3, h4]
  cases hm : x.e.mark with
  | true => rw [h5.2 hm]; simp
  | false => cases sampR K L l <;> simp
theorem marks_le (K : ByteArray) (L : List Lab) (l : List It) : marksR K L l ≤ l.length := List.length_filter_le _ _
/-- the open series of a key in order -/
def openR (K : ByteArray) (l : List It) : List (List Lab) := [serN 2, serN 0, serN 1].filter fun L => sampR K L l
theorem serN_right (n : Int) : labRight (serN n) = true := by
  unfold serN
  split
  · kernel_rfl
  · split
    · kernel_rfl
    · rfl
theorem openR_are {l : List It} {K : ByteArray} (hk : K.size ≤ 1100000) (hl : ∀ x ∈ l, x.e.lab = serN 2 ∨ x.e.lab = serN 0 ∨ x.e.lab = serN 1) : OpenAre (lastOf l) (d K) ((openR K l).map bytesS) := by
  have hp : ([serN 2, serN 0, serN 1].map bytesS).Pairwise (· < ·) := by
    have e : ([serN 2, serN 0, serN 1].map bytesS) = [[], [120, 255, 49, 255], [120, 255, 50, 255]] := by kernel_rfl
    rw [e]
    decide
  refine ⟨hp.sublist ((List.filter_sublist).map _), fun b => ?_⟩
  rw [List.mem_map]
  have key : ∀ L, sampR K L l = true ↔ ∃ s, lastOf l (lineR K L) = some (s, false) := fun L => by
    unfold sampR
    cases hq : lastOf l (lineR K L) with
    | none => simp
    | some v =>
      obtain ⟨s, m⟩ := v
      simp
  constructor
  · rintro ⟨L, hL, rfl⟩
    unfold openR at hL
    rw [List.mem_filter] at hL
    refine ⟨⟨by simpa [d] using (show K.size ≤ 9223372036854775807 by omega), ?_⟩, (key L).1 hL.2⟩
    rcases (by simpa using hL.1 : L = serN 2 ∨ L = serN 0 ∨ L = serN 1) with rfl | rfl | rfl <;> exact of_decide_eq_true (by kernel_rfl)
  · rintro ⟨_, s, hs⟩
    obtain ⟨x, hx, he, _⟩ := last_item l _ _ hs
    have h2 : bytesS x.e.lab = b := congrArg Prod.snd he
    refine ⟨x.e.lab, ?_, h2⟩
    unfold openR
    rw [List.mem_filter]
    refine ⟨by rcases hl x hx with e | e | e <;> rw [e] <;> simp, (key _).2 ⟨s, ?_⟩⟩
    unfold lineR
    rw [h2]
    exact hs
end Go.Proofs.YtmagojckhfkcdaaGreatDoor.Sk
/- Chapter 38, plain facts: the law SinkAlone: the items of one key. -/
namespace Go.Proofs.YtmagojckhfkcdaaGreatDoor.Sk
def ownL (K : ByteArray) (l : List It) : List It := l.filter fun x => decide (x.key = K)
theorem ownL_snoc_yes {K : ByteArray} {l : List It} {x : It} (h : x.key = K) : ownL K (l ++ [x]) = ownL K l ++ [x] := by
  unfold ownL
  rw [List.filter_append]
  simp [h]
theorem ownL_snoc_no {K : ByteArray} {l : List It} {x : It} (h : x.key ≠ K) : ownL K (l ++ [x]) = ownL K l := by
  unfold ownL
  rw [List.filter_append]
  simp [h]
theorem ownL_mem {K : ByteArray} {l : List It} {x : It} : x ∈ ownL K l ↔ x ∈ l ∧ x.key = K := by
  unfold ownL
  rw [List.mem_filter, decide_eq_true_eq]
theorem ownL_le (K : ByteArray) (l : List It) : (ownL K l).length ≤ l.length := List.length_filter_le _ _
theorem last_own (K : ByteArray) (b : B) : ∀ (l : List It) (f g : Line → Last), (∀ b, f (d K, b) = g (d K, b)) → (ownL K l).foldl know f (d K, b) = l.foldl know g (d K, b)
  | [], f, g, h => h b
  | x :: r, f, g, h => by
    by_cases hx : x.key = K
    · have e : ownL K (x :: r) = x :: ownL K r := by unfold ownL; rw [List.filter_cons_of_pos (by simpa using hx)]
      rw [e]
      refine last_own K b r (know f x) (know g x) (fun b' => ?_)
      unfold know upd
      split
      · rfl
      · exact h b'
    · have e : ownL K (x :: r) = ownL K r := by unfold ownL; rw [List.filter_cons_of_neg (by simpa using hx)]
      rw [e]
      refine last_own K b r f (know g x) (fun b' => ?_)
      unfold know upd
      rw [if_neg]
      · exact h b'
      · intro e'
        exact hx (data_inj (congrArg Prod.fst e').symm)
theorem lastOf_own (K : ByteArray) (l : List It) (b : B) : lastOf (ownL K l) (d K, b) = lastOf l (d K, b) := last_own K b l _ _ (fun _ => rfl)
theorem fol_congr {f g : Line → Last} {x : It} (h : f (lineOf x) = g (lineOf x)) : fol f x = fol g x := by unfold fol; rw [h]
theorem sound_own (K : ByteArray) : ∀ (n : Nat) (l : List It), l.length = n → Sound l → Sound (ownL K l)
  | 0, l, hn, _ => by
    obtain rfl := List.eq_nil_of_length_eq_zero hn
    exact Sound.nil
  | n + 1, l, hn, h => by
    obtain ⟨m, x, rfl⟩ : ∃ m x, l = m ++ [x] := ⟨l.dropLast, l.getLast (by intro e; subst e; simp at hn), (List.dropLast_concat_getLast _).symm⟩
    have ih := sound_own K n m (by simpa using hn) h.left
    by_cases hx : x.key = K
    · rw [ownL_snoc_yes hx]
      obtain ⟨hf, hr⟩ := sound_fol h
      refine ⟨by rw [List.all_append, ih.right]; simp [hr], ?_⟩
      rw [appGo_append, if_pos ih.go]
      have e : fol (lastOf (ownL K m)) x = 0 := by
        rw [fol_congr (g := lastOf m) (by unfold lineOf; rw [hx]; exact lastOf_own K m _)]
        exact hf
      show appGo (lastOf (ownL K m)) [x] = 0
      unfold appGo
      rw [if_pos e]
      rfl
    · rw [ownL_snoc_no hx]
      exact ih
theorem own_app {K : ByteArray} {its : List It} (h : Sound its) (hl : its.length ≤ 60000) {k : Nat} {x : It} (hx : its[k]? = some x) (hk : x.key = K) :
    ownL K (its.take (k + 1)) = ownL K (its.take k) ++ [x] ∧ appErr (ownL K (its.take k)) [x] = 0 ∧ app (ownL K (its.take k)) [x] = ownL K (its.take (k + 1)) := by
  have ht : its.take (k + 1) = its.take k ++ [x] := by rw [List.take_add_one, hx]; rfl
  have h1 : Sound (its.take (k + 1)) := by
    have h2 : Sound (its.take (k + 1) ++ its.drop (k + 1)) := by rw [List.take_append_drop]; exact h
    exact h2.left
  have h2 := sound_own K _ _ rfl h1
  have h3 : ownL K (its.take (k + 1)) = ownL K (its.take k) ++ [x] := by rw [ht]; exact ownL_snoc_yes hk
  rw [h3] at h2
  have h4 := appErr_sound h2 (by have := ownL_le K (its.take k); rw [List.length_take] at this; simp; omega)
  exact ⟨h3, h4, by unfold app; rw [if_pos h4, h3]⟩
theorem own_skip {K : ByteArray} {its : List It} {k : Nat} {x : It} (hx : its[k]? = some x) (hk : x.key ≠ K) : ownL K (its.take (k + 1)) = ownL K (its.take k) := by
  rw [show its.take (k + 1) = its.take k ++ [x] by rw [List.take_add_one, hx]; rfl]
  exact ownL_snoc_no hk
theorem keys_ne : kJ ≠ kJ2 ∧ kJ ≠ kK1 ∧ kJ2 ≠ kK1 := by decide
theorem own_sum : ∀ l : List It, (∀ x ∈ l, x.key = kJ ∨ x.key = kJ2 ∨ x.key = kK1) → (ownL kJ l).length + (ownL kJ2 l).length + (ownL kK1 l).length = l.length
  | [], _ => rfl
  | x :: r, h => by
    have ih := own_sum r (fun y hy => h y (List.mem_cons_of_mem _ hy))
    obtain ⟨n1, n2, n3⟩ := keys_ne
    have hx := h x (List.mem_cons_self ..)
    unfold ownL at ih ⊢
    rcases hx with e | e | e
    · rw [List.filter_cons_of_pos (by simpa using e), List.filter_cons_of_neg (by rw [e]; simpa using n1), List.filter_cons_of_neg (by rw [e]; simpa using n2)]
      simp only [List.length_cons]
      omega
    · rw [List.filter_cons_of_neg (by rw [e]; simpa using n1.symm), List.filter_cons_of_pos (by simpa using e), List.filter_cons_of_neg (by rw [e]; simpa using n3)]
      simp only [List.length_cons]
      omega
    · rw [List.filter_cons_of_neg (by rw [e]; simpa using n2.symm), List.filter_cons_of_neg (by rw [e]; simpa using n3.symm), List.filter_cons_of_pos (by simpa using e)]
      simp only [List.length_cons]
      omega
/-- the keys of items in order -/
def namesL (l : List It) : List ByteArray := [kJ, kJ2, kK1].filter fun K => decide (ownL K l ≠ [])
theorem namesL_are {l : List It} (hl : ∀ x ∈ l, (x.key = kJ ∨ x.key = kJ2 ∨ x.key = kK1) ∧ (bytesS x.e.lab).length ≤ 1100000) : KeysAre (lastOf l) ((namesL l).map d) := by
  have hp : ([kJ, kJ2, kK1].map d).Pairwise (· < ·) := by decide
  refine ⟨hp.sublist ((List.filter_sublist).map _), fun k => ?_⟩
  rw [List.mem_map]
  constructor
  · rintro ⟨K, hK, rfl⟩
    unfold namesL at hK
    rw [List.mem_filter, decide_eq_true_eq] at hK
    obtain ⟨x, hx⟩ := List.exists_mem_of_ne_nil _ hK.2
    rw [ownL_mem] at hx
    refine ⟨bytesS x.e.lab, ⟨?_, by have := (hl x hx.1).2; show (bytesS x.e.lab).length ≤ _; omega⟩, ?_⟩
    · show (d K).length ≤ _
      rcases (by simpa using hK.1 : K = kJ ∨ K = kJ2 ∨ K = kK1) with rfl | rfl | rfl <;> decide
    · have := last_some l (fun _ => none) x hx.1
      unfold lineOf at this
      rw [hx.2] at this
      exact this
  · rintro ⟨b, _, hs⟩
    cases hq : lastOf l (k, b) with
    | none => rw [hq] at hs; cases hs
    | some v =>
      obtain ⟨x, hx, he, _⟩ := last_item l _ _ hq
      have h2 : d x.key = k := congrArg Prod.fst he
      refine ⟨x.key, ?_, h2⟩
      unfold namesL
      rw [List.mem_filter, decide_eq_true_eq]
      refine ⟨by rcases (hl x hx).1 with e | e | e <;> rw [e] <;> simp, List.ne_nil_of_mem (ownL_mem.2 ⟨hx, rfl⟩)⟩
/-- what is filled has one of three keys and one of three series -/
theorem fillS_small {l : List Sm} {st : Int} : ∀ y ∈ fillS [] st l, (y.key = kJ ∨ y.key = kJ2 ∨ y.key = kK1) ∧ (y.e.lab = serN 2 ∨ y.e.lab = serN 0 ∨ y.e.lab = serN 1) := by
  intro y hy
  rcases fillS_mem _ _ _ y hy with h | ⟨x, hx, st', rfl, _⟩
  · cases h
  · refine ⟨?_, ?_⟩
    · show keyN (x.key % 3) = kJ ∨ keyN (x.key % 3) = kJ2 ∨ keyN (x.key % 3) = kK1
      unfold keyN
      split
      · exact .inl rfl
      · split
        · exact .inr (.inl rfl)
        · exact .inr (.inr rfl)
    · show serN (x.ser % 3) = serN 2 ∨ serN (x.ser % 3) = serN 0 ∨ serN (x.ser % 3) = serN 1
      have h1 := Int.emod_nonneg x.ser (show (3 : Int) ≠ 0 by decide)
      have h2 := Int.emod_lt_of_pos x.ser (show (0 : Int) < 3 by decide)
      rcases (show x.ser % 3 = 0 ∨ x.ser % 3 = 1 ∨ x.ser % 3 = 2 by omega) with e | e | e <;> rw [e]
      · exact .inr (.inl rfl)
      · exact .inr (.inr rfl)
      · exact .inl rfl
end Go.Proofs.YtmagojckhfkcdaaGreatDoor.Sk
/- Chapter 38's sink: From, All: the labels that they give are new. -/
namespace Go.Proofs.YtmagojckhfkcdaaGreatDoor.Sk
open Go Go.RowKit
/-- a block of labels from B on, that may be written -/
def LZ (B : Nat) (w : World) (a : Option Addr) (c : Nat) : Prop := ∀ q, a = some q → B ≤ q.block ∧ q.off = 0 ∧ q.spot = none ∧ ∃ cur : Array Value, w.heap[q.block]? = some (.cells cur 66 (0, 0)) ∧ cur.size = c * 2 ∧ c ≤ 9223372036854775807
theorem LZ.fr {X : Nat → Prop} {B c : Nat} {w w' : World} {a : Option Addr} (h : LZ B w a c) (hf : Fr X w w') (hx : ∀ b, isT w b 66 → ¬ X b) : LZ B w' a c := fun q e => by
  obtain ⟨h1, h2, h3, cur, hh, hz⟩ := h q e
  exact ⟨h1, h2, h3, cur, (hf.block _ (isT_of hh).lt (hx _ (isT_of hh))).trans hh, hz⟩
theorem LZ.below {B c : Nat} {w w' : World} {a : Option Addr} (h : LZ B w a c) (hb : Below w.heap.size w w') : LZ B w' a c := fun q e => by
  obtain ⟨h1, h2, h3, cur, hh, hz⟩ := h q e
  exact ⟨h1, h2, h3, cur, (hb.block _ (isT_of hh).lt).trans hh, hz⟩
theorem LZ.mono {B C c : Nat} {w : World} {a : Option Addr} (h : LZ C w a c) (hB : B ≤ C) : LZ B w a c := fun q e => by
  obtain ⟨h1, h2⟩ := h q e
  exact ⟨Nat.le_trans hB h1, h2⟩
theorem LZ.of_own {w : World} {base n cap k : Nat} {a : Option Addr} {xs : List Value} (h : w.ownsRow base 66 2 (.slice a n cap) k xs) : LZ base w a cap := fun q e => by
  rcases h.2 with ⟨hv, h0⟩ | ⟨g, cap', cur, hv, hb, hg, _, hm, hz, _⟩
  · rw [e] at hv; cases hv
  · rw [e] at hv; cases hv
    exact ⟨hb, rfl, rfl, cur, hg, hz, hm⟩
/-- labels behind an address that the call made -/
structure LlF (B : Nat) (w : World) (a : Option Addr) (cap : Nat) (l : List Lab) : Prop where
  ll : Ll w a cap l
  lz : LZ B w a cap
theorem LlF.fr {X : Nat → Prop} {B : Nat} {w w' : World} {a : Option Addr} {cap : Nat} {l : List Lab} (h : LlF B w a cap l) (hf : Fr X w w') (hx : ∀ b, isT w b 66 → ¬ X b) : LlF B w' a cap l := ⟨h.ll.fr hf hx, h.lz.fr hf hx⟩
theorem LlF.below {B : Nat} {w w' : World} {a : Option Addr} {cap : Nat} {l : List Lab} (h : LlF B w a cap l) (hb : Below w.heap.size w w') (_ : w.heap.size ≤ w.heap.size) : LlF B w' a cap l := ⟨h.ll.below hb (Nat.le_refl _), h.lz.below hb⟩
theorem LlF.le {B : Nat} {w : World} {a : Option Addr} {cap : Nat} {l : List Lab} (h : LlF B w a cap l) : l.length ≤ cap := by
  rcases Nat.eq_zero_or_pos l.length with h0 | h0
  · omega
  · obtain ⟨b, off, e, _, hc⟩ := h.ll.rd (by intro e; subst e; simp at h0)
    obtain ⟨_, h2, _, cur, h4, h5, _⟩ := h.lz _ e
    dsimp only at h2 h4
    subst h2
    have hx : l[l.length - 1]? = some (l[l.length - 1]'(by omega)) := List.getElem?_eq_getElem (by omega)
    have hcell := (hc _ _ hx).2
    simp only [World.cell?, h4] at hcell
    have := (Array.getElem?_eq_some_iff.1 hcell).1
    omega
theorem LlF.mono {B C : Nat} {w : World} {a : Option Addr} {cap : Nat} {l : List Lab} (h : LlF C w a cap l) (hB : B ≤ C) : LlF B w a cap l := ⟨h.ll, h.lz.mono hB⟩
theorem llF_grown {B : Nat} {W w' : World} {base k : Nat} {v : Value} {xs : List Value} {T : TypeId} {size : Nat} (hown : W.ownsRow base T size v k xs) (hT : 66 ≠ T) (hg : W.grownBy w' v.ownBlock) {a : Option Addr} {c : Nat} {m : List Lab} (hl : LlF B W a c m) : LlF B w' a c m :=
  hl.fr (fr_grown (X := fun k => v.ownBlock = some k) hg (fun _ hk => hk)) (fun _ hb e => hb.ne (own_isT hown e) hT rfl)
set_option maxRecDepth 100000 in
theorem copied_callsF (x : SI) (w : World) (h : Ll w x.la x.lc x.e.lab) (hn : x.e.lab.length ≤ 1000000000) :
    Calls Tryz.prog 35 #[.agg #[.string x.key, .slice x.la x.e.lab.length x.lc, .bool x.e.mark, .int .u64 x.e.bits, .bool x.e.st, .int .i64 x.e.time, .int .i64 x.e.stamp]] w
      fun e w' => ∃ a c, e = .returned (.agg #[.string x.key, .slice a x.e.lab.length c, .bool x.e.mark, .int .u64 x.e.bits, .bool x.e.st, .int .i64 x.e.time, .int .i64 x.e.stamp]) ∧ LlF w.heap.size w' a c x.e.lab ∧ Below w.heap.size w w' := by
  go_enter Tryz.func35, Tryz.ntmps35
  go_wp2_with fail
  go_at_call 65
  refine (cloneL_calls x.la x.lc x.e.lab _ (h.rd.below (((Below.refl _ _).alloc (Nat.le_refl _) _).alloc (by simp) _) (Nat.le_refl _)) h.nil hn).mono ?_
  rintro e w1 ⟨v, rfl, hown, hb1⟩
  obtain ⟨a, c, rfl⟩ := own_form hown
  have dd : ∀ i v, (#[Value.string x.key, .slice x.la x.e.lab.length x.lc, .bool x.e.mark, .int .u64 x.e.bits, .bool x.e.st, .int .i64 x.e.time, .int .i64 x.e.stamp] : Array Value)[i]? = some v → w1.cell? ⟨w.heap.size, i, none⟩ = some v := fun i v hv => by
    rw [hb1.cell (p := ⟨w.heap.size, i, none⟩) (by simp; omega), World.cell?_alloc_lt _ _ _ (by simp)]
    exact new_cell _ _ _ _ _ hv
  have dz : ∀ i v, (#[Value.string ⟨#[]⟩, .slice none 0 0, .bool false, .int .u64 0, .bool false, .int .i64 0, .int .i64 0] : Array Value)[i]? = some v → w1.cell? ⟨w.heap.size + 1, i, none⟩ = some v := fun i v hv => by
    rw [hb1.cell (p := ⟨w.heap.size + 1, i, none⟩) (by simp)]
    have := new_cell (w.alloc (.cells #[.string x.key, .slice x.la x.e.lab.length x.lc, .bool x.e.mark, .int .u64 x.e.bits, .bool x.e.st, .int .i64 x.e.time, .int .i64 x.e.stamp] 40)) _ 40 i v hv
    simpa using this
  have ff : ∀ b i, b = w.heap.size ∨ b = w.heap.size + 1 → w1.frozen? ⟨b, i, none⟩ = false := fun b i hb => by
    rw [hb1.frozen (p := ⟨b, i, none⟩) (by simp; omega)]
    rcases hb with rfl | rfl
    · rw [World.frozen?_alloc_past _ _ _ (by simp)]
      exact new_frozN _ _ _ 0 _
    · simp
  have hT : ∀ b, b = w.heap.size ∨ b = w.heap.size + 1 → isT w1 b 40 := fun b hb => by
    rcases hb with rfl | rfl
    · exact ⟨_, _, ((hb1.block _ (by simp; omega)).trans (Below.heap_alloc _ _ _ (by simp))).trans (heap_alloc_new w _)⟩
    · have := heap_alloc_new (w.alloc (.cells #[.string x.key, .slice x.la x.e.lab.length x.lc, .bool x.e.mark, .int .u64 x.e.bits, .bool x.e.st, .int .i64 x.e.time, .int .i64 x.e.stamp] 40)) (.cells #[.string ⟨#[]⟩, .slice none 0 0, .bool false, .int .u64 0, .bool false, .int .i64 0, .int .i64 0] 40)
      exact ⟨_, _, (hb1.block _ (by simp)).trans (by simpa using this)⟩
  have HT := Lib.hid hT
  have e0 := dd 0 _ rfl
  have e1 := dd 1 _ rfl
  have e2 := dd 2 _ rfl
  have e3 := dd 3 _ rfl
  have e4 := dd 4 _ rfl
  have e5 := dd 5 _ rfl
  have e6 := dd 6 _ rfl
  have z0 := dz 0 _ rfl
  have z1 := dz 1 _ rfl
  have z2 := dz 2 _ rfl
  have z3 := dz 3 _ rfl
  have z4 := dz 4 _ rfl
  have z5 := dz 5 _ rfl
  have z6 := dz 6 _ rfl
  have g1 := ff _ 1 (.inl rfl)
  have q0 := ff _ 0 (.inr rfl)
  have q1 := ff _ 1 (.inr rfl)
  have q2 := ff _ 2 (.inr rfl)
  have q3 := ff _ 3 (.inr rfl)
  have q4 := ff _ 4 (.inr rfl)
  have q5 := ff _ 5 (.inr rfl)
  have q6 := ff _ 6 (.inr rfl)
  have hz1 : w.heap.size + 1 < w1.heap.size := by have := hb1.size; simp at this; omega
  have HL := Lib.hid (show LlF w.heap.size w1 a c x.e.lab from ⟨Ll.of_own hown, (LZ.of_own hown).mono (by simp; omega)⟩)
  have HB1 : Hid (Below w.heap.size w w1) := Lib.hid ((((Below.refl _ _).alloc (Nat.le_refl _) _).alloc (by simp) _).trans (hb1.mono (by simp; omega)))
  clear hown hb1 dd dz ff h hT
  go_wp2
  refine bodyPost_ret (v := .agg #[.string x.key, .slice a x.e.lab.length c, .bool x.e.mark, .int .u64 x.e.bits, .bool x.e.st, .int .i64 x.e.time, .int .i64 x.e.stamp]) (by simp [results, Tryz.results35, go_sem, z0, z1, z2, z3, z4, z5, z6]) rfl ⟨a, c, rfl, ?_, ?_⟩
  · refine HL.out.fr (X := fun k => k = w.heap.size ∨ k = w.heap.size + 1) ?_ (fun b hb hx => (hb.ne (HT.out b hx) (by decide)) rfl)
    iterate 8 (refine Fr.setCell ?_ (by first | exact .inl rfl | exact .inr rfl) _)
    exact Fr.refl _ _
  · iterate 8 (refine Below.setCell ?_ (by simp only; omega) _)
    exact HB1.out
/-- what a call gives that makes items of its own -/
def OutF (w : World) (its : List It) (e : Ending) (w' : World) : Prop :=
  ∃ a c lo, e = .returned (.slice a (List.length lo) c) ∧ w'.ownsRow w.heap.size 40 7 (.slice a lo.length c) lo.length (iFlat lo) ∧ (∀ x ∈ lo, LlF w.heap.size w' x.la x.lc x.e.lab) ∧ lo.map SI.it = its ∧ Below w.heap.size w w'
def FrInvF (w : World) (l : List SI) (out i : Value) (wr : World) : Prop :=
  ∃ (k : Nat) (lo : List SI), k ≤ l.length ∧ i = .int .i64 k ∧ wr.ownsRow w.heap.size 40 7 out lo.length (iFlat lo) ∧ (∀ x ∈ lo, LlF w.heap.size wr x.la x.lc x.e.lab) ∧ lo.map SI.it = (l.take k).map SI.it ∧ Below w.heap.size w wr
theorem FrInvF.step {w wr w5 w6 : World} {l lo : List SI} {k : Nat} {x : SI} {a5 : Option Addr} {c5 : Nat} {o o' : Obj} {out out' : Value} (hx : l[k]? = some x) (hown : wr.ownsRow w.heap.size 40 7 out lo.length (iFlat lo)) (hl : ∀ x ∈ lo, LlF w.heap.size wr x.la x.lc x.e.lab) (hm : lo.map SI.it = (l.take k).map SI.it) (hb : Below w.heap.size w wr)
    (hb5 : Below (wr.alloc o).heap.size (wr.alloc o) w5) (hl5 : LlF w.heap.size w5 a5 c5 x.e.lab) (hown' : w6.ownsRow w.heap.size 40 7 out' (lo.length + 1) (iFlat lo ++ iB ⟨x.key, a5, c5, x.e⟩)) (hg : (w5.alloc o').grownBy w6 out.ownBlock) : FrInvF w l out' (.int .i64 ((k + 1 : Nat) : Int)) w6 := by
  have hb1 : Below wr.heap.size wr w5 := ((Below.refl _ _).alloc (Nat.le_refl _) o).trans (hb5.mono (by simp))
  have hb2 : Below wr.heap.size wr (w5.alloc o') := hb1.alloc hb1.size o'
  have hown2 : (w5.alloc o').ownsRow w.heap.size 40 7 out lo.length (iFlat lo) := own_fr hown (X := fun k => wr.heap.size ≤ k) (Fr.of_below hb2) (fun k hk => by have := (own_isT hown hk).lt; omega)
  have hbw := hb.size
  refine ⟨k + 1, lo ++ [⟨x.key, a5, c5, x.e⟩], by have := (List.getElem?_eq_some_iff.1 hx).1; omega, rfl, ?_, ?_, ?_, ?_⟩
  · rw [iFlat_append]
    simpa [iFlat] using hown'
  · intro y hy
    rcases List.mem_append.1 hy with hy | hy
    · exact llF_grown hown2 (by decide) hg ((hl y hy).below hb2 (Nat.le_refl _))
    · obtain rfl : y = _ := by simpa using hy
      exact llF_grown hown2 (by decide) hg (hl5.below ((Below.refl _ _).alloc (Nat.le_refl _) o') (Nat.le_refl _))
  · rw [List.map_append, hm, List.take_add_one, hx, List.map_append]
    rfl
  · have h2 : Below w.heap.size w (w5.alloc o') := hb.trans (hb2.mono hbw)
    exact below_own h2 h2.size hown2 hg
set_option maxRecDepth 100000 in
set_option maxHeartbeats 2000000 in
theorem from_someF (n : Nat) (w : World) {p base mb n' : Nat} {v : Value} {l : List SI} (h : SinkAt w p base mb n' v l) (hn : n < l.length) :
    Calls Tryz.prog 40 #[.pointer (some ⟨p, 0, none⟩), .int .i64 (n : Int)] w (OutF w ((l.drop n).map SI.it)) := by
  have c1 : w.cell? ⟨p, 1, none⟩ = some (.map (some mb)) := by simp [World.cell?, h.cells]
  have c0 : w.cell? ⟨p, 0, none⟩ = some v := by simp [World.cell?, h.cells]
  obtain ⟨va, vc, rfl⟩ := own_form h.own
  obtain ⟨g, rfl, hg1, hg2, hg3⟩ := own_at0 h.own (iFlat_ne (by intro e; subst e; simp at hn))
  have hrd : RdI w (some ⟨g, 0 + n * 7, none⟩) (l.drop n) := (RdI.of_own h.own h.lab).drop n
  rw [Nat.zero_add] at hrd
  have hok : ∀ x ∈ l.drop n, x.e.lab.length ≤ 1000000000 := fun x hx => by
    have := (labRight_ok (right_lab (h.ok x (List.mem_of_mem_drop hx)).1)).1
    omega
  have hcap : l.length ≤ vc := by
    rcases h.own.2 with ⟨_, h0⟩ | ⟨g', cap', cur, hv, _, _, h1, _⟩
    · omega
    · cases hv; exact h1
  have hle := h.len
  obtain ⟨m, hm⟩ : ∃ m, m = (l.drop n).length := ⟨_, rfl⟩
  have hml : m = l.length - n := by rw [hm, List.length_drop]
  have hvc : ¬ (vc = n) := by omega
  have hvm : vc ≤ 9223372036854775807 := by
    rcases h.own.2 with ⟨_, h0⟩ | ⟨g', cap', cur, hv, _, _, _, h2, _⟩
    · omega
    · cases hv; unfold maxLen at h2; omega
  have hn0 : decide ((n : Int) < 0) = false := by simp
  have hn1 : decide (l.length < n) = false := by simp; omega
  have HOK := Lib.hid (And.intro hok hrd)
  have HM := Lib.hid hm
  clear h hok hg1 hg2 hg3 hrd hm
  go_enter Tryz.func40, Tryz.ntmps40
  go_wp2_with fail
  go_at_call 30
  refine (none_cell _ (mb := mb) c1).mono ?_
  rintro e w1 ⟨rfl, rfl⟩
  go_wp2_with fail
  go_loopw [5, 30] (fun out i wr => FrInvF w (l.drop n) out i wr) (fun _ i _ => (l.length - n) - (intOf i).toNat)
  case atStart => exact ⟨0, [], Nat.zero_le _, rfl, World.ownsRow_nil _ _ _ _, (fun x hx => by cases hx), rfl, Below.refl _ _⟩
  case round =>
    obtain ⟨k, lo, hk, rfl, hown, hll, hm, hb⟩ := hrel
    rw [← HM.out, hml] at hk
    have hbs := hb.size
    have HB := Lib.hid hb
    have HO := Lib.hid (And.intro hown (And.intro hll hm))
    have hlo : lo.length ≤ 65536 := by
      have := congrArg List.length hm
      rw [List.length_map, List.length_map, List.length_take] at this
      omega
    clear hown hll hm hb
    by_cases hlt : k < l.length - n
    · obtain ⟨x, hx⟩ : ∃ x, (l.drop n)[k]? = some x := ⟨_, List.getElem?_eq_getElem (by rw [List.length_drop]; exact hlt)⟩
      obtain ⟨b, off, e, hbl, ht, hc⟩ := (HOK.out.2.below HB.out (Nat.le_refl _)).at_ hx
      cases e
      have hxm := List.mem_of_getElem? hx
      have HX := Lib.hid (And.intro hx (And.intro (HOK.out.1 x hxm) ((HOK.out.2.lab x hxm).below HB.out (Nat.le_refl _))))
      have c0 := hc 0 _ rfl
      rw [Nat.add_zero] at c0
      have c1 := hc 1 _ rfl
      have c2 := hc 2 _ rfl
      have c3 := hc 3 _ rfl
      have c4 := hc 4 _ rfl
      have c5 := hc 5 _ rfl
      have c6 := hc 6 _ rfl
      obtain ⟨w0, hw0⟩ : ∃ q, q = wr := ⟨_, rfl⟩
      subst hw0
      clear hc hx hxm ht
      go_wp2_with fail
      go_at_call 35
      refine (copied_callsF x _ (HX.out.2.2.below ((Below.refl _ _).alloc (Nat.le_refl _) _) (Nat.le_refl _)) HX.out.2.1).mono ?_
      rintro e w5 ⟨a5, c5', rfl, hl5, hb5⟩
      have hb05 : Below w0.heap.size w0 w5 := ((Below.refl _ _).alloc (Nat.le_refl _) _).trans (hb5.mono (by simp))
      have HO5 : Hid (w5.ownsRow w.heap.size 40 7 u5 lo.length (iFlat lo)) := Lib.hid (own_fr HO.out.1 (X := fun k => w0.heap.size ≤ k) (Fr.of_below hb05) (fun k hk => by have := (own_isT HO.out.1 hk).lt; omega))
      have hs5 := hb05.size
      have H5 := Lib.hid (And.intro hb5 (hl5.mono (B := w.heap.size) (by have h1 := hbs; simp; omega)))
      clear hb5 hl5 hb05 c0 c1 c2 c3 c4 c5 c6
      go_wp2_with (at_builtin; refine wpList_app rfl _ _ 28 40 7 80 _ rfl Tryz.underlying28 Tryz.info40 rfl (by decide) (by decide) w.heap.size _ lo.length (iFlat lo) rfl (HO5.out.alloc _) ⟨w5.heap.size, 0, none⟩ 1 1 (iB ⟨x.key, a5, c5', x.e⟩) rfl rfl (cells_new w5 #[.string x.key, .slice a5 x.e.lab.length c5', .bool x.e.mark, .int .u64 x.e.bits, .bool x.e.st, .int .i64 x.e.time, .int .i64 x.e.stamp] _ _ rfl) (by intro u hu; simp [iB] at hu; rcases hu with rfl | rfl | rfl | rfl | rfl | rfl | rfl <;> rfl) (by omega) (by simp; omega) ?_; intro v6 w6 hown6 hgrow6 _ _; have H6 := Lib.hid (And.intro hown6 hgrow6); clear hown6 hgrow6)
      go_roundw
      case rel => exact FrInvF.step HX.out.1 HO.out.1 HO.out.2.1 HO.out.2.2 HB.out H5.out.1 H5.out.2 H6.out.1 H6.out.2
      case measure => simp [intOf]; omega
    · obtain rfl : k = l.length - n := by omega
      have hm2 := HO.out.2.2
      rw [List.take_of_length_le (by simp)] at hm2
      have HM2 := Lib.hid hm2
      clear hm2
      obtain ⟨ao, co, rfl⟩ := own_form HO.out.1
      go_wp2
      go_ret
      exact ⟨ao, co, lo, rfl, HO.out.1, HO.out.2.1, HM2.out, HB.out⟩
theorem OutI.toF {w w' : World} {e : Ending} (h : OutI w [] e w') : OutF w [] e w' := by
  obtain ⟨a, c, lo, h1, h2, h3, h4, h5⟩ := h
  have h0 : lo = [] := List.map_eq_nil_iff.1 h4
  subst h0
  exact ⟨a, c, [], h1, h2, (fun x hx => by cases hx), rfl, h5⟩
theorem from_callsF (i : Int) (w : World) {p base mb n' : Nat} {v : Value} {l : List SI} (h : SinkAt w p base mb n' v l) :
    Calls Tryz.prog 40 #[.pointer (some ⟨p, 0, none⟩), .int .i64 i] w (OutF w (fromS (l.map SI.it) i)) := by
  by_cases hi : 0 ≤ i ∧ i < l.length
  · obtain ⟨n, rfl⟩ := Int.eq_ofNat_of_zero_le hi.1
    have : fromS (l.map SI.it) (n : Int) = (l.drop n).map SI.it := by
      unfold fromS
      rw [List.length_map, if_pos ⟨hi.1, by omega⟩, show (n : Int).toNat = n from rfl, ← List.map_drop]
    rw [this]
    exact from_someF n w h (by omega)
  · have : fromS (l.map SI.it) i = [] := by
      unfold fromS
      rw [List.length_map]
      split
      · exact List.drop_of_length_le (by simp; omega)
      · rfl
    have hf := from_calls i w h
    rw [this] at hf ⊢
    exact hf.mono fun _ _ h => OutI.toF h
set_option maxRecDepth 100000 in
theorem all_callsF (w : World) {p base mb n' : Nat} {v : Value} {l : List SI} (h : SinkAt w p base mb n' v l) :
    Calls Tryz.prog 13 #[.pointer (some ⟨p, 0, none⟩)] w (OutF w (l.map SI.it)) := by
  have hf := from_callsF 0 w h
  rw [show fromS (l.map SI.it) 0 = l.map SI.it by unfold fromS; rw [if_pos ⟨by decide, by omega⟩]; rfl] at hf
  have HF := Lib.hid hf
  clear hf h
  go_enter Tryz.func13, Tryz.ntmps13
  go_wp2_with fail
  go_at_call 40
  refine HF.out.mono ?_
  rintro e w1 ⟨a, c, lo, rfl, hown, hl, hm, hb⟩
  have H := Lib.hid (And.intro hown (And.intro hl (And.intro hm hb)))
  clear hown hl hm hb
  go_wp2
  go_ret
  exact ⟨a, c, lo, rfl, H.out⟩
end Go.Proofs.YtmagojckhfkcdaaGreatDoor.Sk
