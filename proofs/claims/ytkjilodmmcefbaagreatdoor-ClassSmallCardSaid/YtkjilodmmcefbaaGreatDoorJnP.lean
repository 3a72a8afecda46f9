/- Plain facts on the reference's join: what is put together between sorted borders is the right set of the points that are wanted. -/
import Derived.Test.YtkjilodmmcefbaaGreatDoorRefB
namespace Go.Proofs.YtkjilodmmcefbaaGreatDoor.Rs
def jcond (o t b n x y : Bool) : Bool := x && !y && o || !x && y && t || x && y && b || !x && !y && n
def jf (l m : S) (o t b n : Bool) (c : Int) : Bool := pt c && jcond o t b n (mem c l) (mem c m)
def jacc (acc : S) (x y : Int) : S :=
  match acc with
  | q :: s => if q.2 = x - 1 then (q.1, y - 1) :: s else (x, y - 1) :: q :: s
  | [] => [(x, y - 1)]
def jstep (f : Int → Bool) (acc : S) (x y : Int) : S := if x = y then acc else if f x then jacc acc x y else acc
def jto (f : Int → Bool) (D : List Int) : Nat → S
  | 0 => []
  | i + 1 => jstep f (jto f D i) (at' D i) (at' D (i + 1))
theorem jto_len (f : Int → Bool) (D : List Int) : ∀ i, (jto f D i).length ≤ i
  | 0 => by simp [jto]
  | i + 1 => by
    have h := jto_len f D i
    simp only [jto, jstep]
    split
    · omega
    · split
      · unfold jacc
        split
        · rename_i q s e
          rw [e] at h
          split <;> simp only [List.length_cons] at h ⊢ <;> omega
        · simp
      · omega
structure JI (f : Int → Bool) (acc : S) (e : Int) : Prop where
  rr : RR acc
  hd : ∀ q t, acc = q :: t → q.2 < e
  mem : ∀ c, mem c acc = (decide (c < e) && f c)
theorem ji_step {f : Int → Bool} {acc : S} {x y : Int} (hf : ∀ c, f c = true → pt c = true) (h : JI f acc x) (hxy : x ≤ y) (hc : ∀ c, x ≤ c → c < y → f c = f x) : JI f (jstep f acc x y) y := by
  unfold jstep
  by_cases he : x = y
  · rw [if_pos he]
    subst he
    exact h
  · rw [if_neg he]
    have hlt : x < y := by omega
    cases hx : f x
    · simp only [Bool.false_eq_true, if_false]
      refine ⟨h.rr, fun q t e => by have := h.hd q t e; omega, fun c => ?_⟩
      rw [h.mem]
      by_cases h1 : c < x
      · simp [h1, show c < y by omega]
      · by_cases h2 : c < y
        · have := hc c (by omega) h2
          rw [hx] at this
          simp [this]
        · simp [h1, h2]
    · simp only [if_true]
      have px := (pt_iff x).1 (hf x hx)
      have py := (pt_iff (y - 1)).1 (hf (y - 1) (by rw [hc (y - 1) (by omega) (by omega), hx]))
      have hsame : ¬ (x ≤ 55295 ∧ 57344 ≤ y - 1) := by
        intro hh
        have h1 := hc 55296 (by omega) (by omega)
        rw [hx] at h1
        have := (pt_iff _).1 (hf _ h1)
        omega
      have hseg : ∀ c, (decide (c < y) && f c) = ((decide (c < x) && f c) || inR c (x, y - 1)) := by
        intro c
        rw [Bool.eq_iff_iff, Bool.or_eq_true, Bool.and_eq_true, Bool.and_eq_true, decide_eq_true_eq, decide_eq_true_eq, inR_iff]
        constructor
        · rintro ⟨h1, h2⟩
          by_cases h3 : c < x
          · exact .inl ⟨h3, h2⟩
          · exact .inr ⟨by simp only; omega, by simp only; omega⟩
        · rintro (⟨h1, h2⟩ | ⟨h1, h2⟩)
          · exact ⟨by omega, h2⟩
          · simp only at h1 h2
            exact ⟨by omega, by rw [hc c h1 (by omega), hx]⟩
      unfold jacc
      cases acc with
      | nil =>
        refine ⟨?_, fun q t e => ?_, fun c => ?_⟩
        · show okR (x, y - 1) = true
          rw [okR_iff]; simp only; omega
        · cases e; simp only; omega
        · rw [hseg, ← h.mem, mem_cons, mem_nil]; simp
      | cons q s =>
        have hq := h.hd q s rfl
        have hqo := (okR_iff q).1 h.rr.ok
        simp only
        split
        · rename_i hm
          refine ⟨?_, fun q' t e => ?_, fun c => ?_⟩
          · have hok : okR (q.1, y - 1) = true := by rw [okR_iff]; simp only; omega
            have hrr := h.rr
            cases s with
            | nil => exact hok
            | cons q2 s => exact ⟨hok, hrr.2.1, hrr.2.2⟩
          · cases e; simp only; omega
          · rw [hseg, ← h.mem, mem_cons, mem_cons]
            have : inR c (q.1, y - 1) = (inR c q || inR c (x, y - 1)) := by
              rw [Bool.eq_iff_iff, Bool.or_eq_true, inR_iff, inR_iff, inR_iff]
              simp only
              omega
            rw [this]
            cases inR c q <;> cases mem c s <;> cases inR c (x, y - 1) <;> rfl
        · rename_i hm
          refine ⟨?_, fun q' t e => ?_, fun c => ?_⟩
          · exact ⟨by rw [okR_iff]; simp only; omega, by simp only; omega, h.rr⟩
          · cases e; simp only; omega
          · rw [hseg, ← h.mem, mem_cons, Bool.or_comm]
theorem srt_at {D : List Int} (h : D.Pairwise (· ≤ ·)) {p q : Nat} (hpq : p < q) (hq : q < D.length) : at' D p ≤ at' D q := by
  have := List.pairwise_iff_getElem.1 h p q (by omega) hq hpq
  simpa [at', List.getD, List.getElem?_eq_getElem hq, List.getElem?_eq_getElem (show p < D.length by omega)] using this
theorem at_mem {D : List Int} {β : Int} (h : β ∈ D) : ∃ j, j < D.length ∧ at' D j = β := by
  obtain ⟨j, hj⟩ := List.getElem?_of_mem h
  exact ⟨j, (List.getElem?_eq_some_iff.1 hj).1, by simp [at', List.getD, hj]⟩
theorem bds_mem {l : S} {r : R} (h : r ∈ l) : r.1 ∈ bds l ∧ r.2 + 1 ∈ bds l := by
  unfold bds
  exact ⟨List.mem_flatMap.2 ⟨r, h, by simp⟩, List.mem_flatMap.2 ⟨r, h, by simp⟩⟩
theorem mem_const {l : S} {x y c : Int} (h : ∀ β ∈ bds l, β ≤ x ∨ y ≤ β) (h1 : x ≤ c) (h2 : c < y) : mem c l = mem x l := by
  rw [Bool.eq_iff_iff, mem_iff, mem_iff]
  constructor
  · rintro ⟨r, hr, a, b⟩
    obtain ⟨m1, m2⟩ := bds_mem hr
    have := h _ m1
    have := h _ m2
    exact ⟨r, hr, by omega, by omega⟩
  · rintro ⟨r, hr, a, b⟩
    obtain ⟨m1, m2⟩ := bds_mem hr
    have := h _ m1
    have := h _ m2
    exact ⟨r, hr, by omega, by omega⟩
theorem jf_pt {l m : S} {o t b n : Bool} {c : Int} (h : jf l m o t b n c = true) : pt c = true := by
  unfold jf at h
  rw [Bool.and_eq_true] at h
  exact h.1
/-- what is put together between all borders -/
theorem jto_ji {l m : S} {o t b n : Bool} {D : List Int} (hs : D.Pairwise (· ≤ ·)) (hp : D.Perm ([0, 55296, 57344, 1114112] ++ bds l ++ bds m)) : ∀ i, i < D.length → JI (jf l m o t b n) (jto (jf l m o t b n) D i) (at' D i)
  | 0, hi => by
    refine ⟨trivial, fun q t e => by simp [jto] at e, fun c => ?_⟩
    obtain ⟨j, hj, h0⟩ := at_mem (hp.mem_iff.2 (by simp : (0 : Int) ∈ [0, 55296, 57344, 1114112] ++ bds l ++ bds m))
    have hle : at' D 0 ≤ 0 := by
      rcases Nat.eq_zero_or_pos j with e | e
      · subst e; omega
      · have := srt_at hs e hj; omega
    simp only [jto, mem_nil]
    cases hf : jf l m o t b n c
    · simp
    · have := (pt_iff c).1 (jf_pt hf)
      simp; omega
  | i + 1, hi => by
    have ih := jto_ji (o := o) (t := t) (b := b) (n := n) hs hp i (by omega)
    have hxy := srt_at hs (show i < i + 1 by omega) hi
    simp only [jto]
    refine ji_step (fun c => jf_pt) ih hxy (fun c h1 h2 => ?_)
    have hbt : ∀ β ∈ D, β ≤ at' D i ∨ at' D (i + 1) ≤ β := by
      intro β hβ
      obtain ⟨j, hj, rfl⟩ := at_mem hβ
      rcases (show j < i ∨ j = i ∨ j = i + 1 ∨ i + 1 < j by omega) with e | e | e | e
      · exact .inl (srt_at hs e (by omega))
      · subst e; exact .inl (Int.le_refl _)
      · subst e; exact .inr (Int.le_refl _)
      · exact .inr (srt_at hs e hj)
    have hin : ∀ β ∈ [0, 55296, 57344, 1114112] ++ bds l ++ bds m, β ≤ at' D i ∨ at' D (i + 1) ≤ β := fun β hβ => hbt β (hp.mem_iff.2 hβ)
    have hl := mem_const (l := l) (fun β hβ => hin β (by simp [hβ])) h1 h2
    have hm := mem_const (l := m) (fun β hβ => hin β (by simp [hβ])) h1 h2
    have g0 := hin 0 (by simp)
    have g1 := hin 55296 (by simp)
    have g2 := hin 57344 (by simp)
    have g3 := hin 1114112 (by simp)
    have hpc : pt c = pt (at' D i) := by
      rw [Bool.eq_iff_iff, pt_iff, pt_iff]
      omega
    unfold jf
    rw [hl, hm, hpc]
/-- the right set of the points that are wanted -/
theorem jto_set {l m X : S} {o t b n : Bool} {D : List Int} (hs : D.Pairwise (· ≤ ·)) (hp : D.Perm ([0, 55296, 57344, 1114112] ++ bds l ++ bds m)) (hX : right X = true) (hm : ∀ c, mem c X = jf l m o t b n c) : (jto (jf l m o t b n) D (D.length - 1)).reverse = X := by
  have hlen : 4 ≤ D.length := by rw [hp.length_eq]; simp
  have h := jto_ji (o := o) (t := t) (b := b) (n := n) hs hp (D.length - 1) (by omega)
  obtain ⟨j, hj, h0⟩ := at_mem (hp.mem_iff.2 (by simp : (1114112 : Int) ∈ [0, 55296, 57344, 1114112] ++ bds l ++ bds m))
  have hge : 1114112 ≤ at' D (D.length - 1) := by
    rcases Nat.lt_or_ge j (D.length - 1) with e | e
    · have := srt_at hs e (by omega); omega
    · rw [show D.length - 1 = j by omega]; omega
  refine uniq (right_of_RR _ h.rr) hX fun c => ?_
  rw [mem_reverse, h.mem, hm]
  cases hf : jf l m o t b n c
  · simp
  · have := (pt_iff c).1 (jf_pt hf)
    simp; omega
end Go.Proofs.YtkjilodmmcefbaaGreatDoor.Rs
