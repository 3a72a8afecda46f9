/- Several parts in one text: ClsX, ClsD, NxP, CntP. -/
import Derived.Test.YtiooimdncocfdaaGreatDoorSlC
/- Package class: Next and Has; slices.BinarySearchFunc at ranges. -/
namespace Go.Proofs.YtiooimdncocfdaaGreatDoor
namespace Rs
theorem right_mono {l : S} (h : right l = true) : ∀ (j i : Nat) (q r : R), i < j → l[i]? = some q → l[j]? = some r → q.2 < r.2
  | 0, _, _, _, hij, _, _ => by omega
  | j + 1, i, q, r, hij, hq, hr => by
    have hj : j + 1 < l.length := (List.getElem?_eq_some_iff.1 hr).1
    obtain ⟨p, hp⟩ : ∃ p, l[j]? = some p := ⟨_, List.getElem?_eq_getElem (by omega)⟩
    have h1 := ((right_iff l).1 h).2 j p r hp hr
    have h2 := (okR_iff _).1 (((right_iff l).1 h).1 (j + 1) r hr)
    by_cases hh : i = j
    · subst hh
      rw [hq] at hp; cases hp
      omega
    · have := right_mono h j i q p (by omega) hq hp
      omega
theorem nextS_mem : ∀ (l : S) (h : Int) (c : Int), rightA h l = true → (mem c l = true ↔ nextS l c = some c)
  | [], _, c, _ => by simp [mem, nextS]
  | r :: l, h, c, hr => by
    obtain ⟨ho, hl, ht⟩ := (rightA_cons h r l).1 hr
    have ho' := (okR_iff r).1 ho
    have ih := nextS_mem l r.2 c ht
    rw [mem_cons, Bool.or_eq_true, inR_iff]
    unfold nextS
    by_cases hc : c ≤ r.2
    · rw [if_pos hc]
      constructor
      · rintro (h1 | h1)
        · congr 1; omega
        · have := mem_lb ht h1; omega
      · intro h1
        have := Option.some.inj h1
        exact .inl (by omega)
    · rw [if_neg hc, ← ih]
      constructor
      · rintro (h1 | h1)
        · omega
        · exact h1
      · exact .inr
theorem has_next (l : S) (c : Int) : (right l && mem c l) = (nextB l c && decide (nextN l c = c)) := by
  unfold nextB nextN
  cases hr : right l
  · simp
  · have := nextS_mem l _ c hr
    simp only [Bool.true_and, if_true]
    rw [Bool.eq_iff_iff, this]
    cases nextS l c <;> simp
end Rs
open Go.RowKit Go.Shelf

set_option maxHeartbeats 1000000 in
theorem cmp_hi (x : Rs.R) (c : Int) (W : World) : Calls Tryz.prog 79 #[.agg #[.int .i64 x.1, .int .i64 x.2], .int .i64 c] W fun e w' => e = .returned (.int .i64 (Lib.compareInt x.2 c)) ∧ Below W.heap.size W w' := by
  have hcon := fun W' => AnyG.cmp_Compare_int Tryz.cmpInt x.2 c W'
  change ∀ W', Calls Tryz.prog 80 _ _ _ at hcon
  generalize Lib.compareInt x.2 c = r at hcon ⊢
  go_enter Tryz.func79, Tryz.ntmps79
  go_wp2_with (go_at_call 80; refine (hcon _).mono ?_; rintro e w' ⟨rfl, rfl⟩)
  go_ret
  exact ⟨rfl, (Below.refl _ _).alloc (Nat.le_refl _) _⟩

set_option maxRecDepth 100000 in
set_option maxHeartbeats 2000000 in
theorem search_calls (a : Option Addr) (cap : Nat) (l : Rs.S) (c : Int) (w : World) (h : Sl w a cap l) (hr : Rs.right l = true) :
    Calls Tryz.prog 78 #[.slice a l.length cap, .int .i64 c, .func (.func 79) #[] #[]] w fun e w' => ∃ (k : Nat) (b : Bool), e = .returned (.tuple #[.int .i64 k, .bool b]) ∧ k ≤ l.length ∧ (∀ (i : Nat) (r : Rs.R), i < k → l[i]? = some r → r.2 < c) ∧ (∀ r, l[k]? = some r → c ≤ r.2) ∧ Below w.heap.size w w' := by
  have HSL := Lib.hid h
  have HR := Lib.hid hr
  have hlen := Rs.right_len hr
  clear h hr
  go_enter Tryz.func78, Tryz.ntmps78
  go_wp2
  go_loopw [9, 10] (fun i j wr => ∃ p q : Nat, p ≤ q ∧ q ≤ l.length ∧ i = .int .i64 p ∧ j = .int .i64 q ∧ (∀ (i : Nat) (r : Rs.R), i < p → l[i]? = some r → r.2 < c) ∧ (∀ (i : Nat) (r : Rs.R), q ≤ i → l[i]? = some r → c ≤ r.2) ∧ Below w.heap.size w wr) (fun i j _ => (intOf j).toNat - (intOf i).toNat)
  case atStart => exact ⟨0, l.length, Nat.zero_le _, Nat.le_refl _, rfl, rfl, fun i r hi => by omega, fun i r hi hr => by have := (List.getElem?_eq_some_iff.1 hr).1; omega, Below.refl _ _⟩
  case round =>
    obtain ⟨p, q, hpq, hq, rfl, rfl, hlo, hhi, hb⟩ := hrel
    have HL := Lib.hid hlo
    have HH := Lib.hid hhi
    clear hlo hhi
    have hbs := hb.size
    by_cases hlt : p < q
    · obtain ⟨b, off, rfl, hbl, hc⟩ := HSL.out.rd (by intro e; subst e; simp at hq; omega)
      obtain ⟨m, hm⟩ : ∃ m, m = (p + q) / 2 := ⟨_, rfl⟩
      have hm1 : p ≤ m := by omega
      have hm2 : m < q := by omega
      obtain ⟨r, hr⟩ : ∃ r, l[m]? = some r := ⟨_, List.getElem?_eq_getElem (by omega)⟩
      obtain ⟨c0, c1⟩ := hc m _ hr
      rw [← hb.cell (by exact hbl)] at c0 c1
      have HE := Lib.hid hr
      clear hr hc
      obtain ⟨lo, hi⟩ := r
      dsimp only at c0 c1
      have hcm := fun W => cmp_hi (lo, hi) c W
      dsimp only at hcm
      have hv : Lib.compareInt hi c < 0 ↔ hi < c := by unfold Lib.compareInt; split <;> (try split) <;> omega
      generalize Lib.compareInt hi c = cv at *
      subst hm
      have hx : ((p + q : Nat) : Int) / 2 = (((p + q) / 2 : Nat) : Int) := by omega
      by_cases hcv : cv < 0
      · go_wp2_with (refine (hcm _).mono ?_; clear hcm; rintro e w1 ⟨rfl, hb1⟩)
        go_roundw
        case rel => exact ⟨(p + q) / 2 + 1, q, by omega, hq, int_eq (by omega), rfl, fun i r hi2 hr => by
            by_cases he : i = (p + q) / 2
            · subst he; rw [HE.out] at hr; cases hr; exact hv.1 hcv
            · have := Rs.right_mono HR.out _ i r (lo, hi) (show i < (p + q) / 2 by omega) hr HE.out
              have := hv.1 hcv
              dsimp only at *
              omega, HH.out, Bthen hb hb1⟩
        case measure => simp [intOf]; omega
      · go_wp2_with (refine (hcm _).mono ?_; clear hcm; rintro e w1 ⟨rfl, hb1⟩)
        go_roundw
        case rel => exact ⟨p, (p + q) / 2, by omega, by omega, rfl, int_eq (by omega), HL.out, fun i r hi2 hr => by
            by_cases he : i = (p + q) / 2
            · subst he; rw [HE.out] at hr; cases hr; have := mt hv.2 (by omega); dsimp only; omega
            · have := Rs.right_mono HR.out i _ (lo, hi) r (show (p + q) / 2 < i by omega) HE.out hr
              have := mt hv.2 (by omega)
              dsimp only at *
              omega, Bthen hb hb1⟩
        case measure => simp [intOf]; omega
    · obtain rfl : p = q := by omega
      by_cases hlt2 : p < l.length
      · obtain ⟨b, off, rfl, hbl, hc⟩ := HSL.out.rd (by intro e; subst e; simp at hlt2)
        obtain ⟨r, hr⟩ : ∃ r, l[p]? = some r := ⟨_, List.getElem?_eq_getElem hlt2⟩
        obtain ⟨c0, c1⟩ := hc p _ hr
        rw [← hb.cell (by exact hbl)] at c0 c1
        clear hr hc
        obtain ⟨lo, hi⟩ := r
        dsimp only at c0 c1
        have hcm := fun W => cmp_hi (lo, hi) c W
        dsimp only at hcm
        generalize Lib.compareInt hi c = cv at *
        by_cases hcv : cv = 0
        · go_wp2_with (refine (hcm _).mono ?_; clear hcm; rintro e w1 ⟨rfl, hb1⟩)
          go_ret2
          exact ⟨p, _, rfl, hq, HL.out, fun r hr => HH.out _ r (Nat.le_refl _) hr, Bthen hb hb1⟩
        · go_wp2_with (refine (hcm _).mono ?_; clear hcm; rintro e w1 ⟨rfl, hb1⟩)
          go_ret2
          exact ⟨p, _, rfl, hq, HL.out, fun r hr => HH.out _ r (Nat.le_refl _) hr, Bthen hb hb1⟩
      · go_wp2
        go_ret2
        exact ⟨p, _, rfl, hq, HL.out, fun r hr => HH.out _ r (Nat.le_refl _) hr, hb⟩

set_option maxRecDepth 100000 in
set_option maxHeartbeats 2000000 in
theorem next_calls (a : Option Addr) (cap : Nat) (l : Rs.S) (c : Int) (w : World) (h : Sl w a cap l) (hn : l.length < 4611686018427387904) :
    Calls Tryz.prog 23 #[.slice a l.length cap, .int .i64 c] w fun e w' => e = .returned (.tuple #[.int .i64 (Rs.nextN l c), .bool (Rs.nextB l c)]) ∧ Below w.heap.size w w' := by
  have hr := right_calls a cap l w h.rd hn
  cases hp : Rs.right l
  · rw [hp] at hr
    have h1 : Rs.nextN l c = 0 := by simp [Rs.nextN, hp]
    have h2 : Rs.nextB l c = false := by simp [Rs.nextB, hp]
    rw [h1, h2]
    clear h1 h2
    go_enter Tryz.func23, Tryz.ntmps23
    go_wp2_with (go_at_call 24; refine hr.mono ?_; clear hr; rintro e w1 ⟨rfl, hb⟩)
    go_ret2
    exact ⟨rfl, hb⟩
  · rw [hp] at hr
    have HP := Lib.hid (show _ ∧ _ from ⟨hp, h⟩)
    have hlen := Rs.right_len hp
    have hs := fun w1 (hb : Below w.heap.size w w1) => search_calls a cap l c w1 (h.below hb) hp
    clear hp h
    go_enter Tryz.func23, Tryz.ntmps23
    go_wp2_with (first
      | (go_at_call 24; refine hr.mono ?_; clear hr; rintro e w1 ⟨rfl, hb⟩; replace hs := hs w1 hb)
      | (go_at_call 78; refine hs.mono ?_; clear hs; rintro e w2 ⟨k, kb, rfl, hk, hlo, hhi, hb2⟩;
                                        have HS := Lib.hid (show _ ∧ _ from ⟨hlo, hhi⟩);
                                        have B2 := Bthen hb hb2;
                                        have HSL := Lib.hid (HP.out.2.below B2);
                                        clear hlo hhi;
                                        by_cases hkl : k = l.length))
    · subst hkl
      go_wp2
      go_ret2
      have hx := Rs.nextS_none HS.out.1
      refine ⟨?_, B2⟩
      simp only [Rs.nextN, Rs.nextB, HP.out.1, if_true, hx]
      rfl
    · obtain ⟨b, off, rfl, hbl, hc⟩ := HSL.out.rd (by intro e; subst e; simp at hk hkl; omega)
      obtain ⟨r, hr⟩ : ∃ r, l[k]? = some r := ⟨_, List.getElem?_eq_getElem (by omega)⟩
      obtain ⟨c0, c1⟩ := hc k _ hr
      have hx := Lib.hid (Rs.nextS_at HS.out.1 hr (HS.out.2 r hr))
      clear hr hc
      obtain ⟨lo, hi⟩ := r
      dsimp only at c0 c1
      go_wp2
      go_ret2
      refine ⟨?_, B2⟩
      simp only [Rs.nextN, Rs.nextB, HP.out.1, if_true, hx.out]
      rfl

set_option maxRecDepth 100000 in
set_option maxHeartbeats 2000000 in
theorem has_calls (a : Option Addr) (cap : Nat) (l : Rs.S) (c : Int) (w : World) (h : Sl w a cap l) (hn : l.length < 4611686018427387904) :
    Calls Tryz.prog 26 #[.slice a l.length cap, .int .i64 c] w fun e w' => e = .returned (.bool (Rs.right l && Rs.mem c l)) ∧ Below w.heap.size w w' := by
  have hx := next_calls a cap l c w h hn
  have hm : Hid ((Rs.right l && Rs.mem c l) = (Rs.nextB l c && decide (Rs.nextN l c = c))) := Lib.hid (Rs.has_next l c)
  generalize Rs.nextN l c = n at *
  cases hnb : Rs.nextB l c
  · rw [hnb] at hx
    go_enter Tryz.func26, Tryz.ntmps26
    go_wp2_with (go_at_call 23; refine hx.mono ?_; clear hx; rintro e w1 ⟨rfl, hb⟩)
    go_ret
    exact ⟨by rw [hm.out, hnb]; rfl, hb⟩
  · rw [hnb] at hx
    by_cases hc : n = c
    · go_enter Tryz.func26, Tryz.ntmps26
      go_wp2_with (go_at_call 23; refine hx.mono ?_; clear hx; rintro e w1 ⟨rfl, hb⟩)
      go_ret
      exact ⟨by rw [hm.out, hnb]; simp [hc], hb⟩
    · go_enter Tryz.func26, Tryz.ntmps26
      go_wp2_with (go_at_call 23; refine hx.mono ?_; clear hx; rintro e w1 ⟨rfl, hb⟩)
      go_ret
      exact ⟨by rw [hm.out, hnb]; simp [hc], hb⟩
end Go.Proofs.YtiooimdncocfdaaGreatDoor
/- Package class: Named, letter. -/
namespace Go.Proofs.YtiooimdncocfdaaGreatDoor
namespace Rs
def lowS (c : Int) : S := if c = 100 then [(48, 57)] else if c = 115 then [(9, 10), (12, 13), (32, 32)] else [(48, 57), (65, 90), (95, 95), (97, 122)]
def namedB (c : Int) : Bool := c == 100 || c == 115 || c == 119 || c == 68 || c == 83 || c == 87
def namedS (c : Int) : S := if c = 100 ∨ c = 115 ∨ c = 119 then lowS c else if c = 68 ∨ c = 83 ∨ c = 87 then notS (lowS (c + 32)) else []
theorem lowS_right (c : Int) : right (lowS c) = true := by
  unfold lowS
  split
  · decide
  · split <;> decide
end Rs
open Go.RowKit Go.Shelf

theorem owns_new (W : World) (l : Rs.S) (T : TypeId) (hl : l.length ≤ 1000000) : (W.alloc (.cells (rFlat l).toArray T)).ownsRow W.heap.size T 2 (.slice (some ⟨W.heap.size, 0, none⟩) l.length l.length) l.length (rFlat l) :=
  ⟨rFlat_length l, .inr ⟨_, _, _, rfl, Nat.le_refl _, World.alloc_heap_new _ _, Nat.le_refl _, by unfold maxLen; omega, by simp [rFlat_length], by simp [← rFlat_length l]⟩⟩

set_option maxRecDepth 100000 in
set_option maxHeartbeats 1000000 in
theorem named_low (c : Int) (hc : c = 100 ∨ c = 115 ∨ c = 119) (w : World) :
    Calls Tryz.prog 146 #[.int .u8 c] w fun e w' => ∃ v, e = .returned (.tuple #[v, .bool true]) ∧ w'.ownsRow w.heap.size 27 2 v (Rs.lowS c).length (rFlat (Rs.lowS c)) ∧ Below w.heap.size w w' := by
  rcases hc with rfl | rfl | rfl
  all_goals
    go_enter Tryz.func146, Tryz.ntmps146
    go_wp2
    go_ret2
  · exact ⟨_, rfl, owns_new w [(48, 57)] _ (by decide), Bnew (Below.refl _ _) _⟩
  · exact ⟨_, rfl, owns_new w [(9, 10), (12, 13), (32, 32)] _ (by decide), Bnew (Below.refl _ _) _⟩
  · exact ⟨_, rfl, owns_new w [(48, 57), (65, 90), (95, 95), (97, 122)] _ (by decide), Bnew (Below.refl _ _) _⟩

set_option maxRecDepth 100000 in
set_option maxHeartbeats 1000000 in
theorem named_up (c d : Int) (hcd : (c = 68 ∧ d = 100) ∨ (c = 83 ∧ d = 115) ∨ (c = 87 ∧ d = 119)) (w : World) :
    Calls Tryz.prog 146 #[.int .u8 c] w fun e w' => ∃ v, e = .returned (.tuple #[v, .bool true]) ∧ w'.ownsRow w.heap.size 27 2 v (Rs.notS (Rs.lowS d)).length (rFlat (Rs.notS (Rs.lowS d))) ∧ Below w.heap.size w w' := by
  have hlow := named_low d (by omega) w
  have hr := Rs.lowS_right d
  have hlen := Rs.right_len hr
  have hnt := fun w2 a2 c2 (h : Sl w2 a2 c2 (Rs.lowS d)) => not_calls a2 c2 (Rs.lowS d) w2 h (by omega) (Rs.right_rg hr) (Rs.gaps_rg _ 0 (-2) (by omega) hr)
  clear hr
  generalize Rs.lowS d = L at *
  rcases hcd with ⟨rfl, rfl⟩ | ⟨rfl, rfl⟩ | ⟨rfl, rfl⟩
  all_goals
    go_enter Tryz.func146, Tryz.ntmps146
    go_wp2_with (first
      | (go_at_call 146; refine hlow.mono ?_; clear hlow; rintro e w2 ⟨v2, rfl, hown2, hb2⟩;
                                        obtain ⟨a2, c2, rfl, _, hs2⟩ := Sl.of_own hown2;
                                        replace hnt := hnt w2 a2 c2 hs2;
                                        clear hown2 hs2)
      | (go_at_call 73; refine hnt.mono ?_; clear hnt; rintro e w3 ⟨v3, rfl, hown3, hb3⟩))
    go_ret2
    exact ⟨_, rfl, ownsRow_base hown3 hb2.size, Bthen hb2 hb3⟩

set_option maxRecDepth 100000 in
set_option maxHeartbeats 1000000 in
theorem named_calls (c : Int) (w : World) :
    Calls Tryz.prog 146 #[.int .u8 c] w fun e w' => ∃ v, e = .returned (.tuple #[v, .bool (Rs.namedB c)]) ∧ w'.ownsRow w.heap.size 27 2 v (Rs.namedS c).length (rFlat (Rs.namedS c)) ∧ Below w.heap.size w w' := by
  by_cases h1 : c = 100 ∨ c = 115 ∨ c = 119
  · have e1 : Rs.namedB c = true := by unfold Rs.namedB; rcases h1 with rfl | rfl | rfl <;> rfl
    have e2 : Rs.namedS c = Rs.lowS c := if_pos h1
    rw [e1, e2]
    exact named_low c h1 w
  · by_cases h2 : c = 68 ∨ c = 83 ∨ c = 87
    · have e1 : Rs.namedB c = true := by unfold Rs.namedB; rcases h2 with rfl | rfl | rfl <;> rfl
      have e2 : Rs.namedS c = Rs.notS (Rs.lowS (c + 32)) := (if_neg h1).trans (if_pos h2)
      rw [e1, e2]
      exact named_up c (c + 32) (by omega) w
    · have e1 : Rs.namedB c = false := by unfold Rs.namedB; simp; omega
      have e2 : Rs.namedS c = [] := (if_neg h1).trans (if_neg h2)
      rw [e1, e2]
      have n1 : ¬ c = 100 := by omega
      have n2 : ¬ c = 115 := by omega
      have n3 : ¬ c = 119 := by omega
      have n4 : ¬ c = 68 := by omega
      have n5 : ¬ c = 83 := by omega
      have n6 : ¬ c = 87 := by omega
      clear h1 h2 e1 e2
      go_enter Tryz.func146, Tryz.ntmps146
      go_wp2
      go_ret2
      exact ⟨_, rfl, World.ownsRow_nil _ _ _ _, Below.refl _ _⟩

def letterB (c : Int) : Bool := (decide (48 ≤ c) && decide (c ≤ 57)) || (decide (65 ≤ c) && decide (c ≤ 90)) || (decide (97 ≤ c) && decide (c ≤ 122))
set_option maxRecDepth 100000 in
set_option maxHeartbeats 1000000 in
theorem letter_calls (c : Int) (w : World) :
    Calls Tryz.prog 134 #[.int .u8 c] w fun e w' => e = .returned (.bool (letterB c)) ∧ w' = w := by
  rcases (show c < 48 ∨ (48 ≤ c ∧ c ≤ 57) ∨ (57 < c ∧ c < 65) ∨ (65 ≤ c ∧ c ≤ 90) ∨ (90 < c ∧ c < 97) ∨ (97 ≤ c ∧ c ≤ 122) ∨ 122 < c from by omega) with h | ⟨h, k⟩ | ⟨h, k⟩ | ⟨h, k⟩ | ⟨h, k⟩ | ⟨h, k⟩ | h
  all_goals
    go_enter Tryz.func134, Tryz.ntmps134
    go_wp2
    go_ret
    exact ⟨ret_bool (by unfold letterB; rw [Bool.eq_iff_iff]; simp; omega), rfl⟩
end Go.Proofs.YtiooimdncocfdaaGreatDoor
/- Plain facts on the next member of a right set. -/
namespace Go.Proofs.YtiooimdncocfdaaGreatDoor.Rs
theorem right_lt {l : S} (h : right l = true) (i j : Nat) (q r : R) (hij : i < j) (hq : l[i]? = some q) (hr : l[j]? = some r) : q.2 + 1 < r.1 := by
  obtain ⟨j, rfl⟩ : ∃ j', j = j' + 1 := ⟨j - 1, by omega⟩
  have hj : j + 1 < l.length := (List.getElem?_eq_some_iff.1 hr).1
  obtain ⟨p, hp⟩ : ∃ p, l[j]? = some p := ⟨_, List.getElem?_eq_getElem (by omega)⟩
  have h1 := ((right_iff l).1 h).2 j p r hp hr
  by_cases hh : i = j
  · subst hh
    rw [hq] at hp; cases hp
    omega
  · have := right_mono h j i q p (by omega) hq hp
    omega
theorem right_ok {l : S} (h : right l = true) {k : Nat} {r : R} (hr : l[k]? = some r) : r.1 ≤ r.2 ∧ 0 ≤ r.1 ∧ r.2 ≤ 1114111 := by
  have := (okR_iff _).1 (((right_iff l).1 h).1 k r hr)
  omega
theorem nextN_eq {l : S} (h : right l = true) (c : Int) : nextN l c = (nextS l c).getD 0 := by simp [nextN, h]
theorem nextB_eq {l : S} (h : right l = true) (c : Int) : nextB l c = (nextS l c).isSome := by simp [nextB, h]
/-- All before k end at at_ or below. -/
def Bef (l : S) (k : Nat) (a : Int) : Prop := ∀ (i : Nat) (r : R), i < k → l[i]? = some r → r.2 < a + 1
theorem next_first {l : S} (h : right l = true) {k : Nat} {r : R} {a : Int} (hs : Bef l k a) (hr : l[k]? = some r) (h1 : a + 1 ≤ r.1) : nextN l (a + 1) = r.1 ∧ nextB l (a + 1) = true := by
  have ho := right_ok h hr
  have := nextS_at hs hr (by omega)
  rw [nextN_eq h, nextB_eq h, this]
  exact ⟨by simp only [Option.getD_some]; omega, rfl⟩
theorem next_in {l : S} (h : right l = true) {k : Nat} {r : R} {c : Int} (hr : l[k]? = some r) (h1 : r.1 < c) (h2 : c ≤ r.2) : nextN l (c - 1 + 1) = c ∧ nextB l (c - 1 + 1) = true := by
  have hs : Bef l k (c - 1) := fun i q hi hq => by have := right_lt h i k q r hi hq hr; omega
  have := nextS_at hs hr (by omega)
  rw [nextN_eq h, nextB_eq h, this]
  exact ⟨by simp only [Option.getD_some]; omega, rfl⟩
theorem nextS_spec : ∀ (l : S) (h f : Int), rightA h l = true → ∀ x, nextS l f = some x → f ≤ x ∧ mem x l = true ∧ ∀ r ∈ l, ¬ (f ≤ r.2 ∧ r.2 < x) ∧ ¬ (f ≤ r.1 ∧ r.1 < x)
  | [], _, _, _, _, e => by cases e
  | r :: l, h, f, hr, x, e => by
    obtain ⟨ho, hl, ht⟩ := (rightA_cons h r l).1 hr
    have ho' := (okR_iff r).1 ho
    unfold nextS at e
    by_cases hc : f ≤ r.2
    · rw [if_pos hc] at e
      have e := Option.some.inj e
      refine ⟨by omega, by rw [mem_cons, (inR_iff x r).2 (by omega)]; rfl, fun q hq => ?_⟩
      rcases List.mem_cons.1 hq with rfl | hq
      · omega
      · have hrg := right_rg ht q hq
        have : mem q.1 l = true := by rw [mem_iff]; exact ⟨q, hq, Int.le_refl _, hrg.2.1⟩
        have := mem_lb ht this
        have := hrg.2.1
        omega
    · rw [if_neg hc] at e
      obtain ⟨h1, h2, h3⟩ := nextS_spec l r.2 f ht x e
      refine ⟨h1, by rw [mem_cons, h2, Bool.or_true], fun q hq => ?_⟩
      rcases List.mem_cons.1 hq with rfl | hq
      · omega
      · exact h3 q hq
theorem nextS_none_iff : ∀ (l : S) (f : Int), nextS l f = none ↔ ∀ r ∈ l, r.2 < f
  | [], _ => by simp [nextS]
  | r :: l, f => by
    unfold nextS
    by_cases hc : f ≤ r.2
    · rw [if_pos hc]; simp; omega
    · rw [if_neg hc, nextS_none_iff l f]; simp; omega
theorem nextB_last {l : S} (h : right l = true) {r : R} (hr : l[l.length - 1]? = some r) (f : Int) : nextB l f = decide (f ≤ r.2) := by
  rw [nextB_eq h]
  by_cases hf : f ≤ r.2
  · rw [decide_eq_true hf]
    cases e : nextS l f with
    | some x => rfl
    | none => have := (nextS_none_iff l f).1 e r (List.mem_of_getElem? hr); omega
  · rw [decide_eq_false hf]
    have : nextS l f = none := by
      rw [nextS_none_iff]
      intro q hq
      obtain ⟨i, hi, rfl⟩ := List.mem_iff_getElem.1 hq
      by_cases hh : i = l.length - 1
      · subst hh
        rw [List.getElem?_eq_getElem hi] at hr
        have := Option.some.inj hr
        rw [this]; omega
      · have := right_mono h (l.length - 1) i l[i] r (by omega) (List.getElem?_eq_getElem hi) hr
        omega
    rw [this]; rfl
theorem nextN_none {l : S} {f : Int} (h : nextB l f = false) : nextN l f = 0 := by
  unfold nextB at h
  unfold nextN
  cases e : (if right l then nextS l f else none) with
  | none => rfl
  | some x => rw [e] at h; cases h
theorem next_spec {l : S} (h : right l = true) {f : Int} (hb : nextB l f = true) : f ≤ nextN l f ∧ mem (nextN l f) l = true ∧ ∀ r ∈ l, ¬ (f ≤ r.2 ∧ r.2 < nextN l f) ∧ ¬ (f ≤ r.1 ∧ r.1 < nextN l f) := by
  rw [nextB_eq h] at hb
  obtain ⟨x, e⟩ := Option.isSome_iff_exists.1 hb
  have hn : nextN l f = x := by rw [nextN_eq h, e]; rfl
  rw [hn]
  exact nextS_spec l _ f h x e
end Go.Proofs.YtiooimdncocfdaaGreatDoor.Rs
/- Plain facts on how many points a right set has: it is a count over all points, so it adds up. -/
namespace Go.Proofs.YtiooimdncocfdaaGreatDoor.Rs
def cP (N : Nat) (p : Nat → Bool) : Nat := (List.range N).countP p
theorem countP_or (p q : Nat → Bool) : ∀ xs : List Nat, xs.countP (fun i => p i || q i) + xs.countP (fun i => p i && q i) = xs.countP p + xs.countP q
  | [] => rfl
  | x :: xs => by
    have := countP_or p q xs
    simp only [List.countP_cons]
    cases p x <;> cases q x <;> simp <;> omega
theorem countP_and (p q : Nat → Bool) : ∀ xs : List Nat, xs.countP (fun i => p i && !q i) + xs.countP (fun i => p i && q i) = xs.countP p
  | [] => rfl
  | x :: xs => by
    have := countP_and p q xs
    simp only [List.countP_cons]
    cases p x <;> cases q x <;> simp <;> omega
theorem countP_iv (a b : Nat) : ∀ N : Nat, (List.range N).countP (fun i => decide (a ≤ i) && decide (i ≤ b)) = min N (b + 1) - a
  | 0 => by simp
  | N + 1 => by
    rw [List.range_succ, List.countP_append, countP_iv a b N]
    simp only [List.countP_cons, List.countP_nil, Bool.and_eq_true, decide_eq_true_eq]
    split <;> omega
theorem countP_inR {N : Nat} (hN : N = 1114112) {r : R} (h1 : 0 ≤ r.1) (h2 : r.1 ≤ r.2) (h3 : r.2 ≤ 1114111) : (cP N (fun i => inR (i : Int) r) : Int) = r.2 - r.1 + 1 := by
  have e : (fun i : Nat => inR (i : Int) r) = fun i => decide (r.1.toNat ≤ i) && decide (i ≤ r.2.toNat) := by
    funext i
    rw [Bool.eq_iff_iff]
    simp only [inR, Bool.and_eq_true, decide_eq_true_eq]
    omega
  unfold cP
  rw [e, countP_iv]
  omega
theorem countP_none {N : Nat} {p : Nat → Bool} (h : ∀ i, p i = false) : cP N p = 0 := by
  unfold cP
  rw [List.countP_eq_zero]
  intro i _
  simp [h i]
theorem cnt_cP {N : Nat} (hN : N = 1114112) : ∀ (l : S) (h : Int), rightA h l = true → cnt l = (cP N (fun i => mem (i : Int) l) : Int)
  | [], _, _ => by
    have : cP N (fun i : Nat => mem (i : Int) []) = 0 := countP_none (fun i => rfl)
    rw [this]; rfl
  | r :: l, h, hr => by
    obtain ⟨ho, hl, ht⟩ := (rightA_cons h r l).1 hr
    have ho' := (okR_iff r).1 ho
    have ih := cnt_cP hN l r.2 ht
    have h1 := countP_inR hN (r := r) (by omega) (by omega) (by omega)
    have h2 := countP_or (fun i => inR (i : Int) r) (fun i => mem (i : Int) l) (List.range N)
    have h3 : cP N (fun i => inR (i : Int) r && mem (i : Int) l) = 0 := countP_none fun i => by
      cases hi : inR (i : Int) r
      · rfl
      · cases hm : mem (i : Int) l
        · rfl
        · have := mem_lb ht hm
          have := (inR_iff _ _).1 hi
          omega
    have e : cP N (fun i => mem (i : Int) (r :: l)) = cP N (fun i => inR (i : Int) r || mem (i : Int) l) := congrArg (cP N) (funext fun i => rfl)
    rw [e]
    unfold cP at *
    simp only [cnt]
    omega
theorem cnt_eq {N : Nat} (hN : N = 1114112) {l : S} (h : right l = true) : cnt l = (cP N (fun i => mem (i : Int) l) : Int) := cnt_cP hN l _ h
theorem cP_pt {N : Nat} (hN : N = 1114112) : cP N (fun i => pt (i : Int)) = 1112064 := by
  have h1 := countP_inR hN (r := (0, 55295)) (by decide) (by decide) (by decide)
  have h2 := countP_inR hN (r := (57344, 1114111)) (by decide) (by decide) (by decide)
  have h3 := countP_or (fun i => inR (i : Int) (0, 55295)) (fun i => inR (i : Int) (57344, 1114111)) (List.range N)
  have h4 : cP N (fun i => inR (i : Int) (0, 55295) && inR (i : Int) (57344, 1114111)) = 0 := countP_none fun i => by
    rw [Bool.and_eq_false_iff]
    simp only [inR, Bool.and_eq_false_iff, decide_eq_false_iff_not]
    omega
  have e : cP N (fun i => pt (i : Int)) = cP N (fun i => inR (i : Int) (0, 55295) || inR (i : Int) (57344, 1114111)) := congrArg (cP N) (funext fun i => by rw [Bool.eq_iff_iff]; simp [pt, inR])
  rw [e]
  unfold cP at *
  omega
theorem cnt_or_and {x y : S} (hx : right x = true) (hy : right y = true) : cnt (orS x y) + cnt (andS x y) = cnt x + cnt y := by
  obtain ⟨N, hN⟩ : ∃ N : Nat, N = 1114112 := ⟨_, rfl⟩
  rw [cnt_eq hN (orS_right hx hy), cnt_eq hN (andS_right hx hy), cnt_eq hN hx, cnt_eq hN hy]
  have h := countP_or (fun i => mem (i : Int) x) (fun i => mem (i : Int) y) (List.range N)
  simp only [orS_mem hx hy, andS_mem hx hy]
  unfold cP
  omega
theorem cnt_minus_and {x y : S} (hx : right x = true) (hy : right y = true) : cnt (minusS x y) + cnt (andS x y) = cnt x := by
  obtain ⟨N, hN⟩ : ∃ N : Nat, N = 1114112 := ⟨_, rfl⟩
  rw [cnt_eq hN (minusS_right hx hy), cnt_eq hN (andS_right hx hy), cnt_eq hN hx]
  have h := countP_and (fun i => mem (i : Int) x) (fun i => mem (i : Int) y) (List.range N)
  simp only [minusS_mem hx hy, andS_mem hx hy]
  unfold cP
  omega
theorem cnt_not {x : S} (hx : right x = true) : cnt x + cnt (notS x) = 1112064 := by
  obtain ⟨N, hN⟩ : ∃ N : Nat, N = 1114112 := ⟨_, rfl⟩
  rw [cnt_eq hN (notS_right hx), cnt_eq hN hx]
  have h := countP_and (fun i => pt (i : Int)) (fun i => mem (i : Int) x) (List.range N)
  have h2 := cP_pt hN
  have e : (fun i : Nat => pt (i : Int) && mem (i : Int) x) = fun i : Nat => mem (i : Int) x := by
    funext i
    cases hm : mem (i : Int) x
    · simp
    · simp [mem_pt hx hm]
  rw [e] at h
  simp only [notS_mem hx]
  unfold cP at *
  omega
theorem not_not {x : S} (hx : right x = true) : notS (notS x) = x := by
  refine uniq (notS_right (notS_right hx)) hx fun c => ?_
  rw [notS_mem (notS_right hx), notS_mem hx]
  cases hm : mem c x
  · cases pt c <;> rfl
  · rw [mem_pt hx hm]; rfl
theorem not_or {x y : S} (hx : right x = true) (hy : right y = true) : notS (orS x y) = andS (notS x) (notS y) := by
  refine uniq (notS_right (orS_right hx hy)) (andS_right (notS_right hx) (notS_right hy)) fun c => ?_
  rw [notS_mem (orS_right hx hy), orS_mem hx hy, andS_mem (notS_right hx) (notS_right hy), notS_mem hx, notS_mem hy]
  cases pt c <;> cases mem c x <;> cases mem c y <;> rfl
theorem not_has {x : S} (hx : right x = true) {c : Int} (hc : pt c = true) : mem c (notS x) = !mem c x := by
  rw [notS_mem hx, hc]; simp
end Go.Proofs.YtiooimdncocfdaaGreatDoor.Rs
