/- The reference implementation: Of, Or, And, Minus, Not. -/
import Derived.Test.YtkjilodmmcefbaaGreatDoorJn
namespace Go.Proofs.YtkjilodmmcefbaaGreatDoor
open Go.RowKit Go.Shelf
namespace Rs
theorem jf_set (l : S) (c : Int) : jf l [] true false false false c = (pt c && mem c l) := by
  unfold jf jcond
  rw [mem_nil]
  cases pt c <;> cases mem c l <;> rfl
theorem jf_no (l : S) (c : Int) : jf l [] false false false true c = (pt c && !mem c l) := by
  unfold jf jcond
  rw [mem_nil]
  cases pt c <;> cases mem c l <;> rfl
theorem jf_or {l m : S} (hl : right l = true) (hm : right m = true) (c : Int) : mem c (orS l m) = jf l m true true true false c := by
  rw [orS_mem hl hm]
  unfold jf jcond
  cases h1 : mem c l
  · cases h2 : mem c m
    · cases pt c <;> rfl
    · rw [mem_pt hm h2]; rfl
  · rw [mem_pt hl h1]
    cases mem c m <;> rfl
theorem jf_and {l m : S} (hl : right l = true) (hm : right m = true) (c : Int) : mem c (andS l m) = jf l m false false true false c := by
  rw [andS_mem hl hm]
  unfold jf jcond
  cases h1 : mem c l
  · cases pt c <;> cases mem c m <;> rfl
  · rw [mem_pt hl h1]
    cases mem c m <;> rfl
theorem jf_minus {l m : S} (hl : right l = true) (hm : right m = true) (c : Int) : mem c (minusS l m) = jf l m true false false false c := by
  rw [minusS_mem hl hm]
  unfold jf jcond
  cases h1 : mem c l
  · cases pt c <;> cases mem c m <;> rfl
  · rw [mem_pt hl h1]
    cases mem c m <;> rfl
theorem right_bd {l : S} (h : right l = true) : ∀ r ∈ l, Bd r := fun r hr => by
  obtain ⟨g1, g2, g3⟩ := right_rg h r hr
  exact ⟨g1, by omega, by omega, g3⟩
end Rs
/-- a result of the reference: a slice of its ranges and an error -/
def RPair (w : World) (l : Rs.S) (er : Int) (e : Ending) (w' : World) : Prop :=
  ∃ v, e = .returned (.tuple #[v, .int .i64 er]) ∧ w'.ownsRow w.heap.size 59 2 v l.length (rFlat l) ∧ Below w.heap.size w w'
theorem ref_right_b (a : Option Addr) (cap : Nat) (l : Rs.S) (w : World) (h : RdR w a l) (hn : l.length < 4611686018427387904) :
    Calls Tryz.prog 66 #[.slice a l.length cap] w fun e w' => e = .returned (.bool (Rs.right l)) ∧ Below w.heap.size w w' :=
  (ref_right_calls a cap l w h hn).mono fun _ _ ⟨h1, n, h2⟩ => ⟨h1, by rw [h2]; exact below_drewN (Below.refl _ _) n⟩

set_option maxRecDepth 100000 in
set_option maxHeartbeats 1000000 in
theorem refNot_calls (a : Option Addr) (cap : Nat) (l : Rs.S) (w : World) (h : Sl w a cap l) (hn : l.length ≤ 100000) :
    Calls Tryz.prog 63 #[.slice a l.length cap] w (RPair w (Rs.notE l) (Rs.err (Rs.right l))) := by
  have hr := ref_right_b a cap l w h.rd (by omega)
  cases hp : Rs.right l
  · rw [hp] at hr
    go_enter Tryz.func63, Tryz.ntmps63
    go_wp2_with (go_at_call 66; refine hr.mono ?_; clear hr; rintro e w1 ⟨rfl, hb⟩)
    go_ret2
    exact ⟨_, rfl, by simp only [Rs.notE, hp]; exact World.ownsRow_nil _ _ _ _, hb⟩
  · rw [hp] at hr
    have hj := fun w1 (hb : Below w.heap.size w w1) => join_calls a none cap 0 l [] (Rs.notS l) false false false true w1 (h.below hb) (Sl.nil0 _) hn (by simp) (Rs.right_bd hp) (fun r hr => by cases hr) (Rs.notS_right hp) (fun c => by rw [Rs.jf_no, Rs.notS_mem hp])
    have HP := Lib.hid hp
    clear hp h
    go_enter Tryz.func63, Tryz.ntmps63
    go_wp2_with (first
      | (go_at_call 66; refine hr.mono ?_; clear hr; rintro e w1 ⟨rfl, hb⟩; replace hj := hj w1 hb)
      | (go_at_call 73; refine hj.mono ?_; clear hj; rintro e w2 ⟨v, rfl, hown, hb2⟩))
    go_ret2
    exact ⟨_, rfl, by simp only [Rs.notE, HP.out, if_true]; exact ownsRow_base hown hb.size, Bthen hb hb2⟩

set_option maxRecDepth 100000 in
set_option maxHeartbeats 1000000 in
theorem refOr_calls (a b : Option Addr) (ca cb : Nat) (l m : Rs.S) (w : World) (h : Sl w a ca l) (k : Sl w b cb m) (hn : l.length ≤ 100000) (hm : m.length ≤ 100000) :
    Calls Tryz.prog 69 #[.slice a l.length ca, .slice b m.length cb] w (RPair w (Rs.orE l m) (Rs.err (Rs.right l && Rs.right m))) := by
  have hr := ref_right_b a ca l w h.rd (by omega)
  have hr2 := fun w1 (hb : Below w.heap.size w w1) => ref_right_b b cb m w1 (k.below hb).rd (by omega)
  cases hp : Rs.right l
  · rw [hp] at hr
    go_enter Tryz.func69, Tryz.ntmps69
    go_wp2_with (go_at_call 66; refine hr.mono ?_; clear hr; rintro e w1 ⟨rfl, hb⟩)
    go_ret2
    exact ⟨_, rfl, by simp only [Rs.orE, hp]; exact World.ownsRow_nil _ _ _ _, hb⟩
  · rw [hp] at hr
    cases hq : Rs.right m
    · rw [hq] at hr2
      go_enter Tryz.func69, Tryz.ntmps69
      go_wp2_with (first
        | (go_at_call 66; refine hr.mono ?_; clear hr; rintro e w1 ⟨rfl, hb⟩; replace hr2 := hr2 w1 hb)
        | (go_at_call 66; refine hr2.mono ?_; clear hr2; rintro e w2 ⟨rfl, hb2⟩))
      go_ret2
      exact ⟨_, rfl, by simp only [Rs.orE, hp, hq]; exact World.ownsRow_nil _ _ _ _, Bthen hb hb2⟩
    · rw [hq] at hr2
      have hj := fun w1 (hb : Below w.heap.size w w1) => join_calls a b ca cb l m (Rs.orS l m) true true true false w1 (h.below hb) (k.below hb) hn hm (Rs.right_bd hp) (Rs.right_bd hq) (Rs.orS_right hp hq) (Rs.jf_or hp hq)
      have HP := Lib.hid (show _ ∧ _ from ⟨hp, hq⟩)
      clear hp hq h k
      go_enter Tryz.func69, Tryz.ntmps69
      go_wp2_with (first
        | (go_at_call 66; refine hr.mono ?_; clear hr; rintro e w1 ⟨rfl, hb⟩; replace hr2 := hr2 w1 hb)
        | (go_at_call 66; refine hr2.mono ?_; clear hr2; rintro e w2 ⟨rfl, hb2⟩; replace hb2 := Bthen hb hb2; replace hj := hj w2 hb2)
        | (go_at_call 73; refine hj.mono ?_; clear hj; rintro e w3 ⟨v, rfl, hown, hb3⟩))
      go_ret2
      exact ⟨_, rfl, by simp only [Rs.orE, HP.out.1, HP.out.2, Bool.and_self, if_true]; exact ownsRow_base hown hb2.size, Bthen hb2 hb3⟩

set_option maxRecDepth 100000 in
set_option maxHeartbeats 1000000 in
theorem refAnd_calls (a b : Option Addr) (ca cb : Nat) (l m : Rs.S) (w : World) (h : Sl w a ca l) (k : Sl w b cb m) (hn : l.length ≤ 100000) (hm : m.length ≤ 100000) :
    Calls Tryz.prog 70 #[.slice a l.length ca, .slice b m.length cb] w (RPair w (Rs.andE l m) (Rs.err (Rs.right l && Rs.right m))) := by
  have hr := ref_right_b a ca l w h.rd (by omega)
  have hr2 := fun w1 (hb : Below w.heap.size w w1) => ref_right_b b cb m w1 (k.below hb).rd (by omega)
  cases hp : Rs.right l
  · rw [hp] at hr
    go_enter Tryz.func70, Tryz.ntmps70
    go_wp2_with (go_at_call 66; refine hr.mono ?_; clear hr; rintro e w1 ⟨rfl, hb⟩)
    go_ret2
    exact ⟨_, rfl, by simp only [Rs.andE, hp]; exact World.ownsRow_nil _ _ _ _, hb⟩
  · rw [hp] at hr
    cases hq : Rs.right m
    · rw [hq] at hr2
      go_enter Tryz.func70, Tryz.ntmps70
      go_wp2_with (first
        | (go_at_call 66; refine hr.mono ?_; clear hr; rintro e w1 ⟨rfl, hb⟩; replace hr2 := hr2 w1 hb)
        | (go_at_call 66; refine hr2.mono ?_; clear hr2; rintro e w2 ⟨rfl, hb2⟩))
      go_ret2
      exact ⟨_, rfl, by simp only [Rs.andE, hp, hq]; exact World.ownsRow_nil _ _ _ _, Bthen hb hb2⟩
    · rw [hq] at hr2
      have hj := fun w1 (hb : Below w.heap.size w w1) => join_calls a b ca cb l m (Rs.andS l m) false false true false w1 (h.below hb) (k.below hb) hn hm (Rs.right_bd hp) (Rs.right_bd hq) (Rs.andS_right hp hq) (Rs.jf_and hp hq)
      have HP := Lib.hid (show _ ∧ _ from ⟨hp, hq⟩)
      clear hp hq h k
      go_enter Tryz.func70, Tryz.ntmps70
      go_wp2_with (first
        | (go_at_call 66; refine hr.mono ?_; clear hr; rintro e w1 ⟨rfl, hb⟩; replace hr2 := hr2 w1 hb)
        | (go_at_call 66; refine hr2.mono ?_; clear hr2; rintro e w2 ⟨rfl, hb2⟩; replace hb2 := Bthen hb hb2; replace hj := hj w2 hb2)
        | (go_at_call 73; refine hj.mono ?_; clear hj; rintro e w3 ⟨v, rfl, hown, hb3⟩))
      go_ret2
      exact ⟨_, rfl, by simp only [Rs.andE, HP.out.1, HP.out.2, Bool.and_self, if_true]; exact ownsRow_base hown hb2.size, Bthen hb2 hb3⟩

set_option maxRecDepth 100000 in
set_option maxHeartbeats 1000000 in
theorem refMinus_calls (a b : Option Addr) (ca cb : Nat) (l m : Rs.S) (w : World) (h : Sl w a ca l) (k : Sl w b cb m) (hn : l.length ≤ 100000) (hm : m.length ≤ 100000) :
    Calls Tryz.prog 71 #[.slice a l.length ca, .slice b m.length cb] w (RPair w (Rs.minusE l m) (Rs.err (Rs.right l && Rs.right m))) := by
  have hr := ref_right_b a ca l w h.rd (by omega)
  have hr2 := fun w1 (hb : Below w.heap.size w w1) => ref_right_b b cb m w1 (k.below hb).rd (by omega)
  cases hp : Rs.right l
  · rw [hp] at hr
    go_enter Tryz.func71, Tryz.ntmps71
    go_wp2_with (go_at_call 66; refine hr.mono ?_; clear hr; rintro e w1 ⟨rfl, hb⟩)
    go_ret2
    exact ⟨_, rfl, by simp only [Rs.minusE, hp]; exact World.ownsRow_nil _ _ _ _, hb⟩
  · rw [hp] at hr
    cases hq : Rs.right m
    · rw [hq] at hr2
      go_enter Tryz.func71, Tryz.ntmps71
      go_wp2_with (first
        | (go_at_call 66; refine hr.mono ?_; clear hr; rintro e w1 ⟨rfl, hb⟩; replace hr2 := hr2 w1 hb)
        | (go_at_call 66; refine hr2.mono ?_; clear hr2; rintro e w2 ⟨rfl, hb2⟩))
      go_ret2
      exact ⟨_, rfl, by simp only [Rs.minusE, hp, hq]; exact World.ownsRow_nil _ _ _ _, Bthen hb hb2⟩
    · rw [hq] at hr2
      have hj := fun w1 (hb : Below w.heap.size w w1) => join_calls a b ca cb l m (Rs.minusS l m) true false false false w1 (h.below hb) (k.below hb) hn hm (Rs.right_bd hp) (Rs.right_bd hq) (Rs.minusS_right hp hq) (Rs.jf_minus hp hq)
      have HP := Lib.hid (show _ ∧ _ from ⟨hp, hq⟩)
      clear hp hq h k
      go_enter Tryz.func71, Tryz.ntmps71
      go_wp2_with (first
        | (go_at_call 66; refine hr.mono ?_; clear hr; rintro e w1 ⟨rfl, hb⟩; replace hr2 := hr2 w1 hb)
        | (go_at_call 66; refine hr2.mono ?_; clear hr2; rintro e w2 ⟨rfl, hb2⟩; replace hb2 := Bthen hb hb2; replace hj := hj w2 hb2)
        | (go_at_call 73; refine hj.mono ?_; clear hj; rintro e w3 ⟨v, rfl, hown, hb3⟩))
      go_ret2
      exact ⟨_, rfl, by simp only [Rs.minusE, HP.out.1, HP.out.2, Bool.and_self, if_true]; exact ownsRow_base hown hb2.size, Bthen hb2 hb3⟩

set_option maxRecDepth 100000 in
set_option maxHeartbeats 1000000 in
theorem refOf_calls (a : Option Addr) (cap : Nat) (l : Rs.S) (w : World) (h : Sl w a cap l) (hn : l.length < 4611686018427387904) :
    Calls Tryz.prog 32 #[.slice a l.length cap] w (RPair w (Rs.ofE l) (Rs.ofErr l)) := by
  have HSL := Lib.hid h
  clear h
  by_cases hl : 4096 < l.length
  · have e1 : Rs.ofErr l = 5 := if_pos hl
    have e2 : Rs.ofE l = [] := if_neg (by omega)
    rw [e1, e2]
    clear e1 e2
    go_enter Tryz.func32, Tryz.ntmps32
    go_wp2
    go_ret2
    exact ⟨_, rfl, World.ownsRow_nil _ _ _ _, Below.refl _ _⟩
  · have NOL := Lib.hid hl
    have hl4 : l.length ≤ 4096 := by omega
    clear hl
    go_enter Tryz.func32, Tryz.ntmps32
    go_wp2
    go_loopw [4] (fun i wr => ∃ k : Nat, k ≤ l.length ∧ i = .int .i64 k ∧ (l.take k).all Rs.rgB = true ∧ Below w.heap.size w wr) (fun i _ => l.length - (intOf i).toNat)
    case atStart => exact ⟨0, Nat.zero_le _, rfl, rfl, Below.refl _ _⟩
    case round =>
      obtain ⟨k, hk, rfl, hall, hb⟩ := hrel
      have hbs := hb.size
      by_cases hlt : k < l.length
      · obtain ⟨b, off, rfl, hbl, hc⟩ := HSL.out.rd (by intro e; subst e; simp at hlt)
        obtain ⟨r, hr⟩ : ∃ r, l[k]? = some r := ⟨_, List.getElem?_eq_getElem hlt⟩
        obtain ⟨c0, c1⟩ := hc k _ hr
        rw [← hb.cell (by exact hbl)] at c0 c1
        have hbw : b < wr.heap.size := by omega
        have HST := Lib.hid (fun hp => Rs.all_step hr hall hp)
        have HNO := Lib.hid (fun hp => Rs.all_no (p := Rs.rgB) hr hp)
        obtain ⟨lo, hi⟩ := r
        dsimp only at c0 c1
        have HB := Lib.hid hb
        clear hr hc hall hb
        have hno : ¬ Rs.rg (lo, hi) → Hid (Rs.ofErr l = 2 ∧ Rs.ofE l = []) := fun hng => by
          have hb : Rs.rgB (lo, hi) = false := by
            cases hq : Rs.rgB (lo, hi)
            · rfl
            · exact absurd ((Rs.rgB_iff _).1 hq) hng
          have := HNO.out hb
          exact Lib.hid ⟨by unfold Rs.ofErr; rw [if_neg NOL.out, this]; rfl, by unfold Rs.ofE; rw [this]; simp⟩
        rcases (show lo < 0 ∨ (0 ≤ lo ∧ 1114111 < hi) ∨ (0 ≤ lo ∧ hi ≤ 1114111 ∧ hi < lo) ∨ (0 ≤ lo ∧ hi ≤ 1114111 ∧ lo ≤ hi) by omega) with h1 | ⟨h1, h2⟩ | ⟨h1, h2, h3⟩ | ⟨h1, h2, h3⟩
        · have HE := hno (fun hg => by have := hg.1; simp only at this; omega)
          have d1 : decide (lo < 0) = true := by simpa using h1
          clear hno
          go_wp2_with fail
          go_big_quiet (fail)
          go_wp2
          go_ret2
          exact ⟨_, by rw [HE.out.1]; rfl, by rw [HE.out.2]; exact World.ownsRow_nil _ _ _ _, Bdrew HB.out _⟩
        · have HE := hno (fun hg => by have := hg.2.2; simp only at this; omega)
          have d1 : decide (lo < 0) = false := by simp; omega
          have d2 : decide (1114111 < hi) = true := by simpa using h2
          clear hno
          go_wp2_with fail
          go_big_quiet (fail)
          go_wp2
          go_ret2
          exact ⟨_, by rw [HE.out.1]; rfl, by rw [HE.out.2]; exact World.ownsRow_nil _ _ _ _, Bdrew HB.out _⟩
        · have HE := hno (fun hg => by have := hg.2.1; simp only at this; omega)
          have d1 : decide (lo < 0) = false := by simp; omega
          have d2 : decide (1114111 < hi) = false := by simp; omega
          have d3 : decide (hi < lo) = true := by simpa using h3
          clear hno
          go_wp2_with fail
          go_big_quiet (fail)
          go_wp2
          go_ret2
          exact ⟨_, by rw [HE.out.1]; rfl, by rw [HE.out.2]; exact World.ownsRow_nil _ _ _ _, Bdrew HB.out _⟩
        · have HE := Lib.hid (HST.out ((Rs.rgB_iff _).2 ⟨h1, h3, h2⟩))
          have d1 : decide (lo < 0) = false := by simp; omega
          have d2 : decide (1114111 < hi) = false := by simp; omega
          have d3 : decide (hi < lo) = false := by simp; omega
          clear hno
          go_wp2_with fail
          go_big_quiet (fail)
          go_wp2
          go_roundw
          case rel => exact ⟨k + 1, by omega, by go_num, HE.out, Bdrew HB.out _⟩
          case measure => simp [intOf]; omega
      · rw [List.take_of_length_le (by omega)] at hall
        have hrg : ∀ r ∈ l, Rs.rg r := fun r hr => (Rs.rgB_iff r).1 (List.all_eq_true.1 hall r hr)
        have HE : Hid (Rs.ofErr l = 0 ∧ Rs.ofE l = Rs.setOf l) := Lib.hid ⟨by unfold Rs.ofErr; rw [if_neg NOL.out, hall]; rfl, by unfold Rs.ofE; rw [hall]; simp; omega⟩
        have hj := join_calls a none cap 0 l [] (Rs.setOf l) true false false false wr (HSL.out.below hb) (Sl.nil0 _) (by omega) (by simp) (fun r hr => by
          obtain ⟨g1, g2, g3⟩ := hrg r hr
          exact ⟨g1, by omega, by omega, g3⟩) (fun r hr => by cases hr) (Rs.setOf_right l hrg) (fun c => by rw [Rs.jf_set, Rs.setOf_mem l hrg])
        have HB := Lib.hid hb
        clear hall hrg hb
        go_wp2_with (go_at_call 73; refine hj.mono ?_; clear hj; rintro e w2 ⟨v, rfl, hown, hb2⟩)
        go_ret2
        exact ⟨_, by rw [HE.out.1]; rfl, by rw [HE.out.2]; exact ownsRow_base hown hbs, Bthen HB.out hb2⟩
end Go.Proofs.YtkjilodmmcefbaaGreatDoor
