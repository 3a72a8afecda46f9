/- Several parts in one text: ClsK, ClsF, LHas, Eq. -/
import Derived.Test.YtiooimdncocfdaaGreatDoorSlB
import Derived.Laws.StructEq
/- Package class: Not, Or, And, Minus, Of. -/
namespace Go.Proofs.YtiooimdncocfdaaGreatDoor
namespace Rs
theorem cnt_len : ∀ (l : S) (h : Int), rightA h l = true → (l.length : Int) ≤ cnt l
  | [], _, _ => by simp [cnt]
  | r :: l, h, hr => by
    obtain ⟨ho, hl, ht⟩ := (rightA_cons h r l).1 hr
    have := (okR_iff r).1 ho
    have h2 := cnt_len l r.2 ht
    simp only [cnt, List.length_cons] at *
    push_cast
    omega
theorem right_len {l : S} (h : right l = true) : l.length ≤ 1114113 := by
  have h1 := cnt_len l _ h
  have h2 := cnt_le h
  omega
def err (b : Bool) : Int := if b then 0 else 60
def notE (l : S) : S := if right l then notS l else []
def orE (a b : S) : S := if right a && right b then orS a b else []
def andE (a b : S) : S := if right a && right b then andS a b else []
def minusE (a b : S) : S := if right a && right b then minusS a b else []
end Rs
open Go.RowKit Go.Shelf

set_option maxRecDepth 100000 in
set_option maxHeartbeats 1000000 in
theorem Not_calls (a : Option Addr) (cap : Nat) (l : Rs.S) (w : World) (h : Sl w a cap l) (hn : l.length < 4611686018427387904) :
    Calls Tryz.prog 21 #[.slice a l.length cap] w fun e w' => ∃ v, e = .returned (.tuple #[v, .int .i64 (Rs.err (Rs.right l))]) ∧ w'.ownsRow w.heap.size 27 2 v (Rs.notE l).length (rFlat (Rs.notE l)) ∧ Below w.heap.size w w' := by
  have hr := right_calls a cap l w h.rd hn
  cases hp : Rs.right l
  · rw [hp] at hr
    go_enter Tryz.func21, Tryz.ntmps21
    go_wp2_with (go_at_call 24; refine hr.mono ?_; clear hr; rintro e w1 ⟨rfl, hb⟩)
    go_ret2
    exact ⟨_, rfl, by simp only [Rs.notE, hp]; exact World.ownsRow_nil _ _ _ _, hb⟩
  · rw [hp] at hr
    have hlen := Rs.right_len hp
    have hnt := fun w1 (hb : Below w.heap.size w w1) => not_calls a cap l w1 (h.below hb) (by omega) (Rs.right_rg hp) (Rs.gaps_rg l 0 (-2) (by omega) hp)
    have HP := Lib.hid hp
    clear hp h
    go_enter Tryz.func21, Tryz.ntmps21
    go_wp2_with (first
      | (go_at_call 24; refine hr.mono ?_; clear hr; rintro e w1 ⟨rfl, hb⟩; replace hnt := hnt w1 hb)
      | (go_at_call 73; refine hnt.mono ?_; clear hnt; rintro e w2 ⟨v, rfl, hown, hb2⟩))
    go_ret2
    exact ⟨_, rfl, by simp only [Rs.notE, HP.out, if_true]; exact ownsRow_base hown hb.size, hb.trans (hb2.mono hb.size)⟩

theorem Bthen {w w1 w2 : World} (h : Below w.heap.size w w1) (k : Below w1.heap.size w1 w2) : Below w.heap.size w w2 := h.trans (k.mono h.size)
theorem Bnew {w w1 : World} (h : Below w.heap.size w w1) (o : Obj) : Below w.heap.size w (w1.alloc o) := h.alloc h.size o
theorem LsR.two (W : World) (x y : Option Addr × Nat × Rs.S) (T : TypeId) (hx : Sl W x.1 x.2.1 x.2.2) (hy : Sl W y.1 y.2.1 y.2.2) :
    LsR (W.alloc (.cells #[.slice x.1 x.2.2.length x.2.1, .slice y.1 y.2.2.length y.2.1] T)) W.heap.size 0 [x, y] := by
  refine ⟨by simp, fun i z hz => ?_⟩
  match i, hz with
  | 0, hz => cases hz; exact ⟨by simp only [World.cell?, World.alloc_heap_new]; rfl, hx.alloc _⟩
  | 1, hz => cases hz; exact ⟨by simp only [World.cell?, World.alloc_heap_new]; rfl, hy.alloc _⟩

set_option maxRecDepth 100000 in
set_option maxHeartbeats 1000000 in
theorem Or_calls (a b : Option Addr) (ca cb : Nat) (l m : Rs.S) (w : World) (h : Sl w a ca l) (k : Sl w b cb m) (hn : l.length < 4611686018427387904) (hm : m.length < 4611686018427387904) :
    Calls Tryz.prog 18 #[.slice a l.length ca, .slice b m.length cb] w fun e w' => ∃ v, e = .returned (.tuple #[v, .int .i64 (Rs.err (Rs.right l && Rs.right m))]) ∧ w'.ownsRow w.heap.size 27 2 v (Rs.orE l m).length (rFlat (Rs.orE l m)) ∧ Below w.heap.size w w' := by
  have hr := right_calls a ca l w h.rd hn
  have hr2 := fun w1 (hb : Below w.heap.size w w1) => right_calls b cb m w1 (k.below hb).rd hm
  cases hp : Rs.right l
  · rw [hp] at hr
    go_enter Tryz.func18, Tryz.ntmps18
    go_wp2_with (go_at_call 24; refine hr.mono ?_; clear hr; rintro e w1 ⟨rfl, hb⟩)
    go_ret2
    exact ⟨_, rfl, by simp only [Rs.orE, hp]; exact World.ownsRow_nil _ _ _ _, hb⟩
  · rw [hp] at hr
    cases hq : Rs.right m
    · rw [hq] at hr2
      go_enter Tryz.func18, Tryz.ntmps18
      go_wp2_with (first
        | (go_at_call 24; refine hr.mono ?_; clear hr; rintro e w1 ⟨rfl, hb⟩; replace hr2 := hr2 w1 hb)
        | (go_at_call 24; refine hr2.mono ?_; clear hr2; rintro e w2 ⟨rfl, hb2⟩))
      go_ret2
      exact ⟨_, rfl, by simp only [Rs.orE, hp, hq]; exact World.ownsRow_nil _ _ _ _, hb.trans (hb2.mono hb.size)⟩
    · rw [hq] at hr2
      have hlen := Rs.right_len hp
      have hlen2 := Rs.right_len hq
      have hcc := fun w2 (hb : Below w.heap.size w w2) => concat_calls _ 0 2 [(a, ca, l), (b, cb, m)] _ (LsR.two w2 (a, ca, l) (b, cb, m) 24 (h.below hb) (k.below hb)) (by simp [lsAll]; omega) (by simp)
      have hof := fun w3 a3 c3 (h3 : Sl w3 a3 c3 (l ++ m)) => of_calls' a3 c3 (l ++ m) w3 h3 (by simp; omega) (Rs.rg_append (Rs.right_rg hp) (Rs.right_rg hq))
      have HP := Lib.hid (show _ ∧ _ from ⟨hp, hq⟩)
      clear hp hq h k
      go_enter Tryz.func18, Tryz.ntmps18
      go_wp2_with (first
        | (go_at_call 24; refine hr.mono ?_; clear hr; rintro e w1 ⟨rfl, hb⟩; replace hr2 := hr2 w1 hb)
        | (go_at_call 24; refine hr2.mono ?_; clear hr2; rintro e w2 ⟨rfl, hb2⟩; replace hcc := hcc w2 (hb.trans (hb2.mono hb.size)))
        | (go_at_call 72; refine hcc.mono ?_; clear hcc; rintro e w3 ⟨v3, rfl, hown3, hb3⟩;
                                        have e3 : lsAll [(a, ca, l), (b, cb, m)] = l ++ m := (by simp [lsAll]);
                                        rw [e3] at hown3;
                                        obtain ⟨a3, c3, rfl, _, hs3⟩ := Sl.of_own hown3;
                                        replace hof := hof w3 a3 c3 hs3;
                                        rw [List.length_append] at hof;
                                        clear hown3 e3 hs3)
        | (go_at_call 71; refine hof.mono ?_; clear hof; rintro e w4 ⟨v4, rfl, hown4, hb4⟩))
      go_ret2
      have B3 := Bthen (Bnew (Bthen hb hb2) _) hb3
      exact ⟨_, rfl, by simp only [Rs.orE, HP.out.1, HP.out.2, Bool.and_self, if_true]; exact ownsRow_base hown4 B3.size, Bthen B3 hb4⟩

set_option maxRecDepth 100000 in
set_option maxHeartbeats 1000000 in
theorem And_calls (a b : Option Addr) (ca cb : Nat) (l m : Rs.S) (w : World) (h : Sl w a ca l) (k : Sl w b cb m) (hn : l.length < 4611686018427387904) (hm : m.length < 4611686018427387904) :
    Calls Tryz.prog 19 #[.slice a l.length ca, .slice b m.length cb] w fun e w' => ∃ v, e = .returned (.tuple #[v, .int .i64 (Rs.err (Rs.right l && Rs.right m))]) ∧ w'.ownsRow w.heap.size 27 2 v (Rs.andE l m).length (rFlat (Rs.andE l m)) ∧ Below w.heap.size w w' := by
  have hr := right_calls a ca l w h.rd hn
  have hr2 := fun w1 (hb : Below w.heap.size w w1) => right_calls b cb m w1 (k.below hb).rd hm
  cases hp : Rs.right l
  · rw [hp] at hr
    go_enter Tryz.func19, Tryz.ntmps19
    go_wp2_with (go_at_call 24; refine hr.mono ?_; clear hr; rintro e w1 ⟨rfl, hb⟩)
    go_ret2
    exact ⟨_, rfl, by simp only [Rs.andE, hp]; exact World.ownsRow_nil _ _ _ _, hb⟩
  · rw [hp] at hr
    cases hq : Rs.right m
    · rw [hq] at hr2
      go_enter Tryz.func19, Tryz.ntmps19
      go_wp2_with (first
        | (go_at_call 24; refine hr.mono ?_; clear hr; rintro e w1 ⟨rfl, hb⟩; replace hr2 := hr2 w1 hb)
        | (go_at_call 24; refine hr2.mono ?_; clear hr2; rintro e w2 ⟨rfl, hb2⟩))
      go_ret2
      exact ⟨_, rfl, by simp only [Rs.andE, hp, hq]; exact World.ownsRow_nil _ _ _ _, hb.trans (hb2.mono hb.size)⟩
    · rw [hq] at hr2
      have hlen := Rs.right_len hp
      have hlen2 := Rs.right_len hq
      have hlen3 := Rs.right_len (Rs.notS_right hp)
      have hlen4 := Rs.right_len (Rs.notS_right hq)
      have hor := Rs.orS_right (Rs.notS_right hp) (Rs.notS_right hq)
      have hlen5 := Rs.right_len hor
      have hn1 := fun w2 (hb : Below w.heap.size w w2) => not_calls a ca l w2 (h.below hb) (by omega) (Rs.right_rg hp) (Rs.gaps_rg l 0 (-2) (by omega) hp)
      have hn2 := fun w2 (hb : Below w.heap.size w w2) => not_calls b cb m w2 (k.below hb) (by omega) (Rs.right_rg hq) (Rs.gaps_rg m 0 (-2) (by omega) hq)
      have hcc := fun w2 x cx y cy (hx : Sl w2 x cx (Rs.notS l)) (hy : Sl w2 y cy (Rs.notS m)) => concat_calls _ 0 2 [(x, cx, Rs.notS l), (y, cy, Rs.notS m)] _ (LsR.two w2 (x, cx, Rs.notS l) (y, cy, Rs.notS m) 24 hx hy) (by simp [lsAll]; omega) (by simp)
      have hof := fun w3 a3 c3 (h3 : Sl w3 a3 c3 (Rs.notS l ++ Rs.notS m)) => of_calls' a3 c3 (Rs.notS l ++ Rs.notS m) w3 h3 (by simp; omega) (Rs.rg_append (Rs.right_rg (Rs.notS_right hp)) (Rs.right_rg (Rs.notS_right hq)))
      have hn3 := fun w4 a4 c4 (h4 : Sl w4 a4 c4 (Rs.orS (Rs.notS l) (Rs.notS m))) => not_calls a4 c4 _ w4 h4 (by omega) (Rs.right_rg hor) (Rs.gaps_rg _ 0 (-2) (by omega) hor)
      have HP := Lib.hid (show _ ∧ _ from ⟨hp, hq⟩)
      clear hp hq h k hor
      unfold Rs.orS at hn3 hlen5
      generalize hNL : Rs.notS l = NL at *
      generalize hNM : Rs.notS m = NM at *
      have HN := Lib.hid (show _ ∧ _ from ⟨hNL, hNM⟩)
      clear hNL hNM
      go_enter Tryz.func19, Tryz.ntmps19
      go_wp2_with (first
        | (go_at_call 24; refine hr.mono ?_; clear hr; rintro e w1 ⟨rfl, hb⟩; replace hr2 := hr2 w1 hb)
        | (go_at_call 24; refine hr2.mono ?_; clear hr2; rintro e w2 ⟨rfl, hb2⟩; replace hb2 := Bthen hb hb2; replace hn1 := hn1 w2 hb2)
        | (go_at_call 73; refine hn1.mono ?_; clear hn1; rintro e w3 ⟨v3, rfl, hown3, hb3⟩;
                                        replace hn2 := hn2 w3 (Bthen hb2 hb3);
                                        obtain ⟨a3, c3, rfl, _, hs3⟩ := Sl.of_own hown3;
                                        clear hown3)
        | (go_at_call 73; refine hn2.mono ?_; clear hn2; rintro e w4 ⟨v4, rfl, hown4, hb4⟩;
                                        obtain ⟨a4, c4, rfl, _, hs4⟩ := Sl.of_own hown4;
                                        replace hcc := hcc w4 a3 c3 a4 c4 (hs3.below hb4) hs4;
                                        clear hown4 hs3 hs4)
        | (go_at_call 72; refine hcc.mono ?_; clear hcc; rintro e w5 ⟨v5, rfl, hown5, hb5⟩;
                                        have e3 : lsAll [(a3, c3, NL), (a4, c4, NM)] = NL ++ NM := (by simp [lsAll]);
                                        rw [e3] at hown5;
                                        obtain ⟨a5, c5, rfl, _, hs5⟩ := Sl.of_own hown5;
                                        replace hof := hof w5 a5 c5 hs5;
                                        rw [List.length_append] at hof;
                                        clear hown5 e3 hs5)
        | (go_at_call 71; refine hof.mono ?_; clear hof; rintro e w6 ⟨v6, rfl, hown6, hb6⟩;
                                        obtain ⟨a6, c6, rfl, _, hs6⟩ := Sl.of_own hown6;
                                        replace hn3 := hn3 w6 a6 c6 hs6;
                                        clear hown6 hs6)
        | (go_at_call 73; refine hn3.mono ?_; clear hn3; rintro e w7 ⟨v7, rfl, hown7, hb7⟩))
      go_ret2
      have B6 := Bthen (Bthen (Bnew (Bthen (Bthen hb2 hb3) hb4) _) hb5) hb6
      exact ⟨_, rfl, by simp only [Rs.andE, HP.out.1, HP.out.2, Bool.and_self, if_true]; unfold Rs.andS Rs.orS; rw [HN.out.1, HN.out.2]; exact ownsRow_base hown7 B6.size, Bthen B6 hb7⟩

set_option maxRecDepth 100000 in
set_option maxHeartbeats 1000000 in
theorem Minus_calls (a b : Option Addr) (ca cb : Nat) (l m : Rs.S) (w : World) (h : Sl w a ca l) (k : Sl w b cb m) (hn : l.length < 4611686018427387904) (hm : m.length < 4611686018427387904) :
    Calls Tryz.prog 20 #[.slice a l.length ca, .slice b m.length cb] w fun e w' => ∃ v, e = .returned (.tuple #[v, .int .i64 (Rs.err (Rs.right l && Rs.right m))]) ∧ w'.ownsRow w.heap.size 27 2 v (Rs.minusE l m).length (rFlat (Rs.minusE l m)) ∧ Below w.heap.size w w' := by
  have hr := right_calls a ca l w h.rd hn
  have hr2 := fun w1 (hb : Below w.heap.size w w1) => right_calls b cb m w1 (k.below hb).rd hm
  cases hp : Rs.right l
  · rw [hp] at hr
    go_enter Tryz.func20, Tryz.ntmps20
    go_wp2_with (go_at_call 24; refine hr.mono ?_; clear hr; rintro e w1 ⟨rfl, hb⟩)
    go_ret2
    exact ⟨_, rfl, by simp only [Rs.minusE, hp]; exact World.ownsRow_nil _ _ _ _, hb⟩
  · rw [hp] at hr
    cases hq : Rs.right m
    · rw [hq] at hr2
      go_enter Tryz.func20, Tryz.ntmps20
      go_wp2_with (first
        | (go_at_call 24; refine hr.mono ?_; clear hr; rintro e w1 ⟨rfl, hb⟩; replace hr2 := hr2 w1 hb)
        | (go_at_call 24; refine hr2.mono ?_; clear hr2; rintro e w2 ⟨rfl, hb2⟩))
      go_ret2
      exact ⟨_, rfl, by simp only [Rs.minusE, hp, hq]; exact World.ownsRow_nil _ _ _ _, hb.trans (hb2.mono hb.size)⟩
    · rw [hq] at hr2
      have hlen := Rs.right_len hp
      have hlen2 := Rs.right_len hq
      have hrn := Rs.notS_right hq
      have hlen4 := Rs.right_len hrn
      have hn2 := fun w2 (hb : Below w.heap.size w w2) => not_calls b cb m w2 (k.below hb) (by omega) (Rs.right_rg hq) (Rs.gaps_rg m 0 (-2) (by omega) hq)
      have han := fun w3 (hb : Below w.heap.size w w3) x cx (hx : Sl w3 x cx (Rs.notS m)) => And_calls a x ca cx l (Rs.notS m) w3 (h.below hb) hx (by omega) (by omega)
      have HP := Lib.hid (show _ ∧ _ ∧ _ from ⟨hp, hq, hrn⟩)
      simp only [hp, hrn, Bool.and_self] at han
      clear hp hq h k hrn
      go_enter Tryz.func20, Tryz.ntmps20
      go_wp2_with (first
        | (go_at_call 24; refine hr.mono ?_; clear hr; rintro e w1 ⟨rfl, hb⟩; replace hr2 := hr2 w1 hb)
        | (go_at_call 24; refine hr2.mono ?_; clear hr2; rintro e w2 ⟨rfl, hb2⟩; replace hb2 := Bthen hb hb2; replace hn2 := hn2 w2 hb2)
        | (go_at_call 73; refine hn2.mono ?_; clear hn2; rintro e w3 ⟨v3, rfl, hown3, hb3⟩;
                                        obtain ⟨a3, c3, rfl, _, hs3⟩ := Sl.of_own hown3;
                                        replace han := han w3 (Bthen hb2 hb3) a3 c3 hs3;
                                        clear hown3 hs3)
        | (go_at_call 19; refine han.mono ?_; clear han; rintro e w4 ⟨v4, rfl, hown4, hb4⟩))
      go_ret2
      have B3 := Bthen hb2 hb3
      exact ⟨_, rfl, by simp only [Rs.minusE, HP.out.1, HP.out.2, Bool.and_self, if_true]; simp only [Rs.andE, HP.out.1, HP.out.2.2, Bool.and_self, if_true] at hown4; exact ownsRow_base hown4 B3.size, Bthen B3 hb4⟩
end Go.Proofs.YtiooimdncocfdaaGreatDoor
/- Package class: Of. -/
namespace Go.Proofs.YtiooimdncocfdaaGreatDoor
namespace Rs
def rgB (r : R) : Bool := decide (0 ≤ r.1) && decide (r.1 ≤ r.2) && decide (r.2 ≤ 1114111)
theorem rgB_iff (r : R) : rgB r = true ↔ rg r := by simp [rgB, rg, and_assoc]
def ofErr (l : S) : Int := if 4096 < l.length then 5 else if l.all rgB then 0 else 2
def ofE (l : S) : S := if l.length ≤ 4096 ∧ l.all rgB = true then setOf l else []
theorem all_step {p : R → Bool} {l : S} {k : Nat} {r : R} (hr : l[k]? = some r) (h : (l.take k).all p = true) (hp : p r = true) : (l.take (k + 1)).all p = true := by rw [take_succ hr, List.all_append, h]; simp [hp]
theorem all_no {p : R → Bool} {l : S} {k : Nat} {r : R} (hr : l[k]? = some r) (hp : p r = false) : l.all p = false := by
  cases h : l.all p
  · rfl
  · have := List.all_eq_true.1 h r (List.mem_of_getElem? hr)
    rw [hp] at this; cases this
end Rs
open Go.RowKit Go.Shelf

set_option maxRecDepth 100000 in
set_option maxHeartbeats 1000000 in
theorem Of_calls (a : Option Addr) (cap : Nat) (l : Rs.S) (w : World) (h : Sl w a cap l) (hn : l.length < 4611686018427387904) :
    Calls Tryz.prog 27 #[.slice a l.length cap] w fun e w' => ∃ v, e = .returned (.tuple #[v, .int .i64 (Rs.ofErr l)]) ∧ w'.ownsRow w.heap.size 27 2 v (Rs.ofE l).length (rFlat (Rs.ofE l)) ∧ Below w.heap.size w w' := by
  have HSL := Lib.hid h
  clear h
  by_cases hl : 4096 < l.length
  · have e1 : Rs.ofErr l = 5 := if_pos hl
    have e2 : Rs.ofE l = [] := if_neg (by omega)
    rw [e1, e2]
    clear e1 e2
    go_enter Tryz.func27, Tryz.ntmps27
    go_wp2
    go_ret2
    exact ⟨_, rfl, World.ownsRow_nil _ _ _ _, Below.refl _ _⟩
  · have NOL := Lib.hid hl
    have hl4 : l.length ≤ 4096 := by omega
    clear hl
    go_enter Tryz.func27, Tryz.ntmps27
    go_wp2
    go_loopw [11] (fun i wr => ∃ k : Nat, k ≤ l.length ∧ i = .int .i64 k ∧ (l.take k).all Rs.rgB = true ∧ Below w.heap.size w wr) (fun i _ => l.length - (intOf i).toNat)
    case atStart => exact ⟨0, Nat.zero_le _, rfl, rfl, Below.refl _ _⟩
    case round =>
      obtain ⟨k, hk, rfl, hall, hb⟩ := hrel
      have HALL := Lib.hid hall
      clear hall
      have hbs := hb.size
      by_cases hlt : k < l.length
      · obtain ⟨b, off, rfl, hbl, hc⟩ := HSL.out.rd (by intro e; subst e; simp at hlt)
        obtain ⟨r, hr⟩ : ∃ r, l[k]? = some r := ⟨_, List.getElem?_eq_getElem hlt⟩
        obtain ⟨c0, c1⟩ := hc k _ hr
        rw [← hb.cell (by exact hbl)] at c0 c1
        have HR := Lib.hid hr
        clear hr hc
        obtain ⟨lo, hi⟩ := r
        dsimp only at c0 c1
        have HB := Lib.hid (hb.alloc hbs (.cells #[.int .i64 lo, .int .i64 hi] 27))
        have no : ¬ Rs.rg (lo, hi) → Hid (Rs.ofErr l = 2 ∧ Rs.ofE l = []) := fun hng => by
          have hf : Rs.rgB (lo, hi) = false := by rw [← Bool.not_eq_true, Rs.rgB_iff]; exact hng
          have := Rs.all_no HR.out hf
          exact Lib.hid ⟨by unfold Rs.ofErr; rw [if_neg NOL.out, this]; rfl, by unfold Rs.ofE; rw [this]; simp⟩
        by_cases h1 : lo < 0
        · have NO := no (fun h => by unfold Rs.rg at h; simp only at h; omega)
          clear no
          go_wp2
          go_ret2
          exact ⟨_, by rw [NO.out.1]; rfl, by rw [NO.out.2]; exact World.ownsRow_nil _ _ _ _, HB.out⟩
        · by_cases h2 : hi < lo
          · have NO := no (fun h => by unfold Rs.rg at h; simp only at h; omega)
            clear no
            go_wp2
            go_ret2
            exact ⟨_, by rw [NO.out.1]; rfl, by rw [NO.out.2]; exact World.ownsRow_nil _ _ _ _, HB.out⟩
          · by_cases h3 : 1114111 < hi
            · have NO := no (fun h => by unfold Rs.rg at h; simp only at h; omega)
              clear no
              go_wp2
              go_ret2
              exact ⟨_, by rw [NO.out.1]; rfl, by rw [NO.out.2]; exact World.ownsRow_nil _ _ _ _, HB.out⟩
            · clear no
              have ok : Hid (Rs.rgB (lo, hi) = true) := Lib.hid ((Rs.rgB_iff _).2 ⟨by simp only; omega, by simp only; omega, by simp only; omega⟩)
              go_wp2
              go_roundw
              case rel => exact ⟨k + 1, by omega, by go_num, Rs.all_step HR.out HALL.out ok.out, HB.out⟩
              case measure => simp [intOf]; omega
      · have hkk : l.take k = l := List.take_of_length_le (by omega)
        have hall := HALL.out
        rw [hkk] at hall
        have hof := of_calls' a cap l wr (HSL.out.below hb) (by omega) (fun r hr => (Rs.rgB_iff r).1 (List.all_eq_true.1 hall r hr))
        have e1 : Hid (Rs.ofErr l = 0 ∧ Rs.ofE l = Rs.setOf l) := Lib.hid ⟨by unfold Rs.ofErr; rw [if_neg NOL.out, hall]; rfl, by unfold Rs.ofE; rw [hall]; simp; omega⟩
        clear hkk hall
        go_wp2_with (go_at_call 71; refine hof.mono ?_; clear hof; rintro e w4 ⟨v4, rfl, hown4, hb4⟩)
        go_ret2
        exact ⟨_, by rw [e1.out.1]; rfl, by rw [e1.out.2]; exact ownsRow_base hown4 hbs, Bthen hb hb4⟩
end Go.Proofs.YtiooimdncocfdaaGreatDoor
/- slices.Equal at ranges. -/
namespace Go.Proofs.YtiooimdncocfdaaGreatDoor
open Go.RowKit Go.Shelf

theorem run_neq_R (x y : Rs.R) (w : World) : (binOp .neq 27 (.agg #[.int .i64 x.1, .int .i64 x.2]) (.agg #[.int .i64 y.1, .int .i64 y.2])).run Tryz.prog w = .ok (.bool (!decide (x = y))) w := by
  rw [show decide (x = y) = (x.1 == y.1 && x.2 == y.2) by
    obtain ⟨x1, x2⟩ := x
    obtain ⟨y1, y2⟩ := y
    rw [Bool.eq_iff_iff]; simp]
  go_simp
  by_cases h1 : x.1 = y.1 <;> by_cases h2 : x.2 = y.2 <;> simp [h1, h2]

set_option maxRecDepth 100000 in
set_option maxHeartbeats 2000000 in
theorem eq_calls (a b : Option Addr) (ca cb : Nat) (l m : Rs.S) (w : World) (ha : Sl w a ca l) (hb : Sl w b cb m) (hn : l.length < 4611686018427387904) :
    Calls Tryz.prog 67 #[.slice a l.length ca, .slice b m.length cb] w fun e w' => e = .returned (.bool (decide (l = m))) ∧ ∃ n, w' = w.drewN n := by
  have HA := Lib.hid ha
  have HB := Lib.hid hb
  clear ha hb
  by_cases hl : l.length = m.length
  · have hneq : ((l.length : Int) != (m.length : Int)) = false := by simp; omega
    have hl1 : l.length ≤ m.length := by omega
    have hl2 : m.length ≤ l.length := by omega
    clear hl
    go_enter Tryz.func67, Tryz.ntmps67
    go_wp2
    go_loopw [13] (fun i wr => ∃ k n : Nat, k ≤ l.length ∧ i = .int .i64 k ∧ Hid (l.take k = m.take k) ∧ Hid (wr = w.drewN n)) (fun i _ => l.length - (intOf i).toNat)
    case atStart => exact ⟨0, 0, Nat.zero_le _, rfl, Lib.hid (by simp), Lib.hid rfl⟩
    case round =>
      obtain ⟨k, n, hk, rfl, HT, HW⟩ := hrel
      by_cases hlt : k < l.length
      · obtain ⟨ba, oa, rfl, _, hca⟩ := HA.out.rd (by intro e; subst e; simp at hlt)
        obtain ⟨bb, ob, rfl, _, hcb⟩ := HB.out.rd (by intro e; rw [e] at hl1; simp at hl1; rw [hl1] at hlt; simp at hlt)
        obtain ⟨x, hx⟩ : ∃ x, l[k]? = some x := ⟨_, List.getElem?_eq_getElem hlt⟩
        obtain ⟨y, hy⟩ : ∃ y, m[k]? = some y := ⟨_, List.getElem?_eq_getElem (by omega)⟩
        obtain ⟨c0, c1⟩ := hca k _ hx
        obtain ⟨d0, d1⟩ := hcb k _ hy
        rw [← show wr.cell? _ = w.cell? _ by rw [HW.out]; rfl] at c0 c1 d0 d1
        have hne := fun W => run_neq_R x y W
        have HX := Lib.hid (show _ ∧ _ from ⟨hx, hy⟩)
        have hlt2 : k < m.length := by omega
        clear hx hy hca hcb
        by_cases hxy : x = y
        · rw [show (!decide (x = y)) = false by simp [hxy]] at hne
          have HE := Lib.hid hxy
          clear hxy
          go_wp2_with fail
          go_big_quiet (fail)
          go_wp2
          go_roundw
          case rel => exact ⟨k + 1, n + nq, by omega, by go_num, Lib.hid (by rw [Rs.take_succ HX.out.1, Rs.take_succ HX.out.2, HT.out, HE.out]), Lib.hid (by rw [HW.out, World.drewN_drewN])⟩
          case measure => simp [intOf]; omega
        · rw [show (!decide (x = y)) = true by simp [hxy]] at hne
          have HE : Hid (decide (l = m) = false) := Lib.hid (by simp; intro e; subst e; have := HX.out.1.symm.trans HX.out.2; cases this; exact hxy rfl)
          clear hxy
          go_wp2_with fail
          go_big_quiet (fail)
          go_wp2
          go_ret
          exact ⟨by rw [HE.out]; rfl, n + nq, by rw [HW.out, World.drewN_drewN]⟩
      · have hkl : k = l.length := by omega
        have HE : Hid (decide (l = m) = true) := Lib.hid (by have := HT.out; rw [List.take_of_length_le (by omega), List.take_of_length_le (by omega)] at this; simpa using this)
        have hge : ¬ (k : Int) < (l.length : Int) := by omega
        clear hkl
        go_wp2
        go_ret
        exact ⟨by rw [HE.out]; rfl, n, HW.out⟩
  · have hneq : ((l.length : Int) != (m.length : Int)) = true := by simp; omega
    have HE : Hid (decide (l = m) = false) := Lib.hid (by simp; intro e; exact hl (by rw [e]))
    clear hl
    go_enter Tryz.func67, Tryz.ntmps67
    go_wp2
    go_ret
    exact ⟨by rw [HE.out]; rfl, 0, rfl⟩
end Go.Proofs.YtiooimdncocfdaaGreatDoor
