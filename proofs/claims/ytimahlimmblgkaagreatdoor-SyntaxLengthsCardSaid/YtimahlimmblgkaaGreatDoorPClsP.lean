/- Texts of the claim, put together: ClsP. -/
import Derived.RangeFuncNested
import Derived.RangeFuncBound
import Derived.RangeFuncCalls
import Derived.RangeFuncLeaves
import Derived.RangeFuncBox
import Derived.Shelf.Abstract
import Derived.Shelf.RegionOpen
import Derived.OwnWalkIn
import Derived.TacticsInMore
import Derived.LoopNIn
import Derived.LoopIn
import Derived.Maps.AppendAt
import Derived.Test.YtimahlimmblgkaaGreatDoorPBaA
namespace Go.Proofs.YtimahlimmblgkaaGreatDoor
open Go.RowKit Go.Shelf
attribute [local go_sem] Oper.semAt_some
def rCells (r : Rs.R) : List Value := [.int .i64 r.1, .int .i64 r.2]
def rAgg (r : Rs.R) : Value := .agg #[.int .i64 r.1, .int .i64 r.2]
def rFlat (l : Rs.S) : List Value := l.flatMap rCells
theorem parts_calls (r : Rs.R) (w : World) : Calls Tryz.prog 190 #[.agg #[.int .i64 r.1, .int .i64 r.2]] w fun e w' =>
    e = .returned (.func (.func 203) #[] #[.pointer (some ⟨w.heap.size, 0, none⟩)]) ∧ w.alloc (.cells #[.int .i64 r.1, .int .i64 r.2] 84) = w' := by
  go_enter Tryz.func190, Tryz.ntmps190
  go_wp2
  go_ret
  exact ⟨rfl, rfl⟩
/-- a range of numbers that are not negative and not too great -/
abbrev PtR := { x : Rs.R // Rs.Bd x }
/-- what a round keeps: the block of the range -/
def KpB (B : Nat) (W W' : World) : Prop := W'.heap[B]? = W.heap[B]?
set_option maxRecDepth 100000 in
set_option maxHeartbeats 2000000 in
theorem parts1_stops (n : Nat) (hn : 1 ≤ n) (B : Nat) (r : Rs.R) (hrg : Rs.rg r) (w : World) (hB : B < w.heap.size) (hb : w.heap[B]? = some (.cells #[.int .i64 r.1, .int .i64 r.2] 84 (0, 0))) :
    SeqStopsK Fence.wide n Tryz.prog 203 #[.pointer (some ⟨B, 0, none⟩)] (fun x : PtR => #[rAgg x.1]) (KpB B) (fun xs => xs.map (·.1) = Rs.parts r) (fun _ => True) 2 w := by
  intro l J Jx W hW hJ hJx hY h0
  have hbW : W.heap[B]? = some (.cells #[.int .i64 r.1, .int .i64 r.2] 84 (0, 0)) := by rw [hW.block B hB]; exact hb
  have c0 : W.cell? ⟨B, 0, none⟩ = some (.int .i64 r.1) := by simp [World.cell?, hbW]
  have c1 : W.cell? ⟨B, 1, none⟩ = some (.int .i64 r.2) := by simp [World.cell?, hbW]
  have HB := Lib.hid hbW
  have HY := Lib.hid hY
  clear hbW hb hY
  obtain ⟨lo, hi⟩ := r
  have g0 : 0 ≤ lo := hrg.1
  have g1 : lo ≤ hi := hrg.2.1
  have g2 : hi ≤ 1114111 := hrg.2.2
  clear hrg
  dsimp only at c0 c1
  refine callsIn_of_wp Tryz.func203 rfl trivial ?_ rfl
  simp only [Tryz.ntmps203, List.size_toArray, List.length_cons, List.length_nil, Nat.reduceAdd, Nat.reduceSub, Array.replicate_succ, Array.replicate_zero, List.push_toArray, List.append_toArray, List.nil_append, List.cons_append]
  have step : ∀ (pre : List PtR) (x : PtR) (W1 : World), J pre W1 → pre.length < 2 → KpB B W W1 → YieldAt Fence.wide (n - 1) Tryz.prog l #[.agg #[.int .i64 x.1.1, .int .i64 x.1.2]] W1 fun e W' =>
      (e = .returned (.bool true) ∧ J (pre ++ [x]) W' ∧ KpB B W W' ∧ W'.cell? ⟨B, 0, none⟩ = some (.int .i64 lo) ∧ W'.cell? ⟨B, 1, none⟩ = some (.int .i64 hi)) ∨ (e = .returned (.bool false) ∧ Jx (pre ++ [x]) W') := by
    intro pre x W1 hj hl hk
    refine (HY.out pre x W1 hj hl).mono fun e W' hR => ?_
    rcases hR with ⟨e1, e2, e3⟩ | h
    · have hK : W'.heap[B]? = W.heap[B]? := e3.trans hk
      exact .inl ⟨e1, e2, hK, by simp [World.cell?, hK, HB.out], by simp [World.cell?, hK, HB.out]⟩
    · exact .inr h
  have STEP := Lib.hid step
  clear step
  by_cases h1 : lo ≤ 55295
  · by_cases h2 : hi ≤ 55295
    · have hp : Hid (Rs.parts (lo, hi) = [(lo, hi)]) := Lib.hid (by simp only [Rs.parts, h1, if_true]; rw [if_neg (by omega), show min hi 55295 = hi from by omega]; rfl)
      obtain ⟨f1, t1, a1, b1, hy1, hR1⟩ := STEP.out [] ⟨(lo, hi), by unfold Rs.Bd; simp only; omega⟩ W h0 (by simp) rfl
      dsimp only at hy1
      gi_wp2
      refine hR1.mono ?_
      rintro e W1 (⟨rfl, hJ1, hk, d0, d1⟩ | ⟨rfl, hx⟩)
      · have HJ := Lib.hid hJ1
        clear hJ1 hy1 c0 c1
        gi_wp2
        go_end0
        exact ⟨⟨_, rfl⟩, .inl ⟨_, by rw [hp.out]; rfl, HJ.out⟩⟩
      · have HX := Lib.hid hx
        clear hx hy1
        gi_wp2
        refine bodyPost_ret (results_none rfl _ _ _) rfl ?_
        exact ⟨⟨_, rfl⟩, .inr ⟨_, trivial, HX.out⟩⟩
    · obtain ⟨f1, t1, a1, b1, hy1, hR1⟩ := STEP.out [] ⟨(lo, 55295), by unfold Rs.Bd; simp only; omega⟩ W h0 (by simp) rfl
      dsimp only at hy1
      by_cases h3 : 57344 ≤ hi
      · have hp : Hid (Rs.parts (lo, hi) = [(lo, 55295), (57344, hi)]) := Lib.hid (by simp only [Rs.parts, h1, h3, if_true]; rw [show min hi 55295 = 55295 from by omega, show max lo 57344 = 57344 from by omega]; rfl)
        gi_wp2
        refine hR1.mono ?_
        rintro e W1 (⟨rfl, hJ1, hk, d0, d1⟩ | ⟨rfl, hx⟩)
        · obtain ⟨f2, t2, a2, b2, hy2, hR2⟩ := STEP.out [⟨(lo, 55295), by unfold Rs.Bd; simp only; omega⟩] ⟨(57344, hi), by unfold Rs.Bd; simp only; omega⟩ W1 hJ1 (by simp) hk
          dsimp only at hy2
          clear hy1 c0 c1 hJ1 hk
          gi_wp2
          refine hR2.mono ?_
          rintro e W2 (⟨rfl, hJ2, hk2, _, _⟩ | ⟨rfl, hx2⟩)
          · have HJ := Lib.hid hJ2
            clear hJ2 hy2 d0 d1
            gi_wp2
            go_end0
            exact ⟨⟨_, rfl⟩, .inl ⟨_, by rw [hp.out]; rfl, HJ.out⟩⟩
          · have HX := Lib.hid hx2
            clear hx2 hy2 d0 d1
            gi_wp2
            go_end0
            exact ⟨⟨_, rfl⟩, .inr ⟨_, trivial, HX.out⟩⟩
        · have HX := Lib.hid hx
          clear hx hy1
          gi_wp2
          refine bodyPost_ret (results_none rfl _ _ _) rfl ?_
          exact ⟨⟨_, rfl⟩, .inr ⟨_, trivial, HX.out⟩⟩
      · have hp : Hid (Rs.parts (lo, hi) = [(lo, 55295)]) := Lib.hid (by simp only [Rs.parts, h1, if_true]; rw [if_neg h3, show min hi 55295 = 55295 from by omega]; rfl)
        gi_wp2
        refine hR1.mono ?_
        rintro e W1 (⟨rfl, hJ1, hk, d0, d1⟩ | ⟨rfl, hx⟩)
        · have HJ := Lib.hid hJ1
          clear hJ1 hy1 c0 c1
          gi_wp2
          go_end0
          exact ⟨⟨_, rfl⟩, .inl ⟨_, by rw [hp.out]; rfl, HJ.out⟩⟩
        · have HX := Lib.hid hx
          clear hx hy1
          gi_wp2
          refine bodyPost_ret (results_none rfl _ _ _) rfl ?_
          exact ⟨⟨_, rfl⟩, .inr ⟨_, trivial, HX.out⟩⟩
  · by_cases h3 : 57344 ≤ hi
    · by_cases h4 : lo < 57344
      · have hp : Hid (Rs.parts (lo, hi) = [(57344, hi)]) := Lib.hid (by simp only [Rs.parts, h3, if_true]; rw [if_neg h1, show max lo 57344 = 57344 from by omega]; rfl)
        obtain ⟨f1, t1, a1, b1, hy1, hR1⟩ := STEP.out [] ⟨(57344, hi), by unfold Rs.Bd; simp only; omega⟩ W h0 (by simp) rfl
        dsimp only at hy1
        gi_wp2
        refine ⟨fun _ h => (by cases h), ?_⟩
        gi_wp2
        refine hR1.mono ?_
        rintro e W1 (⟨rfl, hJ1, hk, d0, d1⟩ | ⟨rfl, hx⟩)
        · have HJ := Lib.hid hJ1
          clear hJ1 hy1 c0 c1
          gi_wp2
          go_end0
          exact ⟨⟨_, rfl⟩, .inl ⟨_, by rw [hp.out]; rfl, HJ.out⟩⟩
        · have HX := Lib.hid hx
          clear hx hy1
          gi_wp2
          go_end0
          exact ⟨⟨_, rfl⟩, .inr ⟨_, trivial, HX.out⟩⟩
      · have hp : Hid (Rs.parts (lo, hi) = [(lo, hi)]) := Lib.hid (by simp only [Rs.parts, h3, if_true]; rw [if_neg h1, show max lo 57344 = lo from by omega]; rfl)
        obtain ⟨f1, t1, a1, b1, hy1, hR1⟩ := STEP.out [] ⟨(lo, hi), by unfold Rs.Bd; simp only; omega⟩ W h0 (by simp) rfl
        dsimp only at hy1
        gi_wp2
        refine ⟨fun _ h => (by cases h), ?_⟩
        gi_wp2
        refine hR1.mono ?_
        rintro e W1 (⟨rfl, hJ1, hk, d0, d1⟩ | ⟨rfl, hx⟩)
        · have HJ := Lib.hid hJ1
          clear hJ1 hy1 c0 c1
          gi_wp2
          go_end0
          exact ⟨⟨_, rfl⟩, .inl ⟨_, by rw [hp.out]; rfl, HJ.out⟩⟩
        · have HX := Lib.hid hx
          clear hx hy1
          gi_wp2
          go_end0
          exact ⟨⟨_, rfl⟩, .inr ⟨_, trivial, HX.out⟩⟩
    · have hp : Hid (Rs.parts (lo, hi) = []) := Lib.hid (by simp only [Rs.parts]; rw [if_neg h1, if_neg h3]; rfl)
      gi_wp2
      refine ⟨fun _ h => (by cases h), ?_⟩
      gi_wp2
      go_end0
      exact ⟨⟨_, rfl⟩, .inl ⟨_, by rw [hp.out]; rfl, h0⟩⟩
end Go.Proofs.YtimahlimmblgkaaGreatDoor
