/- What two right sets make, as the law ClassAlgebra takes it: no error, a slice of the set. -/
import Derived.Test.YtiooimdncocfdaaGreatDoorSlD
import Derived.Test.YtiooimdncocfdaaGreatDoorSlC
import Derived.Test.YtiooimdncocfdaaGreatDoorCnt
namespace Go.Proofs.YtiooimdncocfdaaGreatDoor
open Go.RowKit Go.Shelf

/-- A call's pair: a slice that reads as l in what it leaves, and no error. -/
def PairIs (w : World) (l : Rs.S) (e : Ending) (w' : World) : Prop :=
  ∃ a cap, e = .returned (.tuple #[.slice a l.length cap, .int .i64 0]) ∧ Sl w' a cap l ∧ Below w.heap.size w w'
theorem PairIs.of {w w' : World} {l : Rs.S} {e : Ending} {v : Value} (he : e = .returned (.tuple #[v, .int .i64 0])) (ho : w'.ownsRow w.heap.size 27 2 v l.length (rFlat l)) (hb : Below w.heap.size w w') : PairIs w l e w' := by
  obtain ⟨a, cap, rfl, _, hs⟩ := Sl.of_own ho
  exact ⟨a, cap, he, hs, hb⟩
theorem rlen {l : Rs.S} (h : Rs.right l = true) : l.length < 4611686018427387904 := by
  have := Rs.right_len h
  omega
theorem Not_r {a : Option Addr} {cap : Nat} {l : Rs.S} {w : World} (h : Sl w a cap l) (hl : Rs.right l = true) :
    Calls Tryz.prog 21 #[.slice a l.length cap] w (PairIs w (Rs.notS l)) := by
  have c := Not_calls a cap l w h (rlen hl)
  simp only [Rs.notE, Rs.err, hl, if_true] at c
  exact c.mono fun e w' ⟨v, he, ho, hb⟩ => PairIs.of he ho hb
theorem Or_r {a b : Option Addr} {ca cb : Nat} {l m : Rs.S} {w : World} (h : Sl w a ca l) (k : Sl w b cb m) (hl : Rs.right l = true) (hm : Rs.right m = true) :
    Calls Tryz.prog 18 #[.slice a l.length ca, .slice b m.length cb] w (PairIs w (Rs.orS l m)) := by
  have c := Or_calls a b ca cb l m w h k (rlen hl) (rlen hm)
  simp only [Rs.orE, Rs.err, hl, hm, Bool.and_true, if_true] at c
  exact c.mono fun e w' ⟨v, he, ho, hb⟩ => PairIs.of he ho hb
theorem And_r {a b : Option Addr} {ca cb : Nat} {l m : Rs.S} {w : World} (h : Sl w a ca l) (k : Sl w b cb m) (hl : Rs.right l = true) (hm : Rs.right m = true) :
    Calls Tryz.prog 19 #[.slice a l.length ca, .slice b m.length cb] w (PairIs w (Rs.andS l m)) := by
  have c := And_calls a b ca cb l m w h k (rlen hl) (rlen hm)
  simp only [Rs.andE, Rs.err, hl, hm, Bool.and_true, if_true] at c
  exact c.mono fun e w' ⟨v, he, ho, hb⟩ => PairIs.of he ho hb
theorem Minus_r {a b : Option Addr} {ca cb : Nat} {l m : Rs.S} {w : World} (h : Sl w a ca l) (k : Sl w b cb m) (hl : Rs.right l = true) (hm : Rs.right m = true) :
    Calls Tryz.prog 20 #[.slice a l.length ca, .slice b m.length cb] w (PairIs w (Rs.minusS l m)) := by
  have c := Minus_calls a b ca cb l m w h k (rlen hl) (rlen hm)
  simp only [Rs.minusE, Rs.err, hl, hm, Bool.and_true, if_true] at c
  exact c.mono fun e w' ⟨v, he, ho, hb⟩ => PairIs.of he ho hb
theorem Count_r {a : Option Addr} {cap : Nat} {l : Rs.S} {w : World} (h : Sl w a cap l) (hl : Rs.right l = true) :
    Calls Tryz.prog 25 #[.slice a l.length cap] w fun e w' => e = .returned (.int .i64 (Rs.cnt l)) ∧ Below w.heap.size w w' := by
  have c := count_calls a cap l w h.rd (fun _ _ e => (h.sp _ e).2) (rlen hl)
  rw [hl] at c
  exact c
theorem Right_r {a : Option Addr} {cap : Nat} {l : Rs.S} {w : World} (h : Sl w a cap l) (hl : Rs.right l = true) :
    Calls Tryz.prog 24 #[.slice a l.length cap] w fun e w' => e = .returned (.bool true) ∧ Below w.heap.size w w' := by
  have c := right_calls a cap l w h.rd (rlen hl)
  rw [hl] at c
  exact c
theorem Has_r {a : Option Addr} {cap : Nat} {l : Rs.S} {w : World} (c : Int) (h : Sl w a cap l) (hl : Rs.right l = true) :
    Calls Tryz.prog 26 #[.slice a l.length cap, .int .i64 c] w fun e w' => e = .returned (.bool (Rs.mem c l)) ∧ Below w.heap.size w w' := by
  have k := has_calls a cap l c w h (rlen hl)
  rw [hl] at k
  exact k
theorem Eq_r {a b : Option Addr} {ca cb : Nat} {l m : Rs.S} {w : World} (h : Sl w a ca l) (k : Sl w b cb m) (hn : l.length < 4611686018427387904) (he : l = m) :
    Calls Tryz.prog 67 #[.slice a l.length ca, .slice b m.length cb] w fun e w' => e = .returned (.bool true) ∧ Below w.heap.size w w' := by
  have c := eq_calls a b ca cb l m w h k hn
  rw [decide_eq_true he] at c
  exact c.mono fun e w' ⟨h1, n, h2⟩ => ⟨h1, by rw [h2]; exact below_drewN (Below.refl _ _) n⟩
end Go.Proofs.YtiooimdncocfdaaGreatDoor
