/- Contracts in the form in which the laws take them: what Read, Text, Escape, Named and Of return at arguments that are known to be right. -/
import Derived.Test.YtiooimdncocfdaaGreatDoorAlgA
import Derived.Test.YtiooimdncocfdaaGreatDoorBkP
import Derived.Test.YtiooimdncocfdaaGreatDoorText
namespace Go.Proofs.YtiooimdncocfdaaGreatDoor
open Go.RowKit Go.Shelf

/-- A call's three results: a slice that reads as l, a length, an error. -/
def ReadIs (w : World) (l : Rs.S) (n : Nat) (er : Int) (e : Ending) (w' : World) : Prop :=
  ∃ a cap, e = .returned (.tuple #[.slice a l.length cap, .int .i64 (n : Int), .int .i64 er]) ∧ Sl w' a cap l ∧ Below w.heap.size w w'
theorem Read_ok {s : ByteArray} {t : List UInt8} {l : Rs.S} {n : Nat} {w : World} (hL : Lv w) (hs : s.size ≤ 100000000000) (ht : s.data.toList = t) (h : Rs.readF t = some (l, n)) :
    Calls Tryz.prog 28 #[.string s] w (ReadIs w l n 0) := by
  subst ht
  refine (read_calls s w hL hs).mono fun e w' ⟨v, he, ho, hb⟩ => ?_
  obtain ⟨e1, e2, e3⟩ := Rs.read_some h
  rw [e1] at ho
  obtain ⟨a, cap, rfl, _, hsl⟩ := Sl.of_own ho
  exact ⟨a, cap, by rw [he, e2, e3], hsl, hb⟩
theorem Read_no {s : ByteArray} {t : List UInt8} {w : World} (hL : Lv w) (hs : s.size ≤ 100000000000) (ht : s.data.toList = t) (h : Rs.readF t = none) :
    Calls Tryz.prog 28 #[.string s] w (ReadIs w [] 0 61) := by
  subst ht
  refine (read_calls s w hL hs).mono fun e w' ⟨v, he, ho, hb⟩ => ?_
  obtain ⟨e1, e2, e3⟩ := Rs.read_none h
  rw [e1] at ho
  obtain ⟨a, cap, rfl, _, hsl⟩ := Sl.of_own ho
  exact ⟨a, cap, by rw [he, e2, e3], hsl, hb⟩
theorem Read_gen {s : ByteArray} {w : World} (hL : Lv w) (hs : s.size ≤ 100000000000) :
    Calls Tryz.prog 28 #[.string s] w fun e w' => ∃ l n er, ReadIs w l n er e w' := by
  refine (read_calls s w hL hs).mono fun e w' ⟨v, he, ho, hb⟩ => ?_
  obtain ⟨a, cap, rfl, _, hsl⟩ := Sl.of_own ho
  exact ⟨_, _, _, a, cap, he, hsl, hb⟩
theorem Eq_n {a b : Option Addr} {ca cb : Nat} {l m : Rs.S} {w : World} (h : Sl w a ca l) (k : Sl w b cb m) (hn : l.length < 4611686018427387904) (he : l ≠ m) :
    Calls Tryz.prog 67 #[.slice a l.length ca, .slice b m.length cb] w fun e w' => e = .returned (.bool false) ∧ Below w.heap.size w w' := by
  have c := eq_calls a b ca cb l m w h k hn
  rw [decide_eq_false he] at c
  exact c.mono fun e w' ⟨h1, n, h2⟩ => ⟨h1, by rw [h2]; exact below_drewN (Below.refl _ _) n⟩
theorem Text_r {a : Option Addr} {cap : Nat} {l : Rs.S} {w : World} (hL : Lv w) (h : Sl w a cap l) (hl : Rs.right l = true) :
    Calls Tryz.prog 22 #[.slice a l.length cap] w fun e w' => e = .returned (.tuple #[.string ⟨(Rs.textS l).toArray⟩, .int .i64 0]) ∧ Below w.heap.size w w' := by
  have c := text_calls a cap l w h (rlen hl) hL
  simp only [Rs.textE, Rs.err, hl, if_true] at c
  exact c
theorem Text_not {a : Option Addr} {cap : Nat} {l : Rs.S} {w : World} (hL : Lv w) (h : Sl w a cap l) (hn : l.length < 4611686018427387904) (hl : Rs.right l = false) :
    Calls Tryz.prog 22 #[.slice a l.length cap] w fun e w' => e = .returned (.tuple #[.string ⟨#[]⟩, .int .i64 60]) ∧ Below w.heap.size w w' := by
  have c := text_calls a cap l w h hn hL
  simp only [Rs.textE, Rs.err, hl] at c
  exact c
theorem Esc_ok {s : ByteArray} {t : List UInt8} {x : Int} {n : Nat} {w : World} (hL : Lv w) (hs : s.size ≤ 1000000000000) (ht : s.data.toList = t) (h : Rs.escS t = some (x, n)) :
    Calls Tryz.prog 68 #[.string s] w fun e w' => e = .returned (.tuple #[.int .i64 x, .int .i64 (n : Int), .int .i64 0]) ∧ Below w.heap.size w w' := by
  subst ht
  obtain ⟨e1, e2, e3⟩ := esc_some h
  exact (escape_calls s w hL hs).mono fun e w' ⟨he, hb⟩ => ⟨by rw [he, e1, e2, e3], hb⟩
theorem Esc_no {s : ByteArray} {t : List UInt8} {w : World} (hL : Lv w) (hs : s.size ≤ 1000000000000) (ht : s.data.toList = t) (h : Rs.escS t = none) :
    Calls Tryz.prog 68 #[.string s] w fun e w' => e = .returned (.tuple #[.int .i64 0, .int .i64 0, .int .i64 61]) ∧ Below w.heap.size w w' := by
  subst ht
  obtain ⟨e1, e2, e3⟩ := esc_none h
  exact (escape_calls s w hL hs).mono fun e w' ⟨he, hb⟩ => ⟨by rw [he, e1, e2, e3]; rfl, hb⟩
/-- Named, of a letter that has one. -/
def NamedIs (w : World) (l : Rs.S) (e : Ending) (w' : World) : Prop :=
  ∃ a cap, e = .returned (.tuple #[.slice a l.length cap, .bool true]) ∧ Sl w' a cap l ∧ Below w.heap.size w w'
theorem Named_r {c : Int} {w : World} (h : Rs.namedB c = true) : Calls Tryz.prog 146 #[.int .u8 c] w (NamedIs w (Rs.namedS c)) := by
  refine (named_calls c w).mono fun e w' ⟨v, he, ho, hb⟩ => ?_
  obtain ⟨a, cap, rfl, _, hsl⟩ := Sl.of_own ho
  exact ⟨a, cap, by rw [he, h], hsl, hb⟩
theorem Of_r {a : Option Addr} {cap : Nat} {l : Rs.S} {w : World} (h : Sl w a cap l) (hl : l.length ≤ 4096) (hr : ∀ r ∈ l, Rs.rg r) :
    Calls Tryz.prog 27 #[.slice a l.length cap] w (PairIs w (Rs.setOf l)) := by
  have c := Of_calls a cap l w h (by omega)
  have ha := Rs.all_rgB hr
  simp only [Rs.ofE, Rs.ofErr, ha, hl, true_and, if_true, show ¬ (4096 < l.length) by omega, if_false] at c
  exact c.mono fun e w' ⟨v, he, ho, hb⟩ => PairIs.of he ho hb
/-- A call's pair: a slice of a set, and an error. -/
def PairEr (w : World) (l : Rs.S) (er : Int) (e : Ending) (w' : World) : Prop :=
  ∃ a cap, e = .returned (.tuple #[.slice a l.length cap, .int .i64 er]) ∧ Sl w' a cap l ∧ Below w.heap.size w w'
theorem PairEr.of {w w' : World} {l : Rs.S} {er : Int} {e : Ending} {v : Value} (he : e = .returned (.tuple #[v, .int .i64 er])) (ho : w'.ownsRow w.heap.size 27 2 v l.length (rFlat l)) (hb : Below w.heap.size w w') : PairEr w l er e w' := by
  obtain ⟨a, cap, rfl, _, hs⟩ := Sl.of_own ho
  exact ⟨a, cap, he, hs, hb⟩
theorem Of_any {a : Option Addr} {cap : Nat} {l : Rs.S} {w : World} (h : Sl w a cap l) (hl : l.length < 4611686018427387904) :
    Calls Tryz.prog 27 #[.slice a l.length cap] w (PairEr w (Rs.ofE l) (Rs.ofErr l)) :=
  (Of_calls a cap l w h hl).mono fun _e _w' ⟨_v, he, ho, hb⟩ => PairEr.of he ho hb
theorem Not_no {a : Option Addr} {ca : Nat} {l : Rs.S} {w : World} (h : Sl w a ca l) (hn : l.length < 4611686018427387904) (hl : Rs.right l = false) :
    Calls Tryz.prog 21 #[.slice a l.length ca] w (PairEr w [] 60) := by
  have c := Not_calls a ca l w h hn
  simp only [Rs.notE, Rs.err, hl] at c
  exact c.mono fun e w' ⟨v, he, ho, hb⟩ => PairEr.of he ho hb
theorem Or_no {a b : Option Addr} {ca cb : Nat} {l m : Rs.S} {w : World} (h : Sl w a ca l) (k : Sl w b cb m) (hn : l.length < 4611686018427387904) (hm : m.length < 4611686018427387904) (hl : (Rs.right l && Rs.right m) = false) :
    Calls Tryz.prog 18 #[.slice a l.length ca, .slice b m.length cb] w (PairEr w [] 60) := by
  have c := Or_calls a b ca cb l m w h k hn hm
  simp only [Rs.orE, Rs.err, hl] at c
  exact c.mono fun e w' ⟨v, he, ho, hb⟩ => PairEr.of he ho hb
theorem And_no {a b : Option Addr} {ca cb : Nat} {l m : Rs.S} {w : World} (h : Sl w a ca l) (k : Sl w b cb m) (hn : l.length < 4611686018427387904) (hm : m.length < 4611686018427387904) (hl : (Rs.right l && Rs.right m) = false) :
    Calls Tryz.prog 19 #[.slice a l.length ca, .slice b m.length cb] w (PairEr w [] 60) := by
  have c := And_calls a b ca cb l m w h k hn hm
  simp only [Rs.andE, Rs.err, hl] at c
  exact c.mono fun e w' ⟨v, he, ho, hb⟩ => PairEr.of he ho hb
theorem Minus_no {a b : Option Addr} {ca cb : Nat} {l m : Rs.S} {w : World} (h : Sl w a ca l) (k : Sl w b cb m) (hn : l.length < 4611686018427387904) (hm : m.length < 4611686018427387904) (hl : (Rs.right l && Rs.right m) = false) :
    Calls Tryz.prog 20 #[.slice a l.length ca, .slice b m.length cb] w (PairEr w [] 60) := by
  have c := Minus_calls a b ca cb l m w h k hn hm
  simp only [Rs.minusE, Rs.err, hl] at c
  exact c.mono fun e w' ⟨v, he, ho, hb⟩ => PairEr.of he ho hb
end Go.Proofs.YtiooimdncocfdaaGreatDoor
