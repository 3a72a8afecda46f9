/- Texts of the claim, put together: PlA, BaA. -/
import Derived.Lib.TrimUEq
import Derived.Lib.Bytealg
import Derived.Test.YtdgfldeeflmnmaaGreatDoorProg
import Derived.WalkKit
import Derived.WalkSpells
import Derived.WalkLawsBesides
import Derived.Lib.Hide
import Derived.BigQuiet
import Derived.Deep.QuietTactic
namespace Go.Proofs.YtdgfldeeflmnmaaGreatDoor.Rs
abbrev R := Int × Int
abbrev S := List R
def pt (c : Int) : Bool := (decide (0 ≤ c) && decide (c ≤ 55295)) || (decide (57344 ≤ c) && decide (c ≤ 1114111))
def inR (c : Int) (r : R) : Bool := decide (r.1 ≤ c) && decide (c ≤ r.2)
def mem (c : Int) (l : S) : Bool := l.any (inR c)
def okR (r : R) : Bool := pt r.1 && pt r.2 && decide (r.1 ≤ r.2) && !(decide (r.1 ≤ 55295) && decide (55295 < r.2))
def rightA (h : Int) : S → Bool
  | [] => true
  | r :: l => okR r && decide (h + 1 < r.1) && rightA r.2 l
def right (l : S) : Bool := rightA (-2) l
theorem mem_cons (c : Int) (r : R) (l : S) : mem c (r :: l) = (inR c r || mem c l) := rfl
theorem mem_append (c : Int) (a b : S) : mem c (a ++ b) = (mem c a || mem c b) := by simp [mem]
theorem mem_iff (c : Int) (l : S) : mem c l = true ↔ ∃ r ∈ l, r.1 ≤ c ∧ c ≤ r.2 := by simp [mem, inR]
def parts (r : R) : S := (if r.1 ≤ 55295 then [(r.1, min r.2 55295)] else []) ++ (if 57344 ≤ r.2 then [(max r.1 57344, r.2)] else [])
def mg (acc : S) (p : R) : S :=
  match acc with
  | [] => [p]
  | q :: t => if p.1 ≤ q.2 + 1 then (q.1, max q.2 p.2) :: t else p :: q :: t
def addR (acc : S) (r : R) : S := (parts r).foldl mg acc
def fromSorted (l : S) : S := (l.foldl addR []).reverse
/-- a range of numbers from 0 to the last code point -/
def rg (r : R) : Prop := 0 ≤ r.1 ∧ r.1 ≤ r.2 ∧ r.2 ≤ 1114111
/-- a right list, its last range first -/
def RR : S → Prop
  | [] => True
  | [q] => okR q = true
  | q :: q' :: t => okR q = true ∧ q'.2 + 1 < q.1 ∧ RR (q' :: t)
theorem RR.tail {q : R} {t : S} (h : RR (q :: t)) : RR t := by
  cases t with
  | nil => trivial
  | cons q' t => exact h.2.2
theorem RR.ok {q : R} {t : S} (h : RR (q :: t)) : okR q = true := by
  cases t with
  | nil => exact h
  | cons q' t => exact h.1
/-- what holds of the list when ranges with Lo up to lo have come -/
def Inv (lo : Int) (acc : S) : Prop :=
  RR acc ∧ match acc with
  | [] => True
  | q :: _ => q.1 ≤ lo ∨ (q.1 = 57344 ∧ 57344 ≤ q.2 ∧ ∀ c, lo ≤ c → c ≤ 55295 → mem c acc = true)
def ins (r : R) : S → S
  | [] => [r]
  | q :: t => if r.1 ≤ q.1 then r :: q :: t else q :: ins r t
def isort : S → S
  | [] => []
  | r :: t => ins r (isort t)
/-- the right list of the code points of some ranges -/
def setOf (l : S) : S := fromSorted (isort l)
def gaps (f : Int) : S → S
  | [] => if f ≤ 1114111 then [(f, 1114111)] else []
  | r :: l => (if f < r.1 then [(f, r.1 - 1)] else []) ++ gaps (r.2 + 1) l
def notS (l : S) : S := setOf (gaps 0 l)
def cnt : S → Int
  | [] => 0
  | r :: l => (r.2 - r.1 + 1) + cnt l
def Bd (q : R) : Prop := 0 ≤ q.1 ∧ q.1 ≤ 1114111 ∧ 0 ≤ q.2 ∧ q.2 ≤ 1114111
end Go.Proofs.YtdgfldeeflmnmaaGreatDoor.Rs
namespace Go.Proofs.YtdgfldeeflmnmaaGreatDoor.Rs
end Go.Proofs.YtdgfldeeflmnmaaGreatDoor.Rs
namespace Go.Proofs.YtdgfldeeflmnmaaGreatDoor.Rs
/-- the byte at a place, as a number; 0 behind the end -/
def bt (s : List UInt8) (i : Nat) : Int := ((s.getD i 0).toNat : Int)
def hexD (c : Int) : Option Int := if 48 ≤ c ∧ c ≤ 57 then some (c - 48) else if 97 ≤ c ∧ c ≤ 102 then some (c - 87) else if 65 ≤ c ∧ c ≤ 70 then some (c - 55) else none
def hexF : List UInt8 → Int → Option Int
  | [], n => some n
  | b :: l, n => match hexD (b.toNat : Int) with
    | some d => hexF l (16 * n + d)
    | none => none
/-- the number of one to six hexadecimal digits -/
def hexS (l : List UInt8) : Option Int := if l.length = 0 ∨ 6 < l.length then none else hexF l 0
theorem hexD_range {c d : Int} (h : hexD c = some d) : 0 ≤ d ∧ d ≤ 15 := by
  unfold hexD at h
  split at h
  · cases h; omega
  · split at h
    · cases h; omega
    · split at h
      · cases h; omega
      · cases h
def sign (c : Int) : Option Int :=
  if c = 110 then some 10 else if c = 116 then some 9 else if c = 114 then some 13 else if c = 102 then some 12 else if c = 118 then some 11 else if c = 97 then some 7 else none
def letterB (c : Int) : Bool := (decide (48 ≤ c) && decide (c ≤ 57)) || (decide (65 ≤ c) && decide (c ≤ 90)) || (decide (97 ≤ c) && decide (c ≤ 122))
def ptO (n : Nat) : Option Int → Option (Int × Nat)
  | some x => if pt x then some (x, n) else none
  | none => none
/-- the escape with which a string begins, and how many bytes it has -/
def escS (s : List UInt8) : Option (Int × Nat) :=
  if s.length < 2 then none
  else if bt s 0 ≠ 92 then none
  else match sign (bt s 1) with
    | some c => some (c, 2)
    | none =>
      if bt s 1 = 120 ∧ 2 < s.length ∧ bt s 2 = 123 then
        (let e := Lib.indexByte s 125
        if e < 0 ∨ 9 < e then none else ptO (e.toNat + 1) (hexS ((s.take e.toNat).drop 3)))
      else if bt s 1 = 120 ∧ 3 < s.length then ptO 4 (hexS ((s.take 4).drop 2))
      else if 32 < bt s 1 ∧ bt s 1 < 127 ∧ letterB (bt s 1) = false then some (bt s 1, 2)
      else none
/-- the text of a code point -/
def hexDig (d : Nat) : UInt8 := UInt8.ofNat (if d < 10 then 48 + d else 55 + d)
def hexT : Nat → Nat → List UInt8
  | 0, _ => []
  | f + 1, n => if n < 16 then [hexDig n] else hexT f (n / 16) ++ [hexDig (n % 16)]
/-- the point with which a string begins -/
def decS (t : List UInt8) : Nat × Nat := if t = [] then (65533, 0) else Lib.decodeL t
def partS (t : List UInt8) : Option (Int × Nat) :=
  if t.length = 0 then none
  else if bt t 0 = 92 then escS t
  else if ((decS t).1 ≠ 65533 ∨ 1 < (decS t).2) ∧ (decS t).1 ≠ 91 ∧ (decS t).1 ≠ 93 ∧ (decS t).1 ≠ 45 then some ((decS t).1, (decS t).2)
  else none
def setD : S := [(48, 57)]
def setSp : S := [(9, 10), (12, 13), (32, 32)]
def setW : S := [(48, 57), (65, 90), (95, 95), (97, 122)]
/-- the named set of a letter -/
def namedO (c : Int) : Option S :=
  if c = 100 then some setD else if c = 115 then some setSp else if c = 119 then some setW
  else if c = 68 then some (notS setD) else if c = 83 then some (notS setSp) else if c = 87 then some (notS setW) else none
/-- the item with which a string begins, and how many bytes it has -/
def itemS (t : List UInt8) (first : Bool) : Option (S × Nat) :=
  match (if bt t 0 = 92 ∧ 1 < t.length then namedO (bt t 1) else none) with
  | some l => some (l, 2)
  | none =>
    if bt t 0 = 45 ∧ (first = true ∨ bt t 1 = 93) then some ([(45, 45)], 1)
    else match partS t with
      | none => none
      | some (a, n) =>
        if bt t n = 45 ∧ bt t (n + 1) ≠ 93 then
          match partS (t.drop (n + 1)) with
          | none => none
          | some (b, m) => if b < a then none else some ([(a, b)], n + 1 + m)
        else some ([(a, a)], n)
/-- all items, and the ] behind them: what is left of the string -/
def itemsS : Nat → List UInt8 → Bool → S → Option (S × List UInt8)
  | 0, _, _, _ => none
  | f + 1, t, first, acc =>
    if first = false ∧ bt t 0 = 93 then some (acc, t.drop 1)
    else match itemS t first with
      | none => none
      | some (l, n) => itemsS f (t.drop n) false (acc ++ l)
/-- the class with which a string begins: its set, and how many bytes it has -/
def readS (s : List UInt8) : Option (S × Nat) :=
  if bt s 0 ≠ 91 then none
  else
    let o := bt s 1 = 94
    let t := if o then s.drop 2 else s.drop 1
    match itemsS (t.length + 1) t true [] with
    | none => none
    | some (l, r) => some (if o then notS (setOf l) else setOf l, s.length - r.length)
end Go.Proofs.YtdgfldeeflmnmaaGreatDoor.Rs
namespace Go.Proofs.YtdgfldeeflmnmaaGreatDoor.Rs
end Go.Proofs.YtdgfldeeflmnmaaGreatDoor.Rs
namespace Go.Proofs.YtdgfldeeflmnmaaGreatDoor
open Go.RowKit
theorem ret_bool {a b : Bool} (h : a = b) : Ending.returned (.bool a) = .returned (.bool b) := by rw [h]
theorem ret_int {k : IntKind} {a b : Int} (h : a = b) : Ending.returned (.int k a) = .returned (.int k b) := by rw [h]
theorem int_eq {k : IntKind} {a b : Int} (h : a = b) : Value.int k a = Value.int k b := by rw [h]
theorem bool_eq {a b : Bool} (h : a = b) : Value.bool a = Value.bool b := by rw [h]
theorem below_drewN {B : Nat} {a w : World} (h : Below B a w) (n : Nat) : Below B a (w.drewN n) := h.trans ⟨rfl, rfl, rfl, Nat.le_refl _, fun _ _ => rfl⟩
/-- What a callee leaves, for the walk: old cells and old marks read as before. -/
theorem bcell {W w1 : World} (hb : Below W.heap.size W w1) : (∀ b o, b < W.heap.size → w1.cell? ⟨b, o, none⟩ = W.cell? ⟨b, o, none⟩) ∧ (∀ b o, b < W.heap.size → w1.frozen? ⟨b, o, none⟩ = W.frozen? ⟨b, o, none⟩) :=
  ⟨fun b o h => hb.cell (p := ⟨b, o, none⟩) h, fun b o h => hb.frozen (p := ⟨b, o, none⟩) h⟩
/-- The slice at a reads, in w, as the ranges l. -/
def RdR (w : World) (a : Option Addr) (l : Rs.S) : Prop :=
  l ≠ [] → ∃ b off, a = some ⟨b, off, none⟩ ∧ b < w.heap.size ∧ ∀ (i : Nat) (r : Rs.R), l[i]? = some r → w.cell? ⟨b, off + i * 2, none⟩ = some (.int .i64 r.1) ∧ w.cell? ⟨b, off + i * 2 + 1, none⟩ = some (.int .i64 r.2)
theorem RdR.below {w w1 : World} {a : Option Addr} {l : Rs.S} {B : Nat} (h : RdR w a l) (hb : Below B w w1) (hB : ∀ b off, a = some ⟨b, off, none⟩ → b < B) : RdR w1 a l := by
  intro hl
  obtain ⟨b, off, rfl, h1, h2⟩ := h hl
  refine ⟨b, off, rfl, by have := hb.size; omega, fun i r hr => ?_⟩
  have hbb := hB b off rfl
  rw [hb.cell (p := ⟨b, off + i * 2, none⟩) hbb, hb.cell (p := ⟨b, off + i * 2 + 1, none⟩) hbb]
  exact h2 i r hr
theorem RdR.nil (w : World) (a : Option Addr) : RdR w a [] := fun h => absurd rfl h
end Go.Proofs.YtdgfldeeflmnmaaGreatDoor
