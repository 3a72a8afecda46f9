/- Texts of the claim, put together: TpA. -/
import Derived.Test.YtimahlimmblgkaaGreatDoorPPlA
import Derived.Lib.AtoiAll
import Derived.Lib.ItoaNum
import Derived.RowKit
namespace Go.Proofs.YtimahlimmblgkaaGreatDoor.Sy
abbrev B := List UInt8
/-- a tree: its kind, its set, its numbers, whether it is lazy, its parts -/
inductive T where
  | mk (kind : Int) (set : Rs.S) (mn mx : Int) (lazy : Bool) (subs : List T)
/-- what a tree tells of itself -/
structure F where
  depth : Int
  groups : Int
  nul : Bool
  shaped : Bool
  firm : Bool
def W (x : Int) : Int := Go.RowKit.wrap64 x
/-- whether a node has what its kind has -/
def shapedN (k : Int) (set : Rs.S) (mn mx : Int) (lz : Bool) (n : Nat) : Bool :=
  let plain := decide (mn = 0) && decide (mx = 0) && !lz
  if k = 1 then plain && decide (set.length + n = 0)
  else if k = 2 then plain && Rs.right set && decide (n = 0)
  else if k = 3 ∨ k = 4 then plain && decide (set.length = 0) && decide (1 < n)
  else if k = 6 then plain && decide (set.length = 0) && decide (n = 1)
  else if k = 5 then decide (0 ≤ mn) && decide (mn ≤ 1000) && (decide (mx = -1) || (decide (mn ≤ mx) && decide (mx ≤ 1000))) && decide (set.length = 0) && decide (n = 1)
  else false
def startF (k : Int) (sh : Bool) : F := ⟨0, 0, decide (k = 1) || decide (k = 3), sh, true⟩
def stepF (k : Int) (f g : F) : F := ⟨max f.depth g.depth, W (f.groups + g.groups), if k = 3 then f.nul && g.nul else f.nul || g.nul, f.shaped && g.shaped, f.firm && g.firm⟩
def endF (k mn mx : Int) (f : F) : F :=
  if k = 6 then ⟨W (f.depth + 1), W (f.groups + 1), f.nul, f.shaped, f.firm⟩
  else if k = 5 then ⟨W (f.depth + 1), f.groups, f.nul || decide (mn = 0), f.shaped, f.firm && !(f.nul && (decide (mx = -1) || decide (1 < mx)))⟩
  else ⟨W (f.depth + 1), f.groups, f.nul, f.shaped, f.firm⟩
mutual
def look : T → F
  | .mk k s mn mx lz subs => endF k mn mx (lookL k subs (startF k (shapedN k s mn mx lz subs.length)))
def lookL (k : Int) : List T → F → F
  | [], f => f
  | t :: r, f => lookL k r (stepF k f (look t))
end
def rightF (f : F) : Bool := f.shaped && f.firm && decide (f.groups ≤ 30) && decide (f.depth ≤ 40)
def right (t : T) : Bool := rightF (look t)
/-- parts, one after the other, or one of them -/
def join (k : Int) : List T → T
  | [] => .mk 1 [] 0 0 false []
  | [t] => t
  | l => .mk k [] 0 0 false l
def one (c : Int) : T := .mk 2 [(c, c)] 0 0 false []
def allSet : Rs.S := [(0, 55295), (57344, 1114111)]
def all : T := .mk 2 allSet 0 0 false []
def metas : B := [92, 46, 91, 93, 40, 41, 123, 125, 42, 43, 63, 124, 94, 36]
def isMeta (c : Int) : Bool := metas.any (fun b => decide ((b.toNat : Int) = c))
/-- the number that a word is, if it may be one of a quantifier -/
def number (w : B) : Option Int :=
  match Lib.atoiAll w with
  | .ok v => if 0 ≤ v ∧ v ≤ 1000 ∧ Lib.itoa v = w then some v else none
  | _ => none
/-- what stands ahead of a byte; whether it is there; what stands behind it -/
def cutAt (c : UInt8) (s : B) : B × Option B :=
  match s with
  | [] => ([], none)
  | x :: r => if x = c then ([], some r) else (x :: (cutAt c r).1, (cutAt c r).2)
/-- the numbers between the brackets of a quantifier -/
def braces (w : B) : Option (Int × Int) :=
  match cutAt 44 w with
  | (low, none) => (number low).map (fun n => (n, n))
  | (low, some []) => (number low).map (fun n => (n, -1))
  | (low, some high) => match number low, number high with
    | some a, some b => if a ≤ b then some (a, b) else none
    | _, _ => none
/-- the quantifier with which a string begins: its numbers, and how many bytes it has -/
def quant (s : B) : Option (Option (Int × Int) × Nat) :=
  match s with
  | [] => some (none, 0)
  | c :: r =>
    if c = 42 then some (some (0, -1), 1)
    else if c = 43 then some (some (1, -1), 1)
    else if c = 63 then some (some (0, 1), 1)
    else if c = 123 then match cutAt 125 r with
      | (_, none) => none
      | (w, some _) => (braces w).map (fun p => (some p, w.length + 2))
    else some (none, 0)
def quantifier (n : T) (s : B) : Option (T × Nat) :=
  match quant s with
  | none => none
  | some (none, _) => some (n, 0)
  | some (some (a, b), k) => if s[k]? = some 63 then some (.mk 5 [] a b true [n], k + 1) else some (.mk 5 [] a b false [n], k)
/-- an atom that holds no pattern -/
def atom1 (s : B) : Option (T × Nat) :=
  if Rs.bt s 0 = 46 then some (all, 1)
  else if Rs.bt s 0 = 91 then (Rs.readF s).map (fun p => (.mk 2 p.1 0 0 false [], p.2))
  else if Rs.bt s 0 = 92 then
    match (if 1 < s.length then Rs.namedO (Rs.bt s 1) else none) with
    | some l => some (.mk 2 l 0 0 false [], 2)
    | none => (Rs.escS s).map (fun p => (one p.1, p.2))
  else if ((Rs.decS s).1 ≠ 65533 ∨ 1 < (Rs.decS s).2) ∧ isMeta ((Rs.decS s).1 : Int) = false then some (one ((Rs.decS s).1 : Int), (Rs.decS s).2)
  else none
mutual
/-- sequences with | between them, behind those that were read already; how many bytes -/
def pAlt : Nat → B → List T → Option (T × Nat)
  | 0, _, _ => none
  | f + 1, s, acc => match pCat f s [] with
    | none => none
    | some (n, k) => if s[k]? = some 124 then (pAlt f (s.drop (k + 1)) (acc ++ [n])).map (fun p => (p.1, k + 1 + p.2)) else some (join 4 (acc ++ [n]), k)
/-- items, behind those that were read already -/
def pCat : Nat → B → List T → Option (T × Nat)
  | 0, _, _ => none
  | f + 1, s, acc => match s with
    | [] => some (join 3 acc, 0)
    | c :: _ => if c = 124 ∨ c = 41 then some (join 3 acc, 0) else match pAtom f s with
      | none => none
      | some (n, k) => match quantifier n (s.drop k) with
        | none => none
        | some (m, j) => (pCat f (s.drop (k + j)) (acc ++ [m])).map (fun p => (p.1, k + j + p.2))
/-- an atom -/
def pAtom : Nat → B → Option (T × Nat)
  | 0, _ => none
  | f + 1, s =>
    if s.take 3 = [40, 63, 58] then match pAlt f (s.drop 3) [] with
      | none => none
      | some (n, k) => if s[k + 3]? = some 41 then some (n, k + 4) else none
    else if s.take 1 = [40] then match pAlt f (s.drop 1) [] with
      | none => none
      | some (n, k) => if s[k + 1]? = some 41 then some (.mk 6 [] 0 0 false [n], k + 2) else none
    else atom1 s
end
/-- the tree of a pattern and 0, or the error -/
def parse (s : B) : Except Int T :=
  if 1024 < s.length then .error 3
  else match pAlt (3 * s.length + 3) s [] with
    | none => .error 70
    | some (n, k) =>
      if k < s.length then .error 70
      else if (look n).firm = false then .error 71
      else if 30 < (look n).groups then .error 5
      else if 40 < (look n).depth then .error 72
      else .ok n
def quantT (a b : Int) : B :=
  if a = 0 ∧ b = -1 then [42] else if a = 1 ∧ b = -1 then [43] else if a = 0 ∧ b = 1 then [63]
  else if a = b then [123] ++ Lib.itoa a ++ [125] else if b = -1 then [123] ++ Lib.itoa a ++ [44, 125]
  else [123] ++ Lib.itoa a ++ [44] ++ Lib.itoa b ++ [125]
def setT (l : Rs.S) : B :=
  if l = allSet then [46]
  else match l with
    | [(a, b)] => if a ≠ b then (if Rs.right l then Rs.textS l else [])
      else if a < 33 ∨ 126 < a then [92, 120, 123] ++ Rs.hexT 16 a.toNat ++ [125]
      else if isMeta a then [92, UInt8.ofNat a.toNat] else [UInt8.ofNat a.toNat]
    | _ => if Rs.right l then Rs.textS l else []
def brk (b : Bool) (t : B) : B := if b then [40, 63, 58] ++ t ++ [41] else t
def kindT : T → Int
  | .mk k _ _ _ _ _ => k
mutual
def wr (ks : List Int) : T → B
  | .mk k s mn mx lz subs => brk (decide (k ∈ ks))
      (if k = 2 then setT s
      else if k = 3 then wrL [3, 4, 1] subs
      else if k = 4 then wrA true subs
      else if k = 5 then wrH [1, 3, 4, 5] subs ++ quantT mn mx ++ (if lz then [63] else [])
      else if k = 6 then [40] ++ wrH [] subs ++ [41]
      else [])
def wrL (ks : List Int) : List T → B
  | [] => []
  | t :: r => wr ks t ++ wrL ks r
def wrA (first : Bool) : List T → B
  | [] => []
  | t :: r => (if first then [] else [124]) ++ wr [4] t ++ wrA false r
def wrH (ks : List Int) : List T → B
  | [] => []
  | t :: _ => wr ks t
end
def timesP (l n : Int) : Int := if l = 0 ∨ n = 0 then 0 else if l = -1 ∨ n = -1 then -1 else min (l * n) 1073741824
def plusP (a b : Int) : Int := if a = -1 ∨ b = -1 then -1 else min (a + b) 1073741824
def stepLen (k mn mx : Int) (first : Bool) (r x : Int × Int) : Int × Int :=
  if k = 5 then (timesP x.1 mn, timesP x.2 mx)
  else if k ≠ 4 ∨ first then (plusP r.1 x.1, plusP r.2 x.2)
  else (min r.1 x.1, if r.2 ≠ -1 ∧ (x.2 = -1 ∨ r.2 < x.2) then x.2 else r.2)
mutual
def lens : T → Int × Int
  | .mk k _ mn mx _ subs => lensL k mn mx true subs (if k = 2 then (1, 1) else (0, 0))
def lensL (k mn mx : Int) (first : Bool) : List T → Int × Int → Int × Int
  | [], r => r
  | t :: l, r => lensL k mn mx false l (stepLen k mn mx first r (lens t))
end
mutual
def same : T → T → Bool
  | .mk k s a b z l, .mk k' s' a' b' z' l' => decide (k = k') && decide (a = a') && decide (b = b') && (z == z') && decide (s = s') && sameL l l'
def sameL : List T → List T → Bool
  | [], [] => true
  | x :: l, y :: m => same x y && sameL l m
  | _, _ => false
end
mutual
def nulP : T → Bool
  | .mk k _ mn _ _ subs =>
    let p := nulL subs (false, true)
    if k = 1 then true else if k = 3 then p.2 else if k = 5 then p.1 || decide (mn = 0) else p.1
def nulL : List T → Bool × Bool → Bool × Bool
  | [], p => p
  | t :: l, p => nulL l (p.1 || nulP t, p.2 && nulP t)
end
def leaf (a b : Int) : T :=
  let c := a % 8
  if c = 0 then all
  else if c = 1 then .mk 2 [(97, 99)] 0 0 false []
  else if c = 2 then .mk 2 [(48, 57), (97, 98)] 0 0 false []
  else if c = 3 then one 8364
  else if c = 4 then one ((([42, 46, 124, 92, 45, 93] : B).getD (b % 6).toNat 0).toNat : Int)
  else one (97 + b % 4)
structure Sm where
  kind : Int
  a : Int
  b : Int
/-- one step; the pile's uppermost tree first -/
def step (x : Sm) (st : List T) : List T :=
  let q := x.kind % 10
  if q = 0 then .mk 1 [] 0 0 false [] :: st
  else match st with
    | [] => [leaf x.a x.b]
    | t :: r =>
      if q < 5 then leaf x.a x.b :: t :: r
      else if q = 5 then .mk 6 [] 0 0 false [t] :: r
      else if q < 8 ∨ r = [] then
        (let m := x.a % 4
        let h := if x.b % 5 = 0 then -1 else m + x.b / 2 % 3
        (if nulP t then .mk 5 [] (m % 2) 1 (decide (x.b % 2 = 1)) [t] else .mk 5 [] m h (decide (x.b % 2 = 1)) [t]) :: r)
      else
        (let n := if x.a % 2 = 1 then 3 else 2
        .mk (3 + q % 2) [] 0 0 false ((t :: r).take n).reverse :: (t :: r).drop n)
def piled (l : List Sm) : List T := l.foldl (fun st x => step x st) []
def made (l : List Sm) : T := join 3 (piled (l.take 20)).reverse
end Go.Proofs.YtimahlimmblgkaaGreatDoor.Sy
