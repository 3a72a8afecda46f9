/- Several parts in one text: KiR, KiE. -/
import Derived.Test.YtmagojckhfkcdaaGreatDoorKaB
import Derived.Laws.CopyOwn
import Derived.Lib.Overlaps
import Derived.Lib.AppendZerosOnto
import Derived.Deep.RegionLaw
import Derived.Lib.AppendZeros
/- Laws for slices.Insert at elements of any size. -/
namespace Go.Proofs.YtmagojckhfkcdaaGreatDoor.Sk
open Go Go.RowKit Go.Shelf
/-- copy, where an element has two cells -/
theorem run_copy_rowN {P : Program} {sz : Nat} (w : World) (dT sT ty elem : TypeId) (g o dLen dCap : Nat) (a : Addr) (sLen sCap : Nat) (cur : Array Value) (t : TypeId) (cs : List Value)
    (hu : P.underlying dT = some (.slice elem)) (hs : (P.info? elem).map (·.size) = some sz)
    (hg : w.heap[g]? = some (.cells cur t (0, 0))) (n : Nat) (hn : n = Nat.min sLen dLen) (hc : cs.length = n * sz)
    (hsrc : ∀ j v, cs[j]? = some v → w.cell? (a.add j) = some v) (hfit : o + cs.length ≤ cur.size) (h1 : ∀ v ∈ cs, v.oneCell' = true) :
    (Builtin.copy_ #[dT, sT] ty #[.slice (some ⟨g, o, none⟩) dLen dCap, .slice (some a) sLen sCap]).run P w =
      .ok (goInt n) (w.setRow g (cur.toList.take o ++ (cs ++ cur.toList.drop (o + cs.length))).toArray) := by
  have hl := run_loadCells_list (P := P) w a cs hsrc
  have hst := run_storeCells_at P g o t cs 0 cur w hg (by simpa using hfit) h1
  rw [hc] at hl
  cases hq : P.info? elem with
  | none => simp [hq] at hs
  | some i =>
    have hi : i.size = sz := by simpa [hq] using hs
    simp [Builtin.copy_, run_underlying hu, Builtin.lenOf, Builtin.firstCells, sizeOf, typeInfo, hq, hi, ← hn, hl, hst]
theorem wpList_copyN {P : Program} {sz : Nat} {w : World} {ops : Array Oper} {rest : List Oper} {o : Oper} {a : Act} {Q : Exit → Act → World → Prop} (hgd : o.guard = none) (d s : Operand) (dT sT : TypeId)
    (ho : o.op = .call { callee := .builtin .copy, args := #[d, s], argTypes := #[dT, sT] }) (elem : TypeId) (hu : P.underlying dT = some (.slice elem)) (hsz : (P.info? elem).map (·.size) = some sz)
    (dLen dCap sLen sCap : Nat) (ad : Addr) (g off : Nat) (hd : a.eval d = .slice (some ⟨g, off, none⟩) dLen dCap) (hs : a.eval s = .slice (some ad) sLen sCap)
    (cur : List Value) (t : TypeId) (hg : w.heap[g]? = some (.cells cur.toArray t (0, 0))) (cs : List Value) (n : Nat) (hn : n = Nat.min sLen dLen) (hc : cs.length = n * sz)
    (hsrc : ∀ j v, cs[j]? = some v → w.cell? (ad.add j) = some v)
    (hfit : off + cs.length ≤ cur.length) (h1 : ∀ v ∈ cs, v.oneCell' = true) (B : Nat) (w0 : World) (hb : Below B w0 w) (hBg : B ≤ g)
    (h : ∀ w', Hid (w'.heap[g]? = some (.cells (splice cur off cs).toArray t (0, 0))) → Hid (∀ i, i ≠ g → w'.heap[i]? = w.heap[i]?) → Below B w0 w' → wpList P ops Q rest (a.put o.dst (goInt n)) w') :
    wpList P ops Q (o :: rest) a w := by
  refine wpList_plain hgd fun K hK => ?_
  have hrun := run_copy_rowN (P := P) w dT sT o.type elem g off dLen dCap ad sLen sCap cur.toArray t cs hu hsz hg n hn hc hsrc (by simpa using hfit) h1
  unfold Oper.wp
  simp [execOp, ho, resolve, invoke, builtin, hd, hs, hrun, Result.andThen]
  exact hK _ _ (h _ (show _ = _ by simpa [splice] using setRow_heap w g _ _ t _ hg) (Lib.hid fun i hi => setRow_other w g i _ hi) (below_setRow hb hBg _))
theorem step_copyN {P : Program} {sz : Nat} {ops : Array Oper} {o : Oper} {a : Act} {w : World} {K : Act → World → Prop} {Q : Exit → Act → World → Prop} {E : Prop} (hgd : o.guard = none) (d s : Operand) (dT sT : TypeId)
    (ho : o.op = .call { callee := .builtin .copy, args := #[d, s], argTypes := #[dT, sT] }) (elem : TypeId) (hu : P.underlying dT = some (.slice elem)) (hsz : (P.info? elem).map (·.size) = some sz)
    (dLen dCap sLen sCap : Nat) (ad : Addr) (g off : Nat) (hd : a.eval d = .slice (some ⟨g, off, none⟩) dLen dCap) (hs : a.eval s = .slice (some ad) sLen sCap)
    (cur : List Value) (t : TypeId) (hg : w.heap[g]? = some (.cells cur.toArray t (0, 0))) (cs : List Value) (n : Nat) (hn : n = Nat.min sLen dLen) (hc : cs.length = n * sz)
    (hsrc : ∀ j v, cs[j]? = some v → w.cell? (ad.add j) = some v)
    (hfit : off + cs.length ≤ cur.length) (h1 : ∀ v ∈ cs, v.oneCell' = true) (B : Nat) (w0 : World) (hb : RowKit.Below B w0 w) (hBg : B ≤ g)
    (h : ∀ w', RowKit.Hid (w'.heap[g]? = some (.cells (splice cur off cs).toArray t (0, 0))) → RowKit.Hid (∀ i, i ≠ g → w'.heap[i]? = w.heap[i]?) → RowKit.Below B w0 w' → K (a.put o.dst (goInt n)) w') :
    if Region.wanted o (yielded ops a.tmps) = true then Oper.wp P o a w K Q else E := by
  have hw : Region.wanted o (yielded ops a.tmps) = true := by simp [Region.wanted, hgd]
  rw [if_pos hw]
  have hrun := run_copy_rowN (P := P) w dT sT o.type elem g off dLen dCap ad sLen sCap cur.toArray t cs hu hsz hg n hn hc hsrc (by simpa using hfit) h1
  unfold Oper.wp
  simp [execOp, ho, resolve, invoke, builtin, hd, hs, hrun, Result.andThen]
  exact h _ (show _ = _ by simpa [splice] using setRow_heap w g _ _ t _ hg) (Lib.hid fun i hi => setRow_other w g i _ hi) (below_setRow hb hBg _)
theorem drop_add {α : Type} (A B : List α) {n k : Nat} (h : n = A.length + k) : (A ++ B).drop n = B.drop k := by
  rw [List.drop_append, List.drop_of_length_le (by omega), List.nil_append, show n - A.length = k by omega]
theorem take_add {α : Type} (A B : List α) {n k : Nat} (h : n = A.length + k) : (A ++ B).take n = A ++ B.take k := by
  rw [List.take_append, List.take_of_length_le (by omega), show n - A.length = k by omega]
/-- what stands behind is moved, and cells are laid into the gap -/
theorem splice_in {α : Type} {sz : Nat} (P S R X : List α) (hX : X.length = sz) (hR : sz ≤ R.length) : splice (splice (P ++ (S ++ R)) (P.length + sz) S) P.length X = P ++ (X ++ (S ++ R.drop sz)) := by
  have h1 : splice (P ++ (S ++ R)) (P.length + sz) S = P ++ ((S ++ R).take sz ++ (S ++ R.drop sz)) := by
    unfold splice
    rw [take_add P (S ++ R) rfl, drop_add P (S ++ R) (show P.length + sz + S.length = P.length + (S.length + sz) by omega), drop_add S R rfl, List.append_assoc]
  rw [h1]
  unfold splice
  have h2 : ((S ++ R).take sz).length = sz := by rw [List.length_take, List.length_append]; omega
  rw [List.take_left' rfl, hX, drop_add P _ rfl, List.drop_left' h2]
theorem splice_new {α : Type} {sz : Nat} (P S Z X : List α) (hX : X.length = sz) (_hZ : sz + S.length ≤ Z.length) : splice (splice (P ++ Z) P.length X) (P.length + sz) S = P ++ (X ++ (S ++ Z.drop (sz + S.length))) := by
  have h1 : splice (P ++ Z) P.length X = P ++ (X ++ Z.drop sz) := by
    unfold splice
    rw [List.take_left' rfl, hX, drop_add P Z rfl]
  rw [h1]
  unfold splice
  rw [take_add P _ rfl, drop_add P _ (show P.length + sz + S.length = P.length + (sz + S.length) by omega), drop_add X _ (show sz + S.length = X.length + S.length by omega), List.drop_drop, List.take_left' hX, List.append_assoc]
end Go.Proofs.YtmagojckhfkcdaaGreatDoor.Sk
