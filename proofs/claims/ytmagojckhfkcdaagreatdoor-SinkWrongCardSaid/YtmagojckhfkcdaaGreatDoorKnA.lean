/- Chapter 38's map: the last item of each line. -/
import Derived.Test.YtmagojckhfkcdaaGreatDoorKmA
import Derived.Test.YtmagojckhfkcdaaGreatDoorKpA
import Derived.Maps.OwnSet
import Derived.Maps.Ext
import Derived.DeepKeys5
namespace Go.Proofs.YtmagojckhfkcdaaGreatDoor.Sk
open Go Go.RowKit Go.ChangeShapes Go.WideShapes Go.ChangeMaps Go.MapKept
theorem laidOutK : laidOutB Tryz.prog = true := by kernel_rfl
theorem lineKey : Tryz.prog.keyTypeAt 3 83 = true := by kernel_rfl
theorem lineLaw : Go.Maps.Keyed Tryz.prog 83 :=
  Go.Maps.Keyed.of_law (deep_law_laid (P := Tryz.prog) laidOutK (m := 3) (by decide) (of_decide_eq_true (by kernel_rfl)) lineKey (by kernel_rfl))
/-- the key that a line is -/
def kl (k : Line) : Lit := .string (keyBytes [.string k.1, .string k.2])
theorem line_fields : ∃ f0 f1 : Field, Tryz.prog.underlying 83 = some (.struct #[f0, f1]) ∧ f0.type = 9 ∧ f1.type = 9 ∧ f0.offset = 0 ∧ f1.offset = 1 ∧ (f0.name != "_") = true ∧ (f1.name != "_") = true :=
  ⟨_, _, Tryz.underlying83, rfl, rfl, rfl, rfl, by decide, by decide⟩
theorem lineCells : Tryz.prog.cellsOf 83 = 2 := by kernel_rfl
theorem stringCells : Tryz.prog.cellsOf 9 = 1 := by kernel_rfl
theorem lineKeyType : Tryz.prog.keyType 83 = true := by kernel_rfl
theorem types_succ : ∃ m, Tryz.prog.types.size + 1 = m + 1 + 1 := ⟨Tryz.prog.types.size - 1, by
  have : 0 < Tryz.prog.types.size := of_decide_eq_true (by kernel_rfl)
  omega⟩
theorem keyOf_line {a b : ByteArray} (ha : a.size ≤ maxLen) (hb : b.size ≤ maxLen) : keyOf Tryz.prog 83 (.agg #[.string a, .string b]) = some (kl (d a, d b)) := by
  obtain ⟨f0, f1, hu, t0, t1, o0, o1, n0, n1⟩ := line_fields
  obtain ⟨m, hm⟩ := types_succ
  unfold keyOf
  simp only [hu]
  rw [if_pos (by simp [lineKeyType, Value.formed, hu, lineCells]), hm]
  unfold Program.keyLits
  simp only [hu, Value.cells]
  rw [if_pos ⟨by rw [lineCells]; rfl, by simp [n0, n1]⟩]
  simp only [List.mapM_cons, List.mapM_nil, t0, t1, o0, o1, stringCells]
  simp [Program.keyLits, Tryz.underlying9, ha, hb, kl]
def fits (k : Line) : Prop := k.1.length ≤ maxLen ∧ k.2.length ≤ maxLen
set_option maxRecDepth 100000 in
theorem kl_inj {k q : Line} (hk : fits k) (hq : fits q) (h : kl k = kl q) : k = q := by
  have e1 : keyOf Tryz.prog 83 (.agg #[.string ⟨k.1.toArray⟩, .string ⟨k.2.toArray⟩]) = some (kl k) := keyOf_line (a := ⟨k.1.toArray⟩) (b := ⟨k.2.toArray⟩) (by show k.1.toArray.size ≤ _; simpa using hk.1) (by show k.2.toArray.size ≤ _; simpa using hk.2)
  have e2 : keyOf Tryz.prog 83 (.agg #[.string ⟨q.1.toArray⟩, .string ⟨q.2.toArray⟩]) = some (kl q) := keyOf_line (a := ⟨q.1.toArray⟩) (b := ⟨q.2.toArray⟩) (by show q.1.toArray.size ≤ _; simpa using hq.1) (by show q.2.toArray.size ≤ _; simpa using hq.2)
  rw [← h] at e2
  have := lineLaw.inj e1 e2
  injection this with this
  simp only [Array.mk.injEq, List.cons.injEq, Value.string.injEq, ByteArray.mk.injEq, and_true] at this
  obtain ⟨h1, h2⟩ := this
  exact Prod.ext h1 h2
theorem kl_key (k : Line) : WideAt.IsKeyLit (kl k) := trivial
/-- how an element reads -/
def lastOfV : Value → Option (DataW Unit × List MemPlace)
  | .agg cs => match cs.toList with
    | [.int .i64 s, .bool m] => some (.agg [.lit (.int .i64 s), .lit (.bool m)], [])
    | _ => none
  | _ => none
def lastD (v : Int × Bool) : DataW Unit := .agg [.lit (.int .i64 v.1), .lit (.bool v.2)]
theorem lastOfV_mk (s : Int) (m : Bool) : lastOfV (.agg #[.int .i64 s, .bool m]) = some (lastD (s, m), []) := rfl
theorem lastOfV_inv {v : Value} {s : Int} {m : Bool} {ps : List MemPlace} (h : lastOfV v = some (lastD (s, m), ps)) : v = .agg #[.int .i64 s, .bool m] := by
  unfold lastOfV at h
  split at h
  · rename_i cs
    split at h
    · rename_i s' m' hl
      simp only [lastD, Option.some.injEq, Prod.mk.injEq, DataW.agg.injEq, List.cons.injEq, DataW.lit.injEq, Lit.int.injEq, Lit.bool.injEq, true_and, and_true] at h
      obtain ⟨⟨rfl, rfl⟩, _⟩ := h
      congr 1
      exact Array.toList_inj.1 (by simpa using hl)
    · cases h
  · cases h
theorem lastOfV_some {v : Value} {z : DataW Unit × List MemPlace} (h : lastOfV v = some z) : ∃ s m, v = .agg #[.int .i64 s, .bool m] ∧ z = (lastD (s, m), []) := by
  unfold lastOfV at h
  split at h
  · rename_i cs
    split at h
    · rename_i s' m' hl
      cases h
      exact ⟨s', m', by congr 1; exact Array.toList_inj.1 (by simpa using hl), rfl⟩
    · cases h
  · cases h
theorem zeroLast (w : World) : (zeroValue 80).run Tryz.prog w = .ok (.agg #[.int .i64 0, .bool false]) w := by kernel_rfl
def zl : DataW Unit := lastD (0, false)
/-- block b is a map of at most n entries that tells of each line what f tells -/
def MapIs (w : World) (b n : Nat) (f : Line → Last) : Prop :=
  ∃ D : DataW Unit, w.ownsMap Tryz.prog 83 lastOfV b n D ∧ ∀ k, fits k → Maps.has D (kl k) = (f k).isSome ∧ ∀ v, f k = some v → D.atKey (kl k) zl = lastD v
theorem MapIs.lt {w : World} {b n : Nat} {f : Line → Last} (h : MapIs w b n f) : b < w.heap.size := by
  obtain ⟨D, h, _⟩ := h
  exact h.lt
theorem MapIs.mono {w : World} {b n m : Nat} {f : Line → Last} (h : MapIs w b n f) (hn : n ≤ m) : MapIs w b m f := by
  obtain ⟨D, h, r⟩ := h
  exact ⟨D, h.mono hn, r⟩
theorem MapIs.fr {X : Nat → Prop} {w w' : World} {b n : Nat} {f : Line → Last} (h : MapIs w b n f) (hf : Fr X w w') (hx : ¬ X b) : MapIs w' b n f := by
  obtain ⟨D, ⟨es, clock, hb, r⟩, q⟩ := h
  exact ⟨D, ⟨es, clock, (hf.block b (Array.getElem?_eq_some_iff.1 hb).1 hx).trans hb, r⟩, q⟩
theorem MapIs.below {B : Nat} {w w' : World} {b n : Nat} {f : Line → Last} (h : MapIs w b n f) (hb : Below B w w') (hB : w.heap.size ≤ B) : MapIs w' b n f :=
  h.fr (Fr.of_below hb) (fun hx => by have := h.lt; omega)
theorem MapIs.new (w : World) : MapIs (w.alloc (.map #[] 0)) w.heap.size 0 (fun _ => none) :=
  ⟨.map [], World.ownsMap_made _ _ _ _, fun _ _ => ⟨rfl, fun _ h => by cases h⟩⟩
theorem MapIs.put {w' : World} {b n : Nat} {f : Line → Last} {D : DataW Unit} (hD : Go.Maps.IsMap D) (hq : ∀ k, fits k → Maps.has D (kl k) = (f k).isSome ∧ ∀ v, f k = some v → D.atKey (kl k) zl = lastD v) {k : Line} (hk : fits k) (v : Int × Bool)
    (h : w'.ownsMap Tryz.prog 83 lastOfV b n (D.put (kl k) (lastD v))) : MapIs w' b n (upd f k v) := by
  refine ⟨_, h, fun q hq' => ?_⟩
  unfold upd
  by_cases e : q = k
  · subst e
    rw [if_pos rfl]
    refine ⟨Go.Maps.has_put_same hD (kl_key q) _, fun u hu => ?_⟩
    cases hu
    exact Go.Maps.atKey_put_same hD (kl_key q) _ _
  · rw [if_neg e]
    have hne : kl q ≠ kl k := fun h => e (kl_inj hq' hk h)
    obtain ⟨h1, h2⟩ := hq q hq'
    refine ⟨by rw [Go.Maps.has_put_other hne]; exact h1, fun u hu => ?_⟩
    rw [Go.Maps.atKey_put_other hne]
    exact h2 u hu
theorem isMap_of {w : World} {b n : Nat} {D : DataW Unit} (h : w.ownsMap Tryz.prog 83 lastOfV b n D) : Go.Maps.IsMap D := h.isMap
theorem fr_turned {w w' : World} {b : Nat} (h : w.mapTurned w' b) : Fr (fun k => k = b) w w' := by
  obtain ⟨es, clock, es', clock', hb, rfl⟩ := h
  exact ⟨rfl, rfl, rfl, by simp [setBlock], fun k _ hx => heap_setBlock_other hb _ hx⟩
end Go.Proofs.YtmagojckhfkcdaaGreatDoor.Sk
