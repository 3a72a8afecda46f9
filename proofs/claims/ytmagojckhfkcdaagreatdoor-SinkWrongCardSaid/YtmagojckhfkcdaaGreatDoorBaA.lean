/- Several parts in one text: Base, ClsA. -/
import Derived.Test.YtmagojckhfkcdaaGreatDoorProg
import Derived.Test.YtmagojckhfkcdaaGreatDoorPlA
import Derived.WalkKit
import Derived.WalkSpells
import Derived.WalkLawsBesides
import Derived.Lib.Hide
import Derived.BigQuiet
import Derived.Deep.QuietTactic
/- Small facts that the walks share: endings, slices of ranges as they lie in memory. -/
namespace Go.Proofs.YtmagojckhfkcdaaGreatDoor
open Go.RowKit
theorem ret_bool {a b : Bool} (h : a = b) : Ending.returned (.bool a) = .returned (.bool b) := by rw [h]
theorem ret_int {k : IntKind} {a b : Int} (h : a = b) : Ending.returned (.int k a) = .returned (.int k b) := by rw [h]

theorem int_eq {k : IntKind} {a b : Int} (h : a = b) : Value.int k a = Value.int k b := by rw [h]
theorem bool_eq {a b : Bool} (h : a = b) : Value.bool a = Value.bool b := by rw [h]

theorem below_drewN {B : Nat} {a w : World} (h : Below B a w) (n : Nat) : Below B a (w.drewN n) := h.trans ⟨rfl, rfl, rfl, Nat.le_refl _, fun _ _ => rfl⟩

/-- What a callee leaves, for the walk: old cells and old marks read as before. -/
theorem bcell {W w1 : World} (hb : Below W.heap.size W w1) : (∀ b o, b < W.heap.size → w1.cell? ⟨b, o, none⟩ = W.cell? ⟨b, o, none⟩) ∧ (∀ b o, b < W.heap.size → w1.frozen? ⟨b, o, none⟩ = W.frozen? ⟨b, o, none⟩) :=
  ⟨fun b o h => hb.cell (p := ⟨b, o, none⟩) h, fun b o h => hb.frozen (p := ⟨b, o, none⟩) h⟩

/-- The slice at a reads, in w, as the ranges l. -/
def RdR (w : World) (a : Option Addr) (l : Rs.S) : Prop :=
  l ≠ [] → ∃ b off, a = some ⟨b, off, none⟩ ∧ b < w.heap.size ∧ ∀ (i : Nat) (r : Rs.R), l[i]? = some r → w.cell? ⟨b, off + i * 2, none⟩ = some (.int .i64 r.1) ∧ w.cell? ⟨b, off + i * 2 + 1, none⟩ = some (.int .i64 r.2)
theorem RdR.below {w w1 : World} {a : Option Addr} {l : Rs.S} {B : Nat} (h : RdR w a l) (hb : Below B w w1) (hB : ∀ b off, a = some ⟨b, off, none⟩ → b < B) : RdR w1 a l := by
  intro hl
  obtain ⟨b, off, rfl, h1, h2⟩ := h hl
  refine ⟨b, off, rfl, by have := hb.size; omega, fun i r hr => ?_⟩
  have hbb := hB b off rfl
  rw [hb.cell (p := ⟨b, off + i * 2, none⟩) hbb, hb.cell (p := ⟨b, off + i * 2 + 1, none⟩) hbb]
  exact h2 i r hr
theorem RdR.nil (w : World) (a : Option Addr) : RdR w a [] := fun h => absurd rfl h
end Go.Proofs.YtmagojckhfkcdaaGreatDoor
