/- Texts of the claim, put together: TsO. -/
import Derived.Test.YtimahlimmblgkaaGreatDoorPTsP
namespace Go.Proofs.YtimahlimmblgkaaGreatDoor.Sy
open Go Go.RowKit
/-- a located tree in a box of its own -/
structure OneAt (w : World) (x : L) (A : Nat) (W : World) : Prop where
  bel : Below w.heap.size w W
  a : W.heap[A]? = some (.cells x.cs.toArray 27 (0, 0))
  r : RdT (fun _ => True) W x
theorem OneAt.next {w W W' : World} {x : L} {A : Nat} (h : OneAt w x A W) (hb : Below W.heap.size W W') : OneAt w x A W' :=
  ⟨h.bel.trans (hb.mono h.bel.size), (hb.block _ (isT_of h.a).lt).trans h.a, h.r.bel hb⟩
theorem one_part {P : Nat → Prop} {w W : World} {x : L} {E : Nat} {k mn mx : Int} {lz : Bool} (hx : RdT P w x) (hb : Below w.heap.size w W) (hE : W.heap[E]? = some (.cells x.cs.toArray 27 (0, 0))) (hPE : P E) (hk : 0 ≤ k ∧ k ≤ 255) (hmn : i64 mn) (hmx : i64 mx) :
    RdT P W (.mk k none 0 [] mn mx lz (some ⟨E, 0, none⟩) 1 [x]) :=
  RdT.node (l := [x]) hk hmn hmx (RdF.one hE) (by simp) (fun q e => by cases e; exact ⟨rfl, (isT_of hE).lt⟩) (fun q e => by cases e; exact hPE) (fun y hy => by rw [List.mem_singleton.1 hy]; exact hx.bel hb)
end Go.Proofs.YtimahlimmblgkaaGreatDoor.Sy
