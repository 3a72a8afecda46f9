/- Chapter 07: small numbers as they lie in memory. -/
import Derived.Test.YtimahlimmblgkaaGreatDoorPTrD
import Derived.Test.YtimahlimmblgkaaGreatDoorPTqE
import Derived.Test.YtimahlimmblgkaaGreatDoorPTqF
namespace Go.Proofs.YtimahlimmblgkaaGreatDoor.Sy
open Go Go.RowKit
/-- small numbers as they lie in memory -/
def smC (x : Sm) : List Value := [.int .u8 x.kind, .int .u8 x.a, .int .u8 x.b]
def sFlat (l : List Sm) : List Value := l.flatMap smC
def SmOK (x : Sm) : Prop := (0 ≤ x.kind ∧ x.kind ≤ 255) ∧ (0 ≤ x.a ∧ x.a ≤ 255) ∧ (0 ≤ x.b ∧ x.b ≤ 255)
theorem sFlat_length (l : List Sm) : (sFlat l).length = l.length * 3 := flat_len smC 3 (fun _ => rfl) l
theorem sFlat_at {l : List Sm} {j i : Nat} {x : Sm} {v : Value} (h : l[j]? = some x) (hv : (smC x)[i]? = some v) : (sFlat l)[j * 3 + i]? = some v := flat_at smC 3 (fun _ => rfl) h hv
/-- the pile, in a row of the call's own -/
structure Pile (w wr : World) (v : Value) (acc : List L) : Prop where
  own : wr.ownsRow (w.heap.size + 1) 27 6 v acc.length (nFlat acc)
  sub : ∀ x, x ∈ acc → RdT (fun b => (w.heap.size ≤ b ∧ b ≠ w.heap.size) ∧ v.ownBlock ≠ some b) wr x
  bel : Below w.heap.size w wr
  res : wr.heap[w.heap.size]? = some zeroN
section
variable {w wr W w' wE : World} {v v' : Value} {acc : List L}
theorem Pile.lt (h : Pile w wr v acc) : w.heap.size < wr.heap.size := (isT_of h.res).lt
theorem Pile.chg (h : Pile w wr v acc) (hb : Below wr.heap.size wr W) : Pile w W v acc :=
  ⟨own_fr h.own (Fr.of_bel (X := fun _ => False) hb) (fun _ _ e => e), fun x hx => (h.sub x hx).bel hb, h.bel.trans (hb.mono h.bel.size), (hb.block _ h.lt).trans h.res⟩
theorem Pile.new {y : L} (h : Pile w wr v acc) (hy : RdT (fun b => wr.heap.size ≤ b) W y) : RdT (fun b => (w.heap.size ≤ b ∧ b ≠ w.heap.size) ∧ v.ownBlock ≠ some b) W y :=
  hy.mono (fun b hb _ => ⟨⟨by have := h.lt; omega, by have := h.lt; omega⟩, fun e => by have := own_lt h.own b e; omega⟩)
theorem Pile.app {y : L} (h : Pile w W v acc) (hy : RdT (fun b => (w.heap.size ≤ b ∧ b ≠ w.heap.size) ∧ v.ownBlock ≠ some b) W y)
    (hown : w'.ownsRow (w.heap.size + 1) 27 6 v' (acc.length + 1) (nFlat acc ++ y.cs)) (hg : W.grownBy w' v.ownBlock) (hb : v'.ownBlock = v.ownBlock ∨ v'.ownBlock = some W.heap.size) : Pile w w' v' (acc ++ [y]) := by
  refine ⟨?_, ?_, h.bel.grown hg h.bel.size (fun k e => by have := own_ge h.own k e; omega), (hg.block _ h.lt (fun e => by have := own_ge h.own _ e.symm; omega)).trans h.res⟩
  · rw [nFlat_append, List.length_append]
    have e : nFlat [y] = y.cs := by simp [nFlat]
    rw [e]
    exact hown
  · intro x hx
    rcases List.mem_append.1 hx with hx | hx
    · exact app_keep (h.sub x hx) hg hb
    · rw [List.mem_singleton.1 hx]
      exact app_keep hy hg hb
/-- the first ones alone -/
theorem own_take {base : Nat} {T : TypeId} {size n cap : Nat} {a : Option Addr} {xs : List Value} (h : wr.ownsRow base T size (.slice a n cap) n xs) {k : Nat} (hk : k ≤ n) : wr.ownsRow base T size (.slice a k cap) k (xs.take (k * size)) := by
  refine ⟨?_, ?_⟩
  · have := h.1
    rw [List.length_take, this]
    exact Nat.min_eq_left (Nat.mul_le_mul_right _ hk)
  · rcases h.2 with ⟨e, h0⟩ | ⟨g, cap', cur, hv, hb, hg, h1, h2, h3, h4⟩
    · cases e
      obtain rfl : k = 0 := by omega
      exact .inl ⟨rfl, rfl⟩
    · cases hv
      refine .inr ⟨g, cap, cur, rfl, hb, hg, by omega, h2, h3, ?_⟩
      rw [← h4, List.take_take, Nat.min_eq_left (Nat.mul_le_mul_right _ hk)]
theorem nFlat_take (l : List L) (k : Nat) : nFlat (l.take k) = (nFlat l).take (k * 6) := by
  induction k generalizing l with
  | zero => simp [nFlat]
  | succ k ih =>
    cases l with
    | nil => simp [nFlat]
    | cons x r =>
      have e : nFlat (x :: r) = x.cs ++ nFlat r := by simp [nFlat]
      have e2 : nFlat (x :: r.take k) = x.cs ++ nFlat (r.take k) := by simp [nFlat]
      rw [List.take_succ_cons, e, e2, ih r, show (k + 1) * 6 = 6 + k * 6 by omega, List.take_append, List.take_of_length_le (l := x.cs) (by rw [L.cs_len]; omega), L.cs_len, show 6 + k * 6 - 6 = k * 6 by omega]
theorem Pile.cut {a : Option Addr} {n cap k : Nat} (h : Pile w W (.slice a n cap) acc) (hn : n = acc.length) (hk : k ≤ n) : Pile w W (.slice a k cap) (acc.take k) := by
  subst hn
  refine ⟨?_, fun x hx => ?_, h.bel, h.res⟩
  · rw [nFlat_take, List.length_take, Nat.min_eq_left hk]
    exact own_take h.own hk
  · have e : (Value.slice a k cap).ownBlock = (Value.slice a acc.length cap).ownBlock := by cases a <;> rfl
    rw [e]
    exact h.sub x (List.mem_of_mem_take hx)
/-- six cells at the end of a list, one after the other -/
theorem set_six (xs ys : List Value) (hy : ys.length = 6) (u0 u1 u2 u3 u4 u5 : Value) :
    ((((((xs ++ ys).set xs.length u0).set (xs.length + 1) u1).set (xs.length + 2) u2).set (xs.length + 3) u3).set (xs.length + 4) u4).set (xs.length + 5) u5 = xs ++ [u0, u1, u2, u3, u4, u5] := by
  match ys, hy with
  | [a0, a1, a2, a3, a4, a5], _ => simp
theorem six_own {base g n cap o : Nat} {T : TypeId} {xs ys : List Value} {u0 u1 u2 u3 u4 u5 : Value} (h : W.ownsRow base T 6 (.slice (some ⟨g, 0, none⟩) n cap) n (xs ++ ys)) (hy : ys.length = 6) (ho : o = xs.length) :
    ((((((W.setCell ⟨g, o, none⟩ u0).setCell ⟨g, o + 1, none⟩ u1).setCell ⟨g, o + 2, none⟩ u2).setCell ⟨g, o + 3, none⟩ u3).setCell ⟨g, o + 4, none⟩ u4).setCell ⟨g, o + 5, none⟩ u5).ownsRow base T 6 (.slice (some ⟨g, 0, none⟩) n cap) n (xs ++ [u0, u1, u2, u3, u4, u5]) := by
  subst ho
  have h5 := ((((((h.stored xs.length u0).1.stored (xs.length + 1) u1).1.stored (xs.length + 2) u2).1.stored (xs.length + 3) u3).1.stored (xs.length + 4) u4).1.stored (xs.length + 5) u5).1
  rw [set_six xs ys hy] at h5
  exact h5
theorem six_frO {g o : Nat} {u0 u1 u2 u3 u4 u5 : Value} : Fr (fun k => k = g) W ((((((W.setCell ⟨g, o, none⟩ u0).setCell ⟨g, o + 1, none⟩ u1).setCell ⟨g, o + 2, none⟩ u2).setCell ⟨g, o + 3, none⟩ u3).setCell ⟨g, o + 4, none⟩ u4).setCell ⟨g, o + 5, none⟩ u5) :=
  ((((((Fr.refl (fun k => k = g) W).setCell (p := ⟨g, o, none⟩) rfl u0).setCell (p := ⟨g, o + 1, none⟩) rfl u1).setCell (p := ⟨g, o + 2, none⟩) rfl u2).setCell (p := ⟨g, o + 3, none⟩) rfl u3).setCell (p := ⟨g, o + 4, none⟩) rfl u4).setCell (p := ⟨g, o + 5, none⟩) rfl u5
/-- the uppermost one replaced -/
theorem Pile.put {g n cap : Nat} {r : List L} {t : L} {ky : Int} {say : Option Addr} {scy : Nat} {sy : Rs.S} {mny mxy : Int} {lzy : Bool} {nay : Option Addr} {ncy : Nat} {ly : List L} (h : Pile w W (.slice (some ⟨g, 0, none⟩) n cap) (r ++ [t])) (hn : n = r.length + 1)
    (hy : RdT (fun b => (w.heap.size ≤ b ∧ b ≠ w.heap.size) ∧ some g ≠ some b) W (.mk ky say scy sy mny mxy lzy nay ncy ly))
    (hE : wE = (((((W.setCell ⟨g, r.length * 6, none⟩ (.int .u8 ky)).setCell ⟨g, r.length * 6 + 1, none⟩ (.slice say sy.length scy)).setCell ⟨g, r.length * 6 + 2, none⟩ (.int .i64 mny)).setCell ⟨g, r.length * 6 + 3, none⟩ (.int .i64 mxy)).setCell ⟨g, r.length * 6 + 4, none⟩ (.bool lzy)).setCell ⟨g, r.length * 6 + 5, none⟩ (.slice nay ly.length ncy)) :
    Pile w wE (.slice (some ⟨g, 0, none⟩) n cap) (r ++ [.mk ky say scy sy mny mxy lzy nay ncy ly]) := by
  subst hE
  have hge : w.heap.size + 1 ≤ g := own_ge h.own g rfl
  refine ⟨?_, fun x hx => ?_, ?_, (six_frO.block _ h.lt (by omega)).trans h.res⟩
  · have h1 := h.own
    rw [nFlat_append, List.length_append, show r.length + [t].length = n by rw [hn]; rfl] at h1
    rw [nFlat_append, List.length_append, show r.length + [L.mk ky say scy sy mny mxy lzy nay ncy ly].length = n by rw [hn]; rfl]
    have e : nFlat [L.mk ky say scy sy mny mxy lzy nay ncy ly] = [.int .u8 ky, .slice say sy.length scy, .int .i64 mny, .int .i64 mxy, .bool lzy, .slice nay ly.length ncy] := by simp [nFlat, L.cs]
    rw [e]
    exact six_own h1 (by rw [nFlat_length]; rfl) (by rw [nFlat_length])
  · have hx' : x ∈ r ++ [t] ∨ x = .mk ky say scy sy mny mxy lzy nay ncy ly := by
      rcases List.mem_append.1 hx with h | h
      · exact .inl (List.mem_append_left _ h)
      · exact .inr (List.mem_singleton.1 h)
    rcases hx' with hx | rfl
    · exact (h.sub x hx).fr six_frO (fun b hb _ e => hb.2 (by rw [e]; rfl))
    · exact hy.fr six_frO (fun b hb _ e => hb.2 (by rw [e]))
  · exact h.bel.trans (six_frO.below (B := w.heap.size) (fun k hk e => by omega) h.bel.size)
end
end Go.Proofs.YtimahlimmblgkaaGreatDoor.Sy
