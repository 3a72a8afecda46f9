/- Texts of the claim, put together: TrD. -/
import Derived.Test.YtimahlimmblgkaaGreatDoorPTrB
import Derived.Deep.LoopGhost
namespace Go.Proofs.YtimahlimmblgkaaGreatDoor.Sy
open Go Go.RowKit
theorem infoNode : (Tryz.prog.info? 27).map (fun i => (i.zero, i.size, i.bytes)) = some (some (.agg #[.int .u8 0, .slice none 0 0, .int .i64 0, .int .i64 0, .bool false, .slice none 0 0]), 6, 80) := by kernel_rfl
/-- a block of its own of a row, and a tree that does not lie in it -/
theorem app_keep {Q : Nat → Prop} {W w' : World} {v v' : Value} {x : L} (h : RdT (fun b => Q b ∧ v.ownBlock ≠ some b) W x) (hg : W.grownBy w' v.ownBlock) (hv : v'.ownBlock = v.ownBlock ∨ v'.ownBlock = some W.heap.size) : RdT (fun b => Q b ∧ v'.ownBlock ≠ some b) w' x := by
  refine h.chg (fun b hb hl => hg.block b hl (Ne.symm hb.2)) hg.size (fun b hb hl => ⟨hb.1, fun e => ?_⟩)
  rcases hv with e1 | e1
  · exact hb.2 (e1.symm.trans e)
  · rw [e1] at e; injection e; omega
theorem fr_grown {X : Nat → Prop} {w W w' : World} {row : Option Nat} (h : Fr X w W) (hg : W.grownBy w' row) (hr : ∀ k, row = some k → w.heap.size ≤ k) : Fr X w w' :=
  ⟨hg.os.trans h.os, hg.tape.trans h.tape, hg.output.trans h.output, Nat.le_trans h.size hg.size, fun i hi hx => (hg.block i (Nat.lt_of_lt_of_le hi h.size) (fun e => by have := hr i e.symm; omega)).trans (h.block i hi hx)⟩
theorem own_ge {w : World} {base k size : Nat} {T : TypeId} {v : Value} {xs : List Value} (h : w.ownsRow base T size v k xs) : ∀ q, v.ownBlock = some q → base ≤ q := by
  intro q e
  rcases h.2 with ⟨rfl, _⟩ | ⟨g, cap, cur, rfl, hb, _⟩
  · simp [Value.ownBlock] at e
  · simp [Value.ownBlock] at e; omega
theorem own_lt {w : World} {base k size : Nat} {T : TypeId} {v : Value} {xs : List Value} (h : w.ownsRow base T size v k xs) : ∀ q, v.ownBlock = some q → q < w.heap.size := by
  intro q e
  rcases h.2 with ⟨rfl, _⟩ | ⟨g, cap, cur, rfl, hb, hg, _⟩
  · simp [Value.ownBlock] at e
  · simp [Value.ownBlock] at e; have := (Array.getElem?_eq_some_iff.1 hg).1; omega
theorem own_fr {X : Nat → Prop} {w w' : World} {base k size : Nat} {T : TypeId} {v : Value} {xs : List Value} (h : w.ownsRow base T size v k xs) (hf : Fr X w w') (hx : ∀ q, v.ownBlock = some q → ¬ X q) : w'.ownsRow base T size v k xs := by
  refine ⟨h.1, ?_⟩
  rcases h.2 with hn | ⟨g, cap, cur, rfl, hb, hg, rest⟩
  · exact .inl hn
  · exact .inr ⟨g, cap, cur, rfl, hb, (hf.block g (Array.getElem?_eq_some_iff.1 hg).1 (hx g rfl)).trans hg, rest⟩
/-- where the parser stands -/
structure Ctx (w0 : World) (p : Nat) (s : ByteArray) (k : Nat) (w : World) : Prop where
  vs : Vs w0
  bel : Below w0.heap.size w0 w
  ge : w0.heap.size ≤ p
  pa : Pa w p s k
  le : k ≤ s.size
  sz : s.size ≤ 1000000
theorem Ctx.fr {w0 w w' : World} {p : Nat} {s : ByteArray} {k k' : Nat} (h : Ctx w0 p s k w) (hf : Fr (fun q => q = p) w w') (hp : Pa w' p s k') (hk : k' ≤ s.size) : Ctx w0 p s k' w' :=
  ⟨h.vs, h.bel.trans (hf.below (B := w0.heap.size) (fun q hq e => by have := h.ge; omega) h.bel.size), h.ge, hp, hk, h.sz⟩
/-- what alt, cat and atom give: a tree and how far it goes, or false -/
def APost (p : Nat) (s : ByteArray) (k : Nat) (o : Option (T × Nat)) (w : World) (e : Ending) (w' : World) : Prop :=
  (∃ y : L, RdT (fun b => w.heap.size ≤ b) w' y ∧ ((∃ (m : T) (j : Nat), o = some (m, j) ∧ e = .returned (.tuple #[y.val, .bool true]) ∧ y.tree = m ∧ Pa w' p s (k + j) ∧ k + j ≤ s.size) ∨
    (o = none ∧ e = .returned (.tuple #[y.val, .bool false])))) ∧ Fr (fun q => q = p) w w'
def CatH (w0 : World) (p : Nat) (s : ByteArray) (f : Nat) : Prop := ∀ k w, Ctx w0 p s k w → 3 * (s.size - k) + 2 ≤ f → Calls Tryz.prog 79 #[.pointer (some ⟨p, 0, none⟩)] w (APost p s k (pCat f (s.data.toList.drop k) []) w)
def AltH (w0 : World) (p : Nat) (s : ByteArray) (f : Nat) : Prop := ∀ k w, Ctx w0 p s k w → 3 * (s.size - k) + 3 ≤ f → Calls Tryz.prog 52 #[.pointer (some ⟨p, 0, none⟩)] w (APost p s k (pAlt f (s.data.toList.drop k) []) w)
def AtomH (w0 : World) (p : Nat) (s : ByteArray) (f : Nat) : Prop := ∀ k w, Ctx w0 p s k w → k < s.size → 3 * (s.size - k) + 1 ≤ f → Calls Tryz.prog 107 #[.pointer (some ⟨p, 0, none⟩)] w (APost p s k (pAtom f (s.data.toList.drop k)) w)
/-- an empty node's cells -/
abbrev zeroN : Obj := .cells #[.int .u8 0, .slice none 0 0, .int .i64 0, .int .i64 0, .bool false, .slice none 0 0] 27 (0, 0)
/-- the trees read so far, in a row of the call's own -/
structure AccOK (w wr : World) (p : Nat) (v : Value) (acc : List L) : Prop where
  own : wr.ownsRow (w.heap.size + 1) 27 6 v acc.length (nFlat acc)
  sub : ∀ x, x ∈ acc → RdT (fun b => (w.heap.size ≤ b ∧ b ≠ w.heap.size) ∧ v.ownBlock ≠ some b) wr x
  fr : Fr (fun q => q = p) w wr
  res : wr.heap[w.heap.size]? = some zeroN
theorem AccOK.chg {w wr W : World} {p : Nat} {v : Value} {acc : List L} (h : AccOK w wr p v acc) (hp : p < w.heap.size) (hf : Fr (fun q => q = p) wr W) : AccOK w W p v acc :=
  ⟨own_fr h.own hf (fun q e e2 => by have := own_ge h.own q e; omega), fun x hx => (h.sub x hx).fr hf (fun b hb _ e => by have := hb.1.1; omega), h.fr.trans hf, (hf.block _ (isT_of h.res).lt (by omega)).trans h.res⟩
theorem AccOK.al {w wr : World} {p : Nat} {v : Value} {acc : List L} (h : AccOK w wr p v acc) (hp : p < w.heap.size) (o : Obj) : AccOK w (wr.alloc o) p v acc :=
  h.chg hp (Fr.of_bel ((Below.refl _ _).alloc (Nat.le_refl _) _))
theorem AccOK.lt {w wr : World} {p : Nat} {v : Value} {acc : List L} (h : AccOK w wr p v acc) : w.heap.size < wr.heap.size := (isT_of h.res).lt
theorem AccOK.app {w W w' : World} {p : Nat} {v v' : Value} {acc : List L} {y : L} (h : AccOK w W p v acc) (hy : RdT (fun b => (w.heap.size ≤ b ∧ b ≠ w.heap.size) ∧ v.ownBlock ≠ some b) W y)
    (hown : w'.ownsRow (w.heap.size + 1) 27 6 v' (acc.length + 1) (nFlat acc ++ y.cs)) (hg : W.grownBy w' v.ownBlock) (hb : v'.ownBlock = v.ownBlock ∨ v'.ownBlock = some W.heap.size) : AccOK w w' p v' (acc ++ [y]) := by
  refine ⟨?_, ?_, fr_grown h.fr hg (fun k e => by have := own_ge h.own k e; omega), (hg.block _ h.lt (fun e => by have := own_ge h.own _ e.symm; omega)).trans h.res⟩
  · rw [nFlat_append, List.length_append]
    have e : nFlat [y] = y.cs := by simp [nFlat]
    rw [e]
    exact hown
  · intro x hx
    rcases List.mem_append.1 hx with hx | hx
    · exact app_keep (h.sub x hx) hg hb
    · rw [List.mem_singleton.1 hx]
      exact app_keep hy hg hb
/-- a tree that a call made after the row -/
theorem AccOK.new {w wr W : World} {p : Nat} {v : Value} {acc : List L} {y : L} (h : AccOK w wr p v acc) (hy : RdT (fun b => wr.heap.size ≤ b) W y) : RdT (fun b => (w.heap.size ≤ b ∧ b ≠ w.heap.size) ∧ v.ownBlock ≠ some b) W y :=
  hy.mono (fun b hb _ => ⟨⟨by have := h.lt; omega, by have := h.lt; omega⟩, fun e => by have := own_lt h.own b e; omega⟩)
theorem AccOK.join {w W : World} {p : Nat} {na : Option Addr} {n nc : Nat} {acc : List L} (h : AccOK w W p (.slice na n nc) acc) (k : Int) (hk : 0 ≤ k ∧ k ≤ 255) (hl : acc.length ≤ 1000000000) :
    n = acc.length ∧ Calls Tryz.prog 81 #[.int .u8 k, .slice na n nc] W (GivesP (fun b => w.heap.size ≤ b ∧ b ≠ w.heap.size) W (join k (treeL acc))) := by
  obtain ⟨na', nc', e⟩ := own_form h.own
  cases e
  refine ⟨rfl, join_calls k hk na nc acc W (RdF.of_own h.own) hl (fun q e => ?_) (fun q e => ?_) (fun x hx => (h.sub x hx).mono (fun b hb _ => hb.1))⟩
  · rcases own_cases h.own with ⟨rfl, _⟩ | ⟨g, rfl, _, _, hT, _⟩
    · cases e
    · cases e; exact ⟨rfl, hT.lt⟩
  · rcases own_cases h.own with ⟨rfl, _⟩ | ⟨g, rfl, _, hge, _⟩
    · cases e
    · cases e; dsimp only; omega
/-- a tree put into the result's cells -/
theorem six_done {w wT wE : World} {p : Nat} {ky : Int} {say : Option Addr} {scy : Nat} {sy : Rs.S} {mny mxy : Int} {lzy : Bool} {nay : Option Addr} {ncy : Nat} {ly : List L} (hr : wT.heap[w.heap.size]? = some zeroN) (hf : Fr (fun q => q = p) w wT)
    (hy : RdT (fun b => w.heap.size ≤ b ∧ b ≠ w.heap.size) wT (.mk ky say scy sy mny mxy lzy nay ncy ly))
    (hE : wE = ((((((wT.setCell ⟨w.heap.size, 0, none⟩ (.int .u8 ky)).setCell ⟨w.heap.size, 1, none⟩ (.slice say sy.length scy)).setCell ⟨w.heap.size, 2, none⟩ (.int .i64 mny)).setCell ⟨w.heap.size, 3, none⟩ (.int .i64 mxy)).setCell ⟨w.heap.size, 4, none⟩ (.bool lzy)).setCell ⟨w.heap.size, 5, none⟩ (.slice nay ly.length ncy))) :
    wE.heap[w.heap.size]? = some (.cells #[.int .u8 ky, .slice say sy.length scy, .int .i64 mny, .int .i64 mxy, .bool lzy, .slice nay ly.length ncy] 27 (0, 0)) ∧ RdT (fun b => w.heap.size ≤ b) wE (.mk ky say scy sy mny mxy lzy nay ncy ly) ∧
    Fr (fun q => q = p) w wE ∧ ∀ i, i ≠ w.heap.size → i < wT.heap.size → wE.heap[i]? = wT.heap[i]? := by
  have hs : Fr (fun k => k = w.heap.size) wT wE := by rw [hE]; exact six_fr
  refine ⟨by rw [hE]; exact six_cells hr, (hy.fr hs (fun b hb _ => hb.2)).mono (fun b hb _ => hb.1), ?_, fun i hi hl => hs.block i hl hi⟩
  exact ((hf.mono (Y := fun q => q = p ∨ q = w.heap.size) (fun _ _ e => .inl e)).trans (hs.mono (fun _ _ e => .inr e))).mono (fun k hk e => by rcases e with e | e <;> omega)
theorem post_world {P : Program} {f : Func} {Q : Ending → World → Prop} {x : Exit} {a : Act} {w : World} (h : ∀ W, W = w → bodyPost P f Q x a W) : bodyPost P f Q x a w := h w rfl
theorem pa_grown {w' W : World} {p k : Nat} {s : ByteArray} {row : Option Nat} (h : Pa W p s k) (hg : W.grownBy w' row) (hr : row ≠ some p) : Pa w' p s k := (hg.block _ h.lt (Ne.symm hr)).trans h
theorem pa_al {W : World} {p k : Nat} {s : ByteArray} (h : Pa W p s k) (o : Obj) : Pa (W.alloc o) p s k := (((Below.refl W.heap.size W).alloc (Nat.le_refl _) o).block _ h.lt).trans h
theorem pa_bel {W w' : World} {p k : Nat} {s : ByteArray} (h : Pa W p s k) (hb : Below W.heap.size W w') : Pa w' p s k := (hb.block _ h.lt).trans h
theorem pAlt_no {G : Nat} {cs : B} {acc : List T} (h : pCat G cs [] = none) : pAlt (G + 1) cs acc = none := by rw [pAlt, h]
theorem pAlt_more {G : Nat} {cs : B} {acc : List T} {m : T} {j : Nat} (h : pCat G cs [] = some (m, j)) (hc : cs[j]? = some 124) : pAlt (G + 1) cs acc = (pAlt G (cs.drop (j + 1)) (acc ++ [m])).map (fun p => (p.1, j + 1 + p.2)) := by rw [pAlt, h]; dsimp only; rw [if_pos hc]
theorem pAlt_end {G : Nat} {cs : B} {acc : List T} {m : T} {j : Nat} (h : pCat G cs [] = some (m, j)) (hc : cs[j]? ≠ some 124) : pAlt (G + 1) cs acc = some (join 4 (acc ++ [m]), j) := by rw [pAlt, h]; dsimp only; rw [if_neg hc]
theorem hd_at (s : ByteArray) (k j : Nat) : (s.data.toList.drop (k + j)).head? = (s.data.toList.drop k)[j]? := by rw [List.head?_drop, List.getElem?_drop]
/-- at the head of alt's loop -/
def AHead (w0 w : World) (p : Nat) (s : ByteArray) (k F : Nat) (G : Nat) (s4 : Value) (wr : World) : Prop :=
  ∃ (k' : Nat) (acc : List L), k ≤ k' ∧ Ctx w0 p s k' wr ∧ 3 * (s.size - k') + 3 ≤ G ∧ G ≤ F ∧ acc.length ≤ k' ∧ AccOK w wr p s4 acc ∧
    pAlt F (s.data.toList.drop k) [] = (pAlt G (s.data.toList.drop k') (treeL acc)).map (fun q => (q.1, k' - k + q.2))
set_option maxRecDepth 100000 in
set_option maxHeartbeats 8000000 in
theorem alt_of_cat (w0 : World) (p : Nat) (s : ByteArray) (F : Nat) (hC : ∀ f, f < F → CatH w0 p s f) : AltH w0 p s F := by
  intro k w hctx hF
  have HC := Lib.hid hC
  have HX := Lib.hid hctx
  have HFF := Lib.hid hF
  clear hC hctx hF
  go_enter Tryz.func52, Tryz.ntmps52
  go_wp2_with fail
  go_loopg [4] F (fun G s4 wr => AHead w0 w p s k F G s4 wr)
  case atStart =>
    have hc := HX.out
    exact ⟨k, [], Nat.le_refl _, ⟨hc.vs, hc.bel.alloc hc.bel.size _, hc.ge, by
        have := hc.pa
        unfold Pa at this ⊢
        exact (((Below.refl w.heap.size w).alloc (Nat.le_refl _) _).block _ hc.pa.lt).trans this, hc.le, hc.sz⟩, HFF.out, Nat.le_refl _, Nat.zero_le _, ⟨⟨rfl, .inl ⟨rfl, rfl⟩⟩, fun _ h => (by cases h), Fr.of_bel ((Below.refl _ _).alloc (Nat.le_refl _) _), heap_alloc_new w _⟩, by
        rw [Nat.sub_self]
        show _ = Option.map (fun q => (q.1, 0 + q.2)) (pAlt F (s.data.toList.drop k) [])
        cases pAlt F (s.data.toList.drop k) [] <;> simp⟩
  case round =>
    obtain ⟨k', acc, hkk, hc, hG, hGF, hal, hacc, heq⟩ := hrel
    obtain ⟨G, rfl⟩ : ∃ G, gk = G + 1 := ⟨gk - 1, by omega⟩
    have HC2 := Lib.hid (HC.out G (by omega) k' wr hc (by omega))
    have HR := Lib.hid hacc
    have HE := Lib.hid heq
    have HK := Lib.hid hc
    have HN := Lib.hid (And.intro hkk (And.intro hG (And.intro hGF hal)))
    have hp1 : p < w.heap.size := HX.out.pa.lt
    clear hacc heq hc hkk hG hGF hal
    go_wp2_with fail
    go_at_call 79
    refine HC2.out.mono ?_
    rintro e W ⟨⟨y, hy, hcase⟩, hfW⟩
    have hr : W.heap[w.heap.size]? = some (.cells #[.int .u8 0, .slice none 0 0, .int .i64 0, .int .i64 0, .bool false, .slice none 0 0] 27 (0, 0)) := (HR.out.chg hp1 hfW).res
    have hra : ∀ o, (W.alloc o).heap[w.heap.size]? = some (.cells #[.int .u8 0, .slice none 0 0, .int .i64 0, .int .i64 0, .bool false, .slice none 0 0] 27 (0, 0)) := fun o => (((Below.refl W.heap.size W).alloc (Nat.le_refl _) o).block _ (isT_of hr).lt).trans hr
    have d0 : ∀ o, (W.alloc o).cell? ⟨w.heap.size, 0, none⟩ = some (.int .u8 0) := fun o => block_cell (hra o) 0 _ rfl
    have d1 : ∀ o, (W.alloc o).cell? ⟨w.heap.size, 1, none⟩ = some (.slice none 0 0) := fun o => block_cell (hra o) 1 _ rfl
    have d2 : ∀ o, (W.alloc o).cell? ⟨w.heap.size, 2, none⟩ = some (.int .i64 0) := fun o => block_cell (hra o) 2 _ rfl
    have d3 : ∀ o, (W.alloc o).cell? ⟨w.heap.size, 3, none⟩ = some (.int .i64 0) := fun o => block_cell (hra o) 3 _ rfl
    have d4 : ∀ o, (W.alloc o).cell? ⟨w.heap.size, 4, none⟩ = some (.bool false) := fun o => block_cell (hra o) 4 _ rfl
    have d5 : ∀ o, (W.alloc o).cell? ⟨w.heap.size, 5, none⟩ = some (.slice none 0 0) := fun o => block_cell (hra o) 5 _ rfl
    have v0 : ∀ o, (W.alloc o).frozen? ⟨w.heap.size, 0, none⟩ = false := fun o => block_froz (hra o) 0
    have v1 : ∀ o, (W.alloc o).frozen? ⟨w.heap.size, 1, none⟩ = false := fun o => block_froz (hra o) 1
    have v2 : ∀ o, (W.alloc o).frozen? ⟨w.heap.size, 2, none⟩ = false := fun o => block_froz (hra o) 2
    have v3 : ∀ o, (W.alloc o).frozen? ⟨w.heap.size, 3, none⟩ = false := fun o => block_froz (hra o) 3
    have v4 : ∀ o, (W.alloc o).frozen? ⟨w.heap.size, 4, none⟩ = false := fun o => block_froz (hra o) 4
    have v5 : ∀ o, (W.alloc o).frozen? ⟨w.heap.size, 5, none⟩ = false := fun o => block_froz (hra o) 5
    have HW := Lib.hid (And.intro hr (And.intro hfW (And.intro hy hra)))
    clear hr hfW hy hra
    obtain ⟨ky, say, scy, sy, mny, mxy, lzy, nay, ncy, ly⟩ := y
    rcases hcase with ⟨m, j, ho, he, hym, hpa, hj⟩ | ⟨ho, he⟩
    · replace he : e = .returned (.tuple #[.agg #[.int .u8 ky, .slice say sy.length scy, .int .i64 mny, .int .i64 mxy, .bool lzy, .slice nay ly.length ncy], .bool true]) := he
      subst he
      have HO := Lib.hid (And.intro ho (And.intro hym (And.intro hpa hj)))
      clear ho hym hpa hj
      clear d0 d1 d2 d3 d4 d5 v0 v1 v2 v3 v4 v5
      go_wp2_with (at_builtin; refine wpList_app rfl _ _ 25 27 6 80 _ rfl Tryz.underlying25 infoNode rfl (by decide) (by decide) (w.heap.size + 1) _ acc.length (nFlat acc) rfl (((HR.out.chg hp1 HW.out.2.1).al hp1 _).al hp1 _).own ⟨W.heap.size + 1, 0, none⟩ 1 1 [.int .u8 ky, .slice say sy.length scy, .int .i64 mny, .int .i64 mxy, .bool lzy, .slice nay ly.length ncy] rfl rfl (cells_new (W.alloc (.cells #[.int .u8 ky, .slice say sy.length scy, .int .i64 mny, .int .i64 mxy, .bool lzy, .slice nay ly.length ncy] 27)) #[.int .u8 ky, .slice say sy.length scy, .int .i64 mny, .int .i64 mxy, .bool lzy, .slice nay ly.length ncy] _ _ (by simp)) (cs_one (.mk ky say scy sy mny mxy lzy nay ncy ly)) (by have := HN.out.2.2.2; have := HK.out.le; have := HK.out.sz; omega) (by have := (isT_of HW.out.1).lt; simp; omega) ?_; intro v' w' hown hgrow hblk hbel; have HV := Lib.hid (And.intro hown (And.intro hgrow (And.intro hblk hbel))); clear hown hgrow hblk hbel)
      obtain ⟨na, nc, rfl⟩ := own_form HV.out.1
      have HA := Lib.hid (((((HR.out.chg hp1 HW.out.2.1).al hp1 _).al hp1 _).app ((HR.out.new HW.out.2.2.1).bel (((Below.refl _ _).alloc (Nat.le_refl _) _).alloc (by simp) _)) HV.out.1 HV.out.2.1 HV.out.2.2.1))
      have HP := Lib.hid (pa_grown (pa_al (pa_al HO.out.2.2.1 _) _) HV.out.2.1 (fun e => by have := own_ge HR.out.own _ e; omega))
      by_cases hz : (s.data.toList.drop (k' + j)).head? = some 124
      · have HZ := Lib.hid hz
        clear hz
        go_at_call 80
        refine (take_yes p s ⟨#[124]⟩ (k' + j) _ HP.out (by have := hd_lt HZ.out; show k' + j + 1 ≤ s.size; omega) HK.out.sz (by rw [hasPre_one]; exact decide_eq_true HZ.out)).mono ?_
        rintro e wl ⟨rfl, hpl, hfl⟩
        have HL := Lib.hid (And.intro hpl hfl)
        clear hpl hfl
        go_wp2_with fail
        go_roundg G
        case measure => omega
        case rel =>
          have hA := HA.out.chg hp1 HL.out.2
          have h1 : k' + j + 1 ≤ s.size := by have := hd_lt HZ.out; omega
          refine ⟨k' + j + 1, acc ++ [.mk ky say scy sy mny mxy lzy nay ncy ly], by have := HN.out.1; omega, HX.out.fr hA.fr HL.out.1 h1, by have := HN.out.2.1; omega, by have := HN.out.2.2.1; omega, by have := HN.out.2.2.2; simp; omega, hA, ?_⟩
          rw [HE.out, pAlt_more HO.out.1 ((hd_at s k' j).symm.trans HZ.out), Option.map_map, List.drop_drop, treeL_append, Nat.add_assoc]
          have e1 : treeL [.mk ky say scy sy mny mxy lzy nay ncy ly] = [m] := by rw [← HO.out.2.1]; rfl
          rw [e1]
          congr 1
          funext q
          have := HN.out.1
          simp only [Function.comp_apply, Prod.mk.injEq, true_and]
          omega
      · have HZ := Lib.hid hz
        clear hz
        go_at_call 80
        refine (take_no p s ⟨#[124]⟩ (k' + j) _ HP.out HO.out.2.2.2 HK.out.sz (by rw [hasPre_one]; exact decide_eq_false HZ.out)).mono ?_
        rintro e wl ⟨rfl, hpl, hfl⟩
        have HL := Lib.hid (And.intro hpl (HA.out.chg hp1 hfl))
        clear hpl hfl
        go_wp2_with fail
        go_at_call 81
        refine (HL.out.2.join 4 (by decide) (by have := HN.out.2.2.2; have := HK.out.le; have := HK.out.sz; simp; omega)).2.mono ?_
        rintro e wJ ⟨x, he, hxt, hx, hbJ⟩
        obtain ⟨kx, sax, scx, sx, mnx, mxx, lzx, nax, ncx, lx⟩ := x
        replace he : e = .returned (.agg #[.int .u8 kx, .slice sax sx.length scx, .int .i64 mnx, .int .i64 mxx, .bool lzx, .slice nax lx.length ncx]) := he
        subst he
        have hr := (hbJ.block _ HL.out.2.lt).trans HL.out.2.res
        have d0 := block_cell hr 0 _ rfl
        have d1 := block_cell hr 1 _ rfl
        have d2 := block_cell hr 2 _ rfl
        have d3 := block_cell hr 3 _ rfl
        have d4 := block_cell hr 4 _ rfl
        have d5 := block_cell hr 5 _ rfl
        have v0 := block_froz hr 0
        have v1 := block_froz hr 1
        have v2 := block_froz hr 2
        have v3 := block_froz hr 3
        have v4 := block_froz hr 4
        have v5 := block_froz hr 5
        have HJ := Lib.hid (And.intro hr (And.intro hxt (And.intro hx hbJ)))
        clear hr hxt hx hbJ
        go_wp2_with fail
        refine post_world ?_
        intro wE hwE
        have hD := six_done HJ.out.1 (HL.out.2.fr.trans (Fr.of_bel HJ.out.2.2.2)) HJ.out.2.2.1 hwE
        have s0 := block_cell hD.1 0 _ rfl
        have s1 := block_cell hD.1 1 _ rfl
        have s2 := block_cell hD.1 2 _ rfl
        have s3 := block_cell hD.1 3 _ rfl
        have s4 := block_cell hD.1 4 _ rfl
        have s5 := block_cell hD.1 5 _ rfl
        have HD := Lib.hid hD.2
        clear hD hwE d0 d1 d2 d3 d4 d5 v0 v1 v2 v3 v4 v5
        refine bodyPost_ret (v := .tuple #[.agg #[.int .u8 kx, .slice sax sx.length scx, .int .i64 mnx, .int .i64 mxx, .bool lzx, .slice nax lx.length ncx], .bool true]) (by simp [results, Tryz.results52, go_sem, s0, s1, s2, s3, s4, s5]) rfl ⟨⟨_, HD.out.1, .inl ⟨_, k' - k + j, ?_, rfl, HJ.out.2.1, ?_, ?_⟩⟩, HD.out.2.1⟩
        · rw [HE.out, pAlt_end HO.out.1 (fun e => HZ.out ((hd_at s k' j).trans e)), treeL_append]
          have e1 : treeL [.mk ky say scy sy mny mxy lzy nay ncy ly] = [m] := by rw [← HO.out.2.1]; rfl
          rw [e1]
          rfl
        · have e1 : k + (k' - k + j) = k' + j := by have := HN.out.1; omega
          rw [e1]
          exact (HD.out.2.2 p (by omega) (pa_bel HL.out.1 HJ.out.2.2.2).lt).trans (pa_bel HL.out.1 HJ.out.2.2.2)
        · have := HN.out.1; have := HO.out.2.2.2; omega
    · replace he : e = .returned (.tuple #[.agg #[.int .u8 ky, .slice say sy.length scy, .int .i64 mny, .int .i64 mxy, .bool lzy, .slice nay ly.length ncy], .bool false]) := he
      subst he
      have HO := Lib.hid ho
      clear ho
      go_wp2_with fail
      refine post_world ?_
      intro wE hwE
      have hD := six_done (HW.out.2.2.2 _) (((HR.out.chg hp1 HW.out.2.1).al hp1 _).fr) (((HR.out.new HW.out.2.2.1).bel ((Below.refl _ _).alloc (Nat.le_refl _) _)).mono (fun b hb _ => hb.1)) hwE
      have s0 := block_cell hD.1 0 _ rfl
      have s1 := block_cell hD.1 1 _ rfl
      have s2 := block_cell hD.1 2 _ rfl
      have s3 := block_cell hD.1 3 _ rfl
      have s4 := block_cell hD.1 4 _ rfl
      have s5 := block_cell hD.1 5 _ rfl
      have HD := Lib.hid hD.2
      clear hD hwE d0 d1 d2 d3 d4 d5 v0 v1 v2 v3 v4 v5
      refine bodyPost_ret (v := .tuple #[.agg #[.int .u8 ky, .slice say sy.length scy, .int .i64 mny, .int .i64 mxy, .bool lzy, .slice nay ly.length ncy], .bool false]) (by simp [results, Tryz.results52, go_sem, s0, s1, s2, s3, s4, s5]) rfl ⟨⟨_, HD.out.1, .inr ⟨by rw [HE.out, pAlt_no HO.out]; rfl, rfl⟩⟩, HD.out.2.1⟩
end Go.Proofs.YtimahlimmblgkaaGreatDoor.Sy
