/- Chapter 07: Made: the trees that the laws make of small numbers. -/
import Derived.Test.YtimahlimmblgkaaGreatDoorPTsG
import Derived.Deep.LoopGhost
import Derived.Laws.OwnMore
import Derived.Deep.RegionHeldLaw
import Derived.Deep.AppendLies
import Derived.Maps.AppendAt
import Derived.Laws.AppendOwnNone
namespace Go.Proofs.YtimahlimmblgkaaGreatDoor.Sy
open Go Go.RowKit
def MRel (w : World) (l : List Sm) (n : Nat) (G : Nat) (v3 v17 : Value) (wr : World) : Prop :=
  ∃ (j : Nat) (acc : List L), j ≤ n ∧ G = n - j ∧ v17 = .int .i64 (j : Int) ∧ acc.length ≤ j ∧ Pile w wr v3 acc ∧ (treeL acc).reverse = piled (l.take j)
theorem piled_snoc {l : List Sm} {j : Nat} {x : Sm} (h : l[j]? = some x) : piled (l.take (j + 1)) = step x (piled (l.take j)) := by
  have hj := (List.getElem?_eq_some_iff.1 h).1
  have ht := (List.getElem?_eq_some_iff.1 h).2
  unfold piled
  rw [List.take_succ_eq_append_getElem hj, ht, List.foldl_append]
  rfl
theorem step_empty {x : Sm} {st : List T} (h : x.kind % 10 = 0) : step x st = .mk 1 [] 0 0 false [] :: st := by unfold step; dsimp only; rw [if_pos h]
theorem step_leaf {x : Sm} {st : List T} (h : x.kind % 10 ≠ 0) (h2 : x.kind % 10 < 5 ∨ st = []) : step x st = leaf x.a x.b :: st := by
  unfold step
  dsimp only
  rw [if_neg h]
  cases st with
  | nil => rfl
  | cons t r => dsimp only; rw [if_pos (h2.resolve_right (by simp))]
theorem step_group {x : Sm} {t : T} {r : List T} (h : x.kind % 10 = 5) : step x (t :: r) = .mk 6 [] 0 0 false [t] :: r := by
  unfold step
  dsimp only
  rw [if_neg (by omega), if_neg (by omega), if_pos h]
theorem step_rep {x : Sm} {t : T} {r : List T} (h : 5 < x.kind % 10) (h2 : x.kind % 10 < 8 ∨ r = []) :
    step x (t :: r) = (if nulP t then .mk 5 [] (x.a % 4 % 2) 1 (decide (x.b % 2 = 1)) [t] else .mk 5 [] (x.a % 4) (if x.b % 5 = 0 then -1 else x.a % 4 + x.b / 2 % 3) (decide (x.b % 2 = 1)) [t]) :: r := by
  unfold step
  dsimp only
  rw [if_neg (by omega), if_neg (by omega), if_neg (by omega), if_pos h2]
theorem step_many {x : Sm} {t : T} {r : List T} (h : 8 ≤ x.kind % 10) (h2 : r ≠ []) :
    step x (t :: r) = .mk (3 + x.kind % 10 % 2) [] 0 0 false ((t :: r).take (if x.a % 2 = 1 then 3 else 2)).reverse :: (t :: r).drop (if x.a % 2 = 1 then 3 else 2) := by
  unfold step
  dsimp only
  rw [if_neg (by omega), if_neg (by omega), if_neg (by omega), if_neg (fun e => e.elim (fun e => by omega) h2)]
theorem Pile.al {w wr : World} {v : Value} {acc : List L} (h : Pile w wr v acc) (o : Obj) : Pile w (wr.alloc o) v acc := h.chg ((Below.refl _ _).alloc (Nat.le_refl _) _)
theorem rev_snoc {acc : List L} {y : L} {st : List T} (h : (treeL acc).reverse = st) : (treeL (acc ++ [y])).reverse = y.tree :: st := by
  rw [treeL_append, List.reverse_append, h]; rfl
/-- the uppermost tree of a pile -/
theorem Pile.top {w W : World} {pa : Option Addr} {k pc : Nat} {acc : List L} (h : Pile w W (.slice pa k pc) acc) (hk : k = acc.length) (h0 : k ≠ 0) :
    ∃ r t g, acc = r ++ [t] ∧ k = r.length + 1 ∧ pa = some ⟨g, 0, none⟩ ∧ g < W.heap.size ∧ w.heap.size + 1 ≤ g ∧ (∀ m v, t.cs[m]? = some v → W.cell? ⟨g, r.length * 6 + m, none⟩ = some v) ∧ ∀ j, W.frozen? ⟨g, j, none⟩ = false := by
  have hne : acc ≠ [] := by intro e; subst e; exact h0 hk
  obtain ⟨r, t, rfl⟩ : ∃ r t, acc = r ++ [t] := ⟨acc.dropLast, acc.getLast hne, (List.dropLast_concat_getLast hne).symm⟩
  rcases own_cases h.own with ⟨_, e, _⟩ | ⟨g, rfl, _, hg, hT, _⟩
  · exact absurd e h0
  have hkr : k = r.length + 1 := by rw [hk]; simp
  refine ⟨r, t, g, rfl, hkr, rfl, hT.lt, hg, fun m v hv => ?_, fun j => ?_⟩
  · have hlt : m < 6 := by have := (List.getElem?_eq_some_iff.1 hv).1; rwa [L.cs_len] at this
    have ho := h.own
    rw [← hk] at ho
    rw [ho.cellAt _ (by rw [hkr]; omega)]
    exact flat_at L.cs 6 L.cs_len (by simp) hv
  · have ho := h.own
    rw [← hk] at ho
    exact ho.frozenAt j
theorem al_cell {W : World} {b o : Nat} {v : Value} (h : W.cell? ⟨b, o, none⟩ = some v) (x : Obj) : (W.alloc x).cell? ⟨b, o, none⟩ = some v := (((Below.refl W.heap.size W).alloc (Nat.le_refl _) x).cell (p := ⟨b, o, none⟩) (cell_lt h)).trans h
theorem al_froz {W : World} {b o : Nat} (hb : b < W.heap.size) (h : W.frozen? ⟨b, o, none⟩ = false) (x : Obj) : (W.alloc x).frozen? ⟨b, o, none⟩ = false := by
  have e := ((Below.refl W.heap.size W).alloc (Nat.le_refl _) x).block b hb
  simp only [World.frozen?] at h ⊢
  rw [e]; exact h
theorem six_al {W : World} {g o : Nat} {u0 u1 u2 u3 u4 u5 : Value} (hg : g < W.heap.size) (x : Obj) :
    (((((((W.setCell ⟨g, o, none⟩ u0).setCell ⟨g, o + 1, none⟩ u1).setCell ⟨g, o + 2, none⟩ u2).setCell ⟨g, o + 3, none⟩ u3).setCell ⟨g, o + 4, none⟩ u4).setCell ⟨g, o + 5, none⟩ u5)).alloc x =
      (((((((W.alloc x).setCell ⟨g, o, none⟩ u0).setCell ⟨g, o + 1, none⟩ u1).setCell ⟨g, o + 2, none⟩ u2).setCell ⟨g, o + 3, none⟩ u3).setCell ⟨g, o + 4, none⟩ u4).setCell ⟨g, o + 5, none⟩ u5) := by
  have hs : ∀ (V : World) (b i : Nat) (u : Value), (V.setCell ⟨b, i, none⟩ u).heap.size = V.heap.size := fun V b i u => by simp [World.setCell]
  rw [World.setCell_alloc_past _ _ _ _ hg, World.setCell_alloc_past _ _ _ _ (by rw [hs]; exact hg), World.setCell_alloc_past _ _ _ _ (by rw [hs, hs]; exact hg), World.setCell_alloc_past _ _ _ _ (by rw [hs, hs, hs]; exact hg),
    World.setCell_alloc_past _ _ _ _ (by rw [hs, hs, hs, hs]; exact hg), World.setCell_alloc_past _ _ _ _ (by rw [hs, hs, hs, hs, hs]; exact hg)]
/-- the uppermost tree becomes the one part of a node -/
theorem Pile.wrap {w W : World} {g k pc : Nat} {r : List L} {t : L} {kk mn mx : Int} {lz : Bool} {G : Nat} {T : TypeId} (h : Pile w W (.slice (some ⟨g, 0, none⟩) k pc) (r ++ [t])) (hG : W.heap[G]? = some (.cells t.cs.toArray T (0, 0))) (hge : w.heap.size + 1 ≤ G) (hne : G ≠ g)
    (hk : 0 ≤ kk ∧ kk ≤ 255) (hmn : i64 mn) (hmx : i64 mx) : RdT (fun b => (w.heap.size ≤ b ∧ b ≠ w.heap.size) ∧ some g ≠ some b) W (.mk kk none 0 [] mn mx lz (some ⟨G, 0, none⟩) 1 [t]) := by
  refine RdT.node (l := [t]) hk hmn hmx ?_ (by simp) (fun q e => ?_) (fun q e => ?_) (fun x hx => ?_)
  · intro _
    refine ⟨G, 0, rfl, (isT_of hG).lt, fun j u hu => ?_⟩
    rw [Nat.zero_add]
    exact block_cell hG j u (by simpa [nFlat] using hu)
  · cases e; exact ⟨rfl, (isT_of hG).lt⟩
  · cases e; exact ⟨by dsimp only; omega, fun e => hne (by injection e with e; exact e.symm)⟩
  · rw [List.mem_singleton.1 hx]
    exact h.sub t (by simp)
/-- append at a step of a region that draws its order: any source, none too -/
theorem step_app {P : Program} {ops : Array Oper} {o : Oper} {a : Act} {w : World} {K : Act → World → Prop} {Q : Exit → Act → World → Prop} {E : Prop} (hgd : o.guard = none) (s x : Operand) (t : TypeId)
    (ho : o.op = .call { callee := .builtin .append, args := #[s, x], argTypes := #[t, t] })
    (base : Nat) (e : TypeId) (i : TypeInfo) (z : Value) (size bytes : Nat) (ht : P.underlying t = some (.slice e)) (hi : P.info? e = some i) (hz : i.zero = some z)
    (hsize : i.size = size) (hby : i.bytes = bytes) (hzs : z.cells.size = size) (hsz : 0 < size)
    (v : Value) (n : Nat) (xs : List Value) (hs : a.eval s = v) (hown : w.ownsRow base e size v n xs)
    (xv : Value) (m : Nat) (news : List Value) (hx : a.eval x = xv)
    (hsrc : (xv = .slice none 0 0 ∧ news = [] ∧ m = 0) ∨ ∃ ad c, xv = .slice (some ad) m c ∧ news.length = m * size ∧ ∀ j u, news[j]? = some u → w.cell? (ad.add j) = some u) (h1 : ∀ u ∈ news, u.oneCell' = true)
    (h63 : n + m ≤ maxLen) (hbytes : (n + m) * bytes ≤ 140737488355328) (hbase : base ≤ w.heap.size)
    (h : ∀ v' w', w'.ownsRow base e size v' (n + m) (xs ++ news) → w.grownBy w' v.ownBlock → (v'.ownBlock = v.ownBlock ∨ v'.ownBlock = some w.heap.size) → K (a.put o.dst v') w') :
    if Region.wanted o (yielded ops a.tmps) = true then Oper.wp P o a w K Q else E := by
  have hw : Region.wanted o (yielded ops a.tmps) = true := by simp [Region.wanted, hgd]
  rw [if_pos hw]
  have hr : ∃ v' w', (Builtin.append_ #[t, t] o.type #[v, xv]).run P w = .ok v' w' ∧ w'.ownsRow base e size v' (n + m) (xs ++ news) ∧ w.grownBy w' v.ownBlock ∧ (v'.ownBlock = v.ownBlock ∨ v'.ownBlock = some w.heap.size) := by
    rcases hsrc with ⟨rfl, rfl, rfl⟩ | ⟨ad, c, rfl, hl, hnews⟩
    · refine ⟨v, w, run_append_owned_none (P := P) (w := w) base t o.type e i size ht hi v n xs hown, by rw [List.append_nil, Nat.add_zero]; exact hown, ⟨rfl, rfl, rfl, Nat.le_refl _, fun _ _ _ => rfl⟩, .inl rfl⟩
    · obtain ⟨v', w', h2, h3, h4, _, h5⟩ := run_append_own_at (P := P) w base t o.type e i z size bytes ht hi hz hsize hby hzs hsz v n xs hown ad m c news hl hnews h1 h63 hbytes hbase
      exact ⟨v', w', h2, h3, h4, h5⟩
  obtain ⟨v', w', hr, h2, h3, h4⟩ := hr
  unfold Oper.wp execOp
  simp only [ho, resolve, invoke, builtin, Sem.run_bind, Sem.run_pure, Result.andThen_ok, List.map_toArray, List.map_cons, List.map_nil, hs, hx, hr]
  exact h v' w' h2 h3 h4
theorem at_opW {P : Program} {ops : Array Oper} {o : Oper} {a : Act} {w : World} {K : Act → World → Prop} {Q : Exit → Act → World → Prop} {E : Prop}
    (h : ∀ W, W = w → (if Region.wanted o (yielded ops a.tmps) = true then Oper.wp P o a W K Q else E)) : if Region.wanted o (yielded ops a.tmps) = true then Oper.wp P o a w K Q else E := h w rfl
theorem own_zero6 {W : World} {base g : Nat} {T : TypeId} (h : W.heap[g]? = some (.cells #[] T (0, 0))) (hb : base ≤ g) : W.ownsRow base T 6 (.slice (some ⟨g, 0, none⟩) 0 0) 0 [] :=
  ⟨rfl, .inr ⟨g, 0, #[], rfl, hb, h, Nat.le_refl _, Nat.zero_le _, rfl, rfl⟩⟩
theorem Pile.room {w W : World} {pa : Option Addr} {k pc : Nat} {acc : List L} (h : Pile w W (.slice pa k pc) acc) : acc.length ≤ pc := by
  rcases own_cases h.own with ⟨_, h0, _, h1⟩ | ⟨g, _, _, _, _, h1⟩
  · omega
  · exact h1
/-- the cells of the uppermost trees -/
theorem Pile.rest {w W : World} {g k pc : Nat} {acc : List L} (h : Pile w W (.slice (some ⟨g, 0, none⟩) k pc) acc) (hk : k = acc.length) (m : Nat) : ∀ j u, (nFlat (acc.drop m))[j]? = some u → W.cell? ((⟨g, m * 6, none⟩ : Addr).add j) = some u := by
  intro j u hu
  rw [Addr.add_lit]
  have hd : nFlat (acc.drop m) = (nFlat acc).drop (m * 6) := by
    have e : nFlat acc = nFlat (acc.take m) ++ nFlat (acc.drop m) := by rw [← nFlat_append, List.take_append_drop]
    rcases Nat.lt_or_ge m acc.length with hm | hm
    · rw [e, List.drop_left' (by rw [nFlat_length, List.length_take]; omega)]
    · rw [List.drop_eq_nil_of_le hm, List.drop_eq_nil_of_le (by rw [nFlat_length]; omega)]; rfl
  rw [hd, List.getElem?_drop] at hu
  have hl := (List.getElem?_eq_some_iff.1 hu).1
  rw [nFlat_length] at hl
  have ho := h.own
  rw [← hk] at ho
  rw [ho.cellAt _ (by rw [hk]; exact hl)]
  exact hu
theorem add_block {W w' : World} {a : Addr} {B : Nat} {u : Value} (hb : Below B W w') (hl : a.block < B) (h : W.cell? a = some u) : w'.cell? a = some u := (hb.cell (p := a) hl).trans h
/-- the trees above the first ones become the parts of a node -/
theorem many_node {w wA W : World} {g k pc m : Nat} {acc : List L} {kk : Int} {na : Option Addr} {nc : Nat} (h : Pile w wA (.slice (some ⟨g, 0, none⟩) k pc) acc) (hb : Below wA.heap.size wA W) (hk : 0 ≤ kk ∧ kk ≤ 255) (hl : acc.length ≤ 20)
    (hown : W.ownsRow (wA.heap.size + 1) 27 6 (.slice na (acc.drop m).length nc) (acc.drop m).length (nFlat (acc.drop m))) (hgl : g < wA.heap.size) :
    RdT (fun b => (w.heap.size ≤ b ∧ b ≠ w.heap.size) ∧ some g ≠ some b) W (.mk kk none 0 [] 0 0 false na nc (acc.drop m)) := by
  have hlt := h.lt
  refine RdT.node hk ⟨by decide, by decide⟩ ⟨by decide, by decide⟩ (RdF.of_own hown) (by rw [List.length_drop]; omega) (fun q e => ?_) (fun q e => ?_) (fun x hx => ?_)
  · rcases own_cases hown with ⟨rfl, _⟩ | ⟨G, rfl, _, _, hT, _⟩
    · cases e
    · cases e; exact ⟨rfl, hT.lt⟩
  · rcases own_cases hown with ⟨rfl, _⟩ | ⟨G, rfl, _, hge, _⟩
    · cases e
    · cases e; exact ⟨by dsimp only; omega, fun e => by injection e with e; dsimp only at e; omega⟩
  · exact (h.sub x (List.mem_of_mem_drop hx)).bel hb
theorem many_tree {kx ax bx : Int} {r acc : List L} {t : L} {pl : List T} {i kk : Nat} (hacc : acc = r ++ [t]) (hi : i = r.length) (hst : pl = t.tree :: (treeL r).reverse) (q8 : 8 ≤ kx % 10) (hi1 : ¬ i < 1) (hkk : max 0 ((i : Int) - 1 - ax % 2) = (kk : Int)) :
    T.mk (3 + kx % 2) [] 0 0 false (treeL (acc.drop kk)) :: (treeL (acc.take kk)).reverse = step ⟨kx, ax, bx⟩ pl := by
  have hr : (treeL r).reverse ≠ [] := by
    intro e
    have := congrArg List.length e
    rw [List.length_reverse, treeL_len, List.length_nil] at this
    omega
  have hs := step_many (x := ⟨kx, ax, bx⟩) (t := t.tree) (r := (treeL r).reverse) q8 hr
  rw [hst, hs]
  have he : t.tree :: (treeL r).reverse = (treeL acc).reverse := by rw [hacc, treeL_append, List.reverse_append]; rfl
  have hl : (treeL acc).length = i + 1 := by rw [treeL_len, hacc, List.length_append, hi]; rfl
  dsimp only
  rw [he, List.take_reverse, List.reverse_reverse, List.drop_reverse, hl]
  have hn : i + 1 - (if ax % 2 = 1 then 3 else 2) = kk := by split <;> omega
  rw [hn, show 3 + kx % 10 % 2 = 3 + kx % 2 by omega]
  simp only [treeL_map, List.map_drop, List.map_take]
theorem ex_world {Q : Exit → Act → World → Prop} {x : Exit} {a : Act} {w : World} (h : ∀ W, W = w → Q x a W) : Q x a w := h w rfl
theorem three_al {w W : World} {o1 o2 o3 : Obj} (hW : W = (((w.alloc o1).alloc o2).alloc o3).drew) : W.heap[w.heap.size]? = some o1 ∧ W.heap[w.heap.size + 1]? = some o2 ∧ W.heap[w.heap.size + 1 + 1]? = some o3 ∧ Below w.heap.size w W := by
  have e : W.heap = (((w.alloc o1).alloc o2).alloc o3).heap := by rw [hW]; rfl
  have h3 := heap_alloc_new ((w.alloc o1).alloc o2) o3
  have h2 := heap_alloc_new (w.alloc o1) o2
  have h1 := heap_alloc_new w o1
  have b3 : Below ((w.alloc o1).alloc o2).heap.size ((w.alloc o1).alloc o2) (((w.alloc o1).alloc o2).alloc o3) := (Below.refl _ _).alloc (Nat.le_refl _) _
  have b2 : Below (w.alloc o1).heap.size (w.alloc o1) ((w.alloc o1).alloc o2) := (Below.refl _ _).alloc (Nat.le_refl _) _
  have s1 : (w.alloc o1).heap.size = w.heap.size + 1 := by simp
  have s2 : ((w.alloc o1).alloc o2).heap.size = w.heap.size + 1 + 1 := by simp
  rw [e]
  refine ⟨(b3.block _ (by omega)).trans ((b2.block _ (by omega)).trans h1), ?_, ?_, ?_⟩
  · rw [s1] at h2
    exact (b3.block _ (by omega)).trans h2
  · rw [s2] at h3
    exact h3
  · rw [hW]
    exact Below.drew ((((Below.refl _ _).alloc (Nat.le_refl _) _).alloc (by simp) _).alloc (by simp; omega) _)
theorem bel_froz {W w' : World} {B b o : Nat} (hb : Below B W w') (hl : b < B) (h : W.frozen? ⟨b, o, none⟩ = false) : w'.frozen? ⟨b, o, none⟩ = false := by
  have e := hb.block b hl
  simp only [World.frozen?] at h ⊢
  rw [e]; exact h
/-- while a repetition is made: its node at B, its one part at G -/
structure RepAt (wA : World) (kx ax bx mn mx : Int) (t : L) (B G : Nat) (wx : World) : Prop where
  nd : wx.heap[B]? = some (.cells #[.int .u8 5, .slice none 0 0, .int .i64 mn, .int .i64 mx, .bool (bx % 2 == 1), .slice (some ⟨G, 0, none⟩) 1 1] 27 (0, 0))
  part : wx.heap[G]? = some (.cells t.cs.toArray 27 (0, 0))
  sm : wx.heap[wA.heap.size]? = some (.cells #[.int .u8 kx, .int .u8 ax, .int .u8 bx] 88 (0, 0))
  bel : Below wA.heap.size wA wx
  hB : wA.heap.size < B
  hG : wA.heap.size < G
  ne : B ≠ G
theorem RepAt.set3 {wA wx : World} {kx ax bx mn mx : Int} {t : L} {B G : Nat} (h : RepAt wA kx ax bx mn mx t B G wx) (m : Int) : RepAt wA kx ax bx mn m t B G (wx.setCell ⟨B, 3, none⟩ (.int .i64 m)) :=
  ⟨by have := heap_setCell_same wx B 3 _ _ (.int .i64 m) h.nd; simpa using this, (heap_setCell_other wx ⟨B, 3, none⟩ G _ (Ne.symm h.ne)).trans h.part, (heap_setCell_other wx ⟨B, 3, none⟩ _ _ (by have := h.hB; simp; omega)).trans h.sm,
    Below.setCell (p := ⟨B, 3, none⟩) h.bel (Nat.le_of_lt h.hB) _, h.hB, h.hG, h.ne⟩
theorem RepAt.set2 {wA wx : World} {kx ax bx mn mx : Int} {t : L} {B G : Nat} (h : RepAt wA kx ax bx mn mx t B G wx) (m : Int) : RepAt wA kx ax bx m mx t B G (wx.setCell ⟨B, 2, none⟩ (.int .i64 m)) :=
  ⟨by have := heap_setCell_same wx B 2 _ _ (.int .i64 m) h.nd; simpa using this, (heap_setCell_other wx ⟨B, 2, none⟩ G _ (Ne.symm h.ne)).trans h.part, (heap_setCell_other wx ⟨B, 2, none⟩ _ _ (by have := h.hB; simp; omega)).trans h.sm,
    Below.setCell (p := ⟨B, 2, none⟩) h.bel (Nat.le_of_lt h.hB) _, h.hB, h.hG, h.ne⟩
theorem RepAt.next {wA wx wy : World} {kx ax bx mn mx : Int} {t : L} {B G : Nat} (h : RepAt wA kx ax bx mn mx t B G wx) (hb : Below wx.heap.size wx wy) : RepAt wA kx ax bx mn mx t B G wy :=
  ⟨(hb.block _ (isT_of h.nd).lt).trans h.nd, (hb.block _ (isT_of h.part).lt).trans h.part, (hb.block _ (isT_of h.sm).lt).trans h.sm, h.bel.trans (hb.mono h.bel.size), h.hB, h.hG, h.ne⟩
theorem rep_done {w wA W wE : World} {kx ax bx mn mx : Int} {t : L} {B G g k pc i : Nat} {r : List L} (hP : Pile w wA (.slice (some ⟨g, 0, none⟩) k pc) (r ++ [t])) (hR : RepAt wA kx ax bx mn mx t B G W) (hk : k = i + 1) (hi : i = r.length) (hg : g < wA.heap.size) (hmn : i64 mn) (hmx : i64 mx)
    (hE : wE = (((((W.setCell ⟨g, i * 6, none⟩ (.int .u8 5)).setCell ⟨g, i * 6 + 1, none⟩ (.slice none 0 0)).setCell ⟨g, i * 6 + 2, none⟩ (.int .i64 mn)).setCell ⟨g, i * 6 + 3, none⟩ (.int .i64 mx)).setCell ⟨g, i * 6 + 4, none⟩ (.bool (bx % 2 == 1))).setCell ⟨g, i * 6 + 5, none⟩ (.slice (some ⟨G, 0, none⟩) 1 1)) :
    Pile w wE (.slice (some ⟨g, 0, none⟩) k pc) (r ++ [.mk 5 none 0 [] mn mx (bx % 2 == 1) (some ⟨G, 0, none⟩) 1 [t]]) := by
  subst hi
  have h2 := hP.chg hR.bel
  exact h2.put hk (h2.wrap hR.part (by have := hP.lt; have := hR.hG; omega) (by have := hR.hG; omega) (by decide) hmn hmx) hE
theorem rep_tree {kx ax bx mx : Int} {r : List L} {t : L} {pl : List T} {i : Nat} (hi : i = r.length) (hst : pl = t.tree :: (treeL r).reverse) (q5 : ¬ kx % 10 = 5) (q15 : ¬ kx % 10 < 5) (q8 : kx % 10 < 8 ∨ i < 1) (hmx : mx = if bx % 5 = 0 then -1 else ax % 4 + bx / 2 % 3) :
    (nulP t.tree = false → (T.mk 5 [] (ax % 4) mx (bx % 2 == 1) [t.tree]) :: (treeL r).reverse = step ⟨kx, ax, bx⟩ pl) ∧ (nulP t.tree = true → (T.mk 5 [] (ax % 2) 1 (bx % 2 == 1) [t.tree]) :: (treeL r).reverse = step ⟨kx, ax, bx⟩ pl) := by
  have h2 : kx % 10 < 8 ∨ (treeL r).reverse = [] := q8.imp id (fun e => by
    have : r = [] := List.eq_nil_of_length_eq_zero (by omega)
    rw [this]; rfl)
  have hs := step_rep (x := ⟨kx, ax, bx⟩) (t := t.tree) (r := (treeL r).reverse) (by show 5 < kx % 10; omega) h2
  rw [hst, hs]
  refine ⟨fun h => ?_, fun h => ?_⟩
  · rw [h, hmx]; rfl
  · rw [h, show ax % 2 = ax % 4 % 2 by omega]; rfl
set_option maxRecDepth 100000 in
set_option maxHeartbeats 16000000 in
theorem made_calls (a : Option Addr) (cap : Nat) (l : List Sm) (w : World) (hrd : RdF w a (sFlat l)) (hnil : a = none → l = [] ∧ cap = 0) (hok : ∀ x ∈ l, SmOK x) (hl : l.length ≤ cap) (_hcap : cap ≤ maxLen) :
    Calls Tryz.prog 12 #[.slice a l.length cap] w (GivesP (fun b => w.heap.size ≤ b) w (made l)) := by
  obtain ⟨n, hn⟩ : ∃ q, q = l.length := ⟨_, rfl⟩
  rw [← hn] at hl ⊢
  have HL := Lib.hid (And.intro hrd (And.intro hnil (And.intro hok hn)))
  obtain ⟨N, hN⟩ : ∃ N : Nat, N = min n 20 := ⟨_, rfl⟩
  have hmin : min (n : Int) 20 = (N : Int) := by omega
  have hNn : N ≤ n := by omega
  have hN20 : N ≤ 20 := by omega
  have HN := Lib.hid hN
  clear hrd hnil hok hn hN
  unfold maxLen at _hcap
  go_enter Tryz.func12, Tryz.ntmps12
  go_wp2_with fail
  go_loopg [3, 17] N (fun G v3 v17 wr => MRel w l N G v3 v17 wr)
  case atStart =>
    refine ⟨0, [], Nat.zero_le _, rfl, rfl, Nat.le_refl _, ⟨⟨rfl, .inl ⟨rfl, rfl⟩⟩, fun _ h => (by cases h), (Below.refl _ _).alloc (Nat.le_refl _) _, heap_alloc_new w _⟩, rfl⟩
  case round =>
    unfold MRel at hrel
    obtain ⟨j, acc, hj, rfl, rfl, haj, hp, hpl⟩ := hrel
    obtain ⟨wA, hwA⟩ : ∃ q, q = wr := ⟨_, rfl⟩
    subst hwA
    obtain ⟨pa, pc, rfl⟩ := own_form hp.own
    obtain ⟨k, hk⟩ : ∃ q, q = acc.length := ⟨_, rfl⟩
    rw [← hk] at haj hp
    have HP := Lib.hid (And.intro hp hpl)
    have HK := Lib.hid hk
    rw [← hk]
    clear hp hpl hk
    by_cases hlt : j < N
    · obtain ⟨x, hx⟩ : ∃ x, l[j]? = some x := ⟨_, List.getElem?_eq_getElem (by have := HL.out.2.2.2; omega)⟩
      have hxo := HL.out.2.2.1 x (List.mem_of_getElem? hx)
      obtain ⟨bs, os, rfl, hbs, hsc⟩ := HL.out.1 (by intro e; have h1 := congrArg List.length e; rw [sFlat_length] at h1; have := HL.out.2.2.2; simp at h1; omega)
      obtain ⟨kx, ax, bx⟩ := x
      obtain ⟨⟨k0, k1⟩, ⟨a0, a1⟩, b0, b1⟩ := hxo
      dsimp only at k0 k1 a0 a1 b0 b1
      have d0 := (HP.out.1.bel.cell (p := ⟨bs, _, none⟩) hbs).trans (hsc _ _ (sFlat_at (i := 0) hx rfl))
      have d1 := (HP.out.1.bel.cell (p := ⟨bs, _, none⟩) hbs).trans (hsc _ _ (sFlat_at (i := 1) hx rfl))
      have d2 := (HP.out.1.bel.cell (p := ⟨bs, _, none⟩) hbs).trans (hsc _ _ (sFlat_at (i := 2) hx rfl))
      rw [Nat.add_zero] at d0
      rw [← Nat.add_assoc] at d1 d2
      have HX := Lib.hid hx
      have hpx : Hid (piled (l.take (j + 1)) = step ⟨kx, ax, bx⟩ (piled (l.take j))) := Lib.hid (piled_snoc hx)
      clear hx hsc
      by_cases q0 : kx % 10 = 0
      · have hdum := hlt
        clear hdum
        go_wp2_with (at_builtin; refine wpList_app rfl _ _ 25 27 6 80 _ rfl Tryz.underlying25 infoNode rfl (by decide) (by decide) (w.heap.size + 1) _ acc.length (nFlat acc) rfl (((HP.out.1.al _).al _)).own ⟨wA.heap.size + 1, 0, none⟩ 1 1 [.int .u8 1, .slice none 0 0, .int .i64 0, .int .i64 0, .bool false, .slice none 0 0] rfl rfl (cells_new (wA.alloc (.cells #[.int .u8 kx, .int .u8 ax, .int .u8 bx] 88)) #[.int .u8 1, .slice none 0 0, .int .i64 0, .int .i64 0, .bool false, .slice none 0 0] _ _ (by simp)) (cs_one (.mk 1 none 0 [] 0 0 false none 0 [])) (by have := HK.out; omega) (by have := (HP.out.1).lt; simp; omega) ?_; intro v' w' hown hgrow hblk hbel; have HV := Lib.hid (And.intro hown (And.intro hgrow (And.intro hblk hbel))); clear hown hgrow hblk hbel)
        have HA := Lib.hid (((HP.out.1.al _).al _).app (RdT.empty _ _) HV.out.1 HV.out.2.1 HV.out.2.2.1)
        go_roundg (N - (j + 1))
        case measure => omega
        case rel =>
          refine ⟨j + 1, _, hlt, rfl, by simp, ?_, HA.out, ?_⟩
          · have := HK.out; simp; omega
          · rw [rev_snoc HP.out.2, hpx.out, step_empty q0]; rfl
      · by_cases q1 : kx % 10 < 5 ∨ k = 0
        · have hdum := hlt
          clear hdum
          have hstep : Hid (step ⟨kx, ax, bx⟩ (piled (l.take j)) = leaf ax bx :: piled (l.take j)) := Lib.hid (step_leaf q0 (q1.imp id (fun e => by
            rw [← HP.out.2, show acc = [] from List.eq_nil_of_length_eq_zero (by rw [← HK.out]; exact e)]; rfl)))
          have HB := Lib.hid (show Below wA.heap.size wA (wA.alloc (.cells #[.int .u8 kx, .int .u8 ax, .int .u8 bx] 88)) from (Below.refl _ _).alloc (Nat.le_refl _) _)
          have hq : (kx % 10 < 5) ∨ (¬ kx % 10 < 5 ∧ k = 0) := by omega
          clear q1
          rcases hq with q1 | ⟨q1, rfl⟩
          all_goals
            go_wp2_with fail
            go_at_call 42
            refine (leaf_calls ax bx a0 a1 b0 b1 _).mono ?_
            rintro e w5 ⟨y, he, hyt, hy, hb5⟩
            obtain ⟨ky, say, scy, sy, mny, mxy, lzy, nay, ncy, ly⟩ := y
            replace he : e = .returned (.agg #[.int .u8 ky, .slice say sy.length scy, .int .i64 mny, .int .i64 mxy, .bool lzy, .slice nay ly.length ncy]) := he
            subst he
            have hP5 : Pile w w5 (.slice pa _ pc) acc := HP.out.1.chg (Bthen HB.out hb5)
            have hy5 := (HP.out.1.al _).new hy
            have H5 := Lib.hid (And.intro hP5 (And.intro hy5 hyt))
            clear hP5 hy5 hyt hy hb5
            go_wp2_with (at_builtin; refine wpList_app rfl _ _ 25 27 6 80 _ rfl Tryz.underlying25 infoNode rfl (by decide) (by decide) (w.heap.size + 1) _ acc.length (nFlat acc) rfl (H5.out.1.al _).own ⟨w5.heap.size, 0, none⟩ 1 1 [.int .u8 ky, .slice say sy.length scy, .int .i64 mny, .int .i64 mxy, .bool lzy, .slice nay ly.length ncy] rfl rfl (cells_new w5 #[.int .u8 ky, .slice say sy.length scy, .int .i64 mny, .int .i64 mxy, .bool lzy, .slice nay ly.length ncy] _ _ (by simp)) (cs_one (.mk ky say scy sy mny mxy lzy nay ncy ly)) (by have := HK.out; omega) (by have := H5.out.1.lt; simp; omega) ?_; intro v' w' hown hgrow hblk hbel; have HV := Lib.hid (And.intro hown (And.intro hgrow (And.intro hblk hbel))); clear hown hgrow hblk hbel)
            have HA := Lib.hid ((H5.out.1.al _).app (H5.out.2.1.bel ((Below.refl _ _).alloc (Nat.le_refl _) _)) HV.out.1 HV.out.2.1 HV.out.2.2.1)
            go_roundg (N - (j + 1))
            case measure => omega
            case rel =>
              refine ⟨j + 1, _, hlt, rfl, by simp, ?_, HA.out, ?_⟩
              · have := HK.out; simp; omega
              · rw [rev_snoc HP.out.2, hpx.out, hstep.out, H5.out.2.2]
        · have hk0 : k ≠ 0 := by omega
          have q15 : ¬ kx % 10 < 5 := by omega
          obtain ⟨r, t, g, rfl, hkr, rfl, hgW, hgw, hcell, hfz⟩ := HP.out.1.top HK.out hk0
          obtain ⟨i, hi⟩ : ∃ i, i = r.length := ⟨_, rfl⟩
          rw [← hi] at hkr hcell
          subst hkr
          have HI := Lib.hid (And.intro hi (And.intro hgW hgw))
          clear hi q1 hk0
          obtain ⟨kt, sat, sct, st, mnt, mxt, lzt, nat, nct, lt⟩ := t
          have t0 := fun o => al_cell (hcell 0 _ rfl) o
          rw [Nat.add_zero] at t0
          have t1 := fun o => al_cell (hcell 1 _ rfl) o
          have t2 := fun o => al_cell (hcell 2 _ rfl) o
          have t3 := fun o => al_cell (hcell 3 _ rfl) o
          have t4 := fun o => al_cell (hcell 4 _ rfl) o
          have t5 := fun o => al_cell (hcell 5 _ rfl) o
          have y0 := fun o o' => al_cell (t0 o) o'
          have y1 := fun o o' => al_cell (t1 o) o'
          have y2 := fun o o' => al_cell (t2 o) o'
          have y3 := fun o o' => al_cell (t3 o) o'
          have y4 := fun o o' => al_cell (t4 o) o'
          have y5 := fun o o' => al_cell (t5 o) o'
          have hst : (treeL (r ++ [L.mk kt sat sct st mnt mxt lzt nat nct lt])).reverse = (L.mk kt sat sct st mnt mxt lzt nat nct lt).tree :: (treeL r).reverse := rev_snoc rfl
          have HST := Lib.hid (HP.out.2.symm.trans hst)
          have x0 := hcell 0 _ rfl
          rw [Nat.add_zero] at x0
          have x1 := hcell 1 _ rfl
          have x2 := hcell 2 _ rfl
          have x3 := hcell 3 _ rfl
          have x4 := hcell 4 _ rfl
          have x5 := hcell 5 _ rfl
          clear hcell hst
          by_cases q5 : kx % 10 = 5
          · have w0 := hfz (i * 6)
            have w1 := hfz (i * 6 + 1)
            have w2 := hfz (i * 6 + 2)
            have w3 := hfz (i * 6 + 3)
            have w4 := hfz (i * 6 + 4)
            have w5 := hfz (i * 6 + 5)
            have z0 := fun o o' => al_froz (by simp; omega) (al_froz hgW (hfz (i * 6)) o) o'
            have z1 := fun o o' => al_froz (by simp; omega) (al_froz hgW (hfz (i * 6 + 1)) o) o'
            have z2 := fun o o' => al_froz (by simp; omega) (al_froz hgW (hfz (i * 6 + 2)) o) o'
            have z3 := fun o o' => al_froz (by simp; omega) (al_froz hgW (hfz (i * 6 + 3)) o) o'
            have z4 := fun o o' => al_froz (by simp; omega) (al_froz hgW (hfz (i * 6 + 4)) o) o'
            have z5 := fun o o' => al_froz (by simp; omega) (al_froz hgW (hfz (i * 6 + 5)) o) o'
            go_wp2_with fail
            go_roundg (N - (j + 1))
            case measure => omega
            case rel =>
              refine ⟨j + 1, r ++ [.mk 6 none 0 [] 0 0 false (some ⟨wA.heap.size + 1, 0, none⟩) 1 [.mk kt sat sct st mnt mxt lzt nat nct lt]], hlt, rfl, by simp, by have := HI.out.1; simp; omega, ?_, ?_⟩
              · have hg1 := HI.out.2.1
                rw [six_al hg1, six_al (by simp; omega)]
                have h2 := (HP.out.1.al (.cells #[.int .u8 kx, .int .u8 ax, .int .u8 bx] 88)).al (.cells #[.int .u8 kt, .slice sat st.length sct, .int .i64 mnt, .int .i64 mxt, .bool lzt, .slice nat lt.length nct] 27)
                have hG := heap_alloc_new (wA.alloc (.cells #[.int .u8 kx, .int .u8 ax, .int .u8 bx] 88)) (.cells #[.int .u8 kt, .slice sat st.length sct, .int .i64 mnt, .int .i64 mxt, .bool lzt, .slice nat lt.length nct] 27)
                have hw := h2.wrap (kk := 6) (mn := 0) (mx := 0) (lz := false) hG (by have := HP.out.1.lt; simp; omega) (by simp; omega) (by decide) ⟨by decide, by decide⟩ ⟨by decide, by decide⟩
                rw [show (wA.alloc (.cells #[.int .u8 kx, .int .u8 ax, .int .u8 bx] 88)).heap.size = wA.heap.size + 1 by simp] at hw
                refine h2.put (by rw [HI.out.1]) hw ?_
                rw [HI.out.1]
                rfl
              · rw [rev_snoc rfl, hpx.out, HST.out, step_group q5]
                rfl
          · by_cases q8 : kx % 10 < 8 ∨ i < 1
            · have hq : kx % 10 < 8 ∨ (¬ kx % 10 < 8 ∧ i = 0) := by omega
              have q5' : (kx % 10 == 5) = false := beq_eq_false_iff_ne.2 q5
              have Q8 := Lib.hid q8
              clear q8
              rcases hq with q8 | ⟨q8, hi0⟩
              case' inl => have hd8 : decide (kx % 10 < 8) = true := decide_eq_true q8
              case' inr =>
                have hd8 : decide ((i : Int) < 1) = true := by simp; omega
                have HI0 := Lib.hid hi0
                clear hi0
              all_goals
                clear y0 y1 y2 y3 y4 y5
                go_upto_region 17 with fail
                go_cut [8] from 27 to 133 (fun s8 wx => ∃ B G, s8 = .pointer (some ⟨B, 0, none⟩) ∧ RepAt wA kx ax bx (ax % 4) 0 (.mk kt sat sct st mnt mxt lzt nat nct lt) B G wx)
                case first =>
                  go_region
                  all_goals
                    refine ex_world ?_
                    intro W hW
                    have h3 := three_al hW
                    clear hW t0 t1 t2 t3 t4 t5
                    go_wp2_with fail
                    go_meet
                    first
                    | exact ⟨wA.heap.size + 1 + 1, wA.heap.size + 1, rfl, h3.2.2.1, h3.2.1, h3.1, h3.2.2.2, by omega, by omega, by omega⟩
                    | exact ⟨wA.heap.size + 1, wA.heap.size + 1 + 1, rfl, h3.2.1, h3.2.2.1, h3.1, h3.2.2.2, by omega, by omega, by omega⟩
                case rest =>
                clear t0 t1 t2 t3 t4 t5
                obtain ⟨B, G, rfl, hR⟩ := hcut
                obtain ⟨W, hWc⟩ : ∃ q, q = wc := ⟨_, rfl⟩
                subst hWc
                have c0 := block_cell hR.nd 0 _ rfl
                have c1 := block_cell hR.nd 1 _ rfl
                have c2 := block_cell hR.nd 2 _ rfl
                have c3 := block_cell hR.nd 3 _ rfl
                have c4 := block_cell hR.nd 4 _ rfl
                have c5 := block_cell hR.nd 5 _ rfl
                have f3 := block_froz hR.nd 3
                have s0 := block_cell hR.sm 0 _ rfl
                have s1 := block_cell hR.sm 1 _ rfl
                have s2 := block_cell hR.sm 2 _ rfl
                have n2 : wA.heap.size ≠ B := by have := hR.hB; omega
                have HR := Lib.hid hR
                clear hR
                have n4 : g ≠ B := by have := HI.out.2.1; have := HR.out.hB; omega
                have x0' := (HR.out.bel.cell (p := ⟨g, i * 6, none⟩) HI.out.2.1).trans x0
                have x1' := (HR.out.bel.cell (p := ⟨g, i * 6 + 1, none⟩) HI.out.2.1).trans x1
                have x2' := (HR.out.bel.cell (p := ⟨g, i * 6 + 2, none⟩) HI.out.2.1).trans x2
                have x3' := (HR.out.bel.cell (p := ⟨g, i * 6 + 3, none⟩) HI.out.2.1).trans x3
                have x4' := (HR.out.bel.cell (p := ⟨g, i * 6 + 4, none⟩) HI.out.2.1).trans x4
                have x5' := (HR.out.bel.cell (p := ⟨g, i * 6 + 5, none⟩) HI.out.2.1).trans x5
                by_cases b5 : bx % 5 = 0
                case' pos =>
                  obtain ⟨mx, hmx⟩ : ∃ q, q = (if bx % 5 = 0 then -1 else ax % 4 + bx / 2 % 3) := ⟨_, rfl⟩
                  have hmx' : mx = -1 := by rw [hmx, if_pos b5]
                  have HMX := Lib.hid (And.intro hmx hmx')
                  clear hmx hmx'
                case' neg =>
                  have b5' : (bx % 5 == 0) = false := beq_eq_false_iff_ne.2 b5
                  obtain ⟨mx, hmx⟩ : ∃ q, q = (if bx % 5 = 0 then -1 else ax % 4 + bx / 2 % 3) := ⟨_, rfl⟩
                  have hmx' : mx = ax % 4 + bx / 2 % 3 := by rw [hmx, if_neg b5]
                  have HMX := Lib.hid (And.intro hmx hmx')
                  clear hmx hmx'
                all_goals
                  go_wp2_with fail
                  refine at_world ?_
                  intro W2 hW2
                  have hR2 : RepAt wA kx ax bx (ax % 4) mx (.mk kt sat sct st mnt mxt lzt nat nct lt) B G W2 := by
                    rw [hW2, HMX.out.2]
                    first | exact (HR.out.set3 _).set3 _ | exact HR.out.set3 _
                  clear hW2
                  have hN := lawnul_calls ((HP.out.1.sub (.mk kt sat sct st mnt mxt lzt nat nct lt) (by simp)).bel hR2.bel) W2 (Below.refl _ _)
                  refine Calls.mono (show Calls Tryz.prog 16 #[.agg #[.int .u8 kt, .slice sat st.length sct, .int .i64 mnt, .int .i64 mxt, .bool lzt, .slice nat lt.length nct]] W2 _ from hN) ?_
                  clear hN
                  rintro e w3 ⟨rfl, hb3⟩
                  have hR3 := hR2.next hb3
                  clear hR2 hb3 c0 c1 c2 c3 c4 c5 f3 s0 s1 s2 x0' x1' x2' x3' x4' x5'
                  have x0' := (hR3.bel.cell (p := ⟨g, i * 6, none⟩) HI.out.2.1).trans x0
                  have x1' := (hR3.bel.cell (p := ⟨g, i * 6 + 1, none⟩) HI.out.2.1).trans x1
                  have x2' := (hR3.bel.cell (p := ⟨g, i * 6 + 2, none⟩) HI.out.2.1).trans x2
                  have x3' := (hR3.bel.cell (p := ⟨g, i * 6 + 3, none⟩) HI.out.2.1).trans x3
                  have x4' := (hR3.bel.cell (p := ⟨g, i * 6 + 4, none⟩) HI.out.2.1).trans x4
                  have x5' := (hR3.bel.cell (p := ⟨g, i * 6 + 5, none⟩) HI.out.2.1).trans x5
                  have c0 := block_cell hR3.nd 0 _ rfl
                  have c1 := block_cell hR3.nd 1 _ rfl
                  have c2 := block_cell hR3.nd 2 _ rfl
                  have c3 := block_cell hR3.nd 3 _ rfl
                  have c4 := block_cell hR3.nd 4 _ rfl
                  have c5 := block_cell hR3.nd 5 _ rfl
                  have f2 := block_froz hR3.nd 2
                  have f3 := block_froz hR3.nd 3
                  have n5 : B ≠ g := Ne.symm n4
                  have w0 : w3.frozen? ⟨g, i * 6, none⟩ = false := bel_froz hR3.bel HI.out.2.1 (hfz (i * 6))
                  have w1 : w3.frozen? ⟨g, i * 6 + 1, none⟩ = false := bel_froz hR3.bel HI.out.2.1 (hfz (i * 6 + 1))
                  have w2 : w3.frozen? ⟨g, i * 6 + 2, none⟩ = false := bel_froz hR3.bel HI.out.2.1 (hfz (i * 6 + 2))
                  have w3' : w3.frozen? ⟨g, i * 6 + 3, none⟩ = false := bel_froz hR3.bel HI.out.2.1 (hfz (i * 6 + 3))
                  have w4 : w3.frozen? ⟨g, i * 6 + 4, none⟩ = false := bel_froz hR3.bel HI.out.2.1 (hfz (i * 6 + 4))
                  have w5 : w3.frozen? ⟨g, i * 6 + 5, none⟩ = false := bel_froz hR3.bel HI.out.2.1 (hfz (i * 6 + 5))
                  have HR3 := Lib.hid hR3
                  clear hR3
                  have hTR := rep_tree HI.out.1 HST.out q5 (by omega) Q8.out HMX.out.1
                  rw [← hpx.out] at hTR
                  have HTR := Lib.hid hTR
                  clear hTR
                  have hmxb : Hid (i64 mx) := Lib.hid (by rw [HMX.out.1]; unfold i64; split <;> omega)
                  cases hnu : nulP (L.mk kt sat sct st mnt mxt lzt nat nct lt).tree
                  · have HNU := Lib.hid hnu
                    clear hnu
                    go_wp2_with fail
                    go_roundg (N - (j + 1))
                    case measure => omega
                    case rel =>
                      exact ⟨j + 1, r ++ [.mk 5 none 0 [] (ax % 4) mx (bx % 2 == 1) (some ⟨G, 0, none⟩) 1 [.mk kt sat sct st mnt mxt lzt nat nct lt]], hlt, rfl, by simp, by have := HI.out.1; simp; omega,
                        rep_done HP.out.1 HR3.out rfl HI.out.1 HI.out.2.1 (by unfold i64; omega) hmxb.out rfl, by rw [rev_snoc rfl]; exact HTR.out.1 HNU.out⟩
                  · have HNU := Lib.hid hnu
                    clear hnu
                    go_wp2_with fail
                    go_roundg (N - (j + 1))
                    case measure => omega
                    case rel =>
                      exact ⟨j + 1, r ++ [.mk 5 none 0 [] (ax % 2) 1 (bx % 2 == 1) (some ⟨G, 0, none⟩) 1 [.mk kt sat sct st mnt mxt lzt nat nct lt]], hlt, rfl, by simp, by have := HI.out.1; simp; omega,
                        rep_done HP.out.1 ((HR3.out.set2 (ax % 2)).set3 1) rfl HI.out.1 HI.out.2.1 (by unfold i64; omega) ⟨by decide, by decide⟩ rfl, by rw [rev_snoc rfl]; exact HTR.out.2 HNU.out⟩
            · have q8a : ¬ kx % 10 < 8 := by omega
              have q8b : ¬ i < 1 := by omega
              have hd8 : decide (kx % 10 < 8) = false := decide_eq_false q8a
              have hd1 : decide ((i : Int) < 1) = false := by simp; omega
              have q5' : (kx % 10 == 5) = false := beq_eq_false_iff_ne.2 q5
              obtain ⟨kk, hkk⟩ : ∃ kk : Nat, max 0 ((i : Int) - 1 - ax % 2) = (kk : Int) := ⟨(max 0 ((i : Int) - 1 - ax % 2)).toNat, by omega⟩
              have hki : kk + 2 ≤ i + 1 := by omega
              have HKK := Lib.hid (And.intro hkk (And.intro q8 (And.intro q8a q8b)))
              have hroom := HP.out.1.room
              rw [← HK.out] at hroom
              have hkp : kk ≠ pc := by omega
              have hkp2 : kk ≤ pc := by omega
              have hlen : Hid ((r ++ [L.mk kt sat sct st mnt mxt lzt nat nct lt]).length = i + 1 ∧ ((r ++ [L.mk kt sat sct st mnt mxt lzt nat nct lt]).drop kk).length = i + 1 - kk) := Lib.hid (by rw [List.length_drop, ← HK.out]; exact ⟨rfl, rfl⟩)
              clear q8 q8a q8b y0 y1 y2 y3 y4 y5 t0 t1 t2 t3 t4 t5
              obtain ⟨acc, hacc⟩ : ∃ q, q = r ++ [L.mk kt sat sct st mnt mxt lzt nat nct lt] := ⟨_, rfl⟩
              rw [← hacc] at HP HK hlen
              have HAC := Lib.hid hacc
              clear hacc x0 x1 x2 x3 x4 x5
              go_wp2_with (at_builtin; refine wpList_app rfl _ _ 25 27 6 80 _ rfl Tryz.underlying25 infoNode rfl (by decide) (by decide) (wA.heap.size + 1) _ 0 [] rfl (own_zero6 (g := wA.heap.size + 1) (by have := heap_alloc_new (wA.alloc (.cells #[.int .u8 kx, .int .u8 ax, .int .u8 bx] 88)) (.cells #[] 27); simpa using this) (Nat.le_refl _)) ⟨g, kk * 6, none⟩ (i + 1 - kk) (pc - kk) (nFlat (acc.drop kk)) rfl (by rw [nFlat_length, hlen.out.2]) (fun j u hu => by have := HP.out.1.rest HK.out kk j u hu; rw [Addr.add_lit] at this ⊢; exact al_cell (al_cell this _) _) nFlat_one (by omega) (by simp) ?_; intro v' w' hown hgrow hblk hbel; obtain ⟨na', nc', rfl⟩ := own_form hown; have HV := Lib.hid (And.intro hown (And.intro hgrow (And.intro hblk hbel))); clear hown hgrow hblk hbel)
              obtain ⟨i0, hii⟩ := info_parts infoNode
              have HI0 := Lib.hid hii
              clear hii
              obtain ⟨X, hX⟩ : ∃ X, X = w'.alloc (.cells #[.int .u8 (3 + kx % 2), .slice none 0 0, .int .i64 0, .int .i64 0, .bool false, .slice na' (i + 1 - kk) nc'] 27) := ⟨_, rfl⟩
              rw [← hX]
              have hA' : Below wA.heap.size wA w' := (((Below.refl _ _).alloc (Nat.le_refl _) _).alloc (by simp) _).grown HV.out.2.1 (by simp; omega) (fun k e => by have e' : (some (wA.heap.size + 1) : Option Nat) = some k := e; injection e' with e'; omega)
              have gN : X.heap[w'.heap.size]? = some (.cells #[.int .u8 (3 + kx % 2), .slice none 0 0, .int .i64 0, .int .i64 0, .bool false, .slice na' (i + 1 - kk) nc'] 27 (0, 0)) := by rw [hX]; exact heap_alloc_new w' _
              have hAX : Below wA.heap.size wA X := by rw [hX]; exact hA'.alloc hA'.size _
              have hwX : Below w'.heap.size w' X := by rw [hX]; exact (Below.refl _ _).alloc (Nat.le_refl _) _
              have hyn := many_node (kk := 3 + kx % 2) (na := na') (nc := nc') (m := kk) HP.out.1 hA' (by omega) (by have := HK.out; omega) (by rw [hlen.out.2]; have := HV.out.1; simpa using this) HI.out.2.1
              have HN2 := Lib.hid (And.intro hAX (hyn.bel hwX))
              have c0 := block_cell gN 0 _ rfl
              have c1 := block_cell gN 1 _ rfl
              have c2 := block_cell gN 2 _ rfl
              have c3 := block_cell gN 3 _ rfl
              have c4 := block_cell gN 4 _ rfl
              have c5 := block_cell gN 5 _ rfl
              clear hA' hAX hwX hyn hX gN
              go_region_law (refine at_opW ?_; intro W hW; have hbW : Below X.heap.size X W := (by rw [hW]; first | exact (Below.refl _ _).alloc (Nat.le_refl _) _ | exact ((Below.refl _ _).alloc (Nat.le_refl _) _).drew | exact ((Below.refl _ _).drew).alloc (Nat.le_refl _) _ | exact (((Below.refl _ _).drew).alloc (Nat.le_refl _) _).drew); have hS : ∀ j u, ([.int .u8 (3 + kx % 2), .slice none 0 0, .int .i64 0, .int .i64 0, .bool false, .slice na' (i + 1 - kk) nc'] : List Value)[j]? = some u → W.cell? ((⟨X.heap.size, 0, none⟩ : Addr).add j) = some u := (by rw [hW]; first | exact cells_new X #[.int .u8 (3 + kx % 2), .slice none 0 0, .int .i64 0, .int .i64 0, .bool false, .slice na' (i + 1 - kk) nc'] _ _ rfl | exact cells_new X.drew #[.int .u8 (3 + kx % 2), .slice none 0 0, .int .i64 0, .int .i64 0, .bool false, .slice na' (i + 1 - kk) nc'] _ _ rfl); clear hW; have hPW := ((HP.out.1.chg (HN2.out.1.trans (hbW.mono HN2.out.1.size))).cut (k := kk) HK.out (by omega)); have hlk : (acc.take kk).length = kk := (by rw [List.length_take, hlen.out.1]; omega); refine step_app rfl _ _ 25 (by rfl) (w.heap.size + 1) 27 i0 _ 6 80 Tryz.underlying25 HI0.out.1 HI0.out.2.1 HI0.out.2.2.1 HI0.out.2.2.2 rfl (by decide) (.slice (some ⟨g, 0, none⟩) kk pc) kk (nFlat (acc.take kk)) (by rfl) (by have := hPW.own; rw [hlk] at this; exact this) (.slice (some ⟨X.heap.size, 0, none⟩) 1 1) 1 [.int .u8 (3 + kx % 2), .slice none 0 0, .int .i64 0, .int .i64 0, .bool false, .slice na' (i + 1 - kk) nc'] (by rfl) (.inr ⟨_, _, rfl, rfl, hS⟩) (by intro u hu; simp at hu; rcases hu with rfl | rfl | rfl | rfl | rfl <;> rfl) (by unfold maxLen; omega) (by omega) (by have := hPW.lt; omega) ?_; intro v5 w5 hown5 hgrow5 hblk5; have HA := Lib.hid (hPW.app (HN2.out.2.bel hbW) (by rw [hlk]; simpa [L.cs, hlen.out.2] using hown5) hgrow5 hblk5); obtain ⟨n5, e5, rfl⟩ := own_form hown5; clear hown5 hgrow5 hblk5 hPW hS hbW hlk)
              go_wp2_with fail
              go_roundg (N - (j + 1))
              case measure => omega
              case rel =>
                refine ⟨j + 1, acc.take kk ++ [.mk (3 + kx % 2) none 0 [] 0 0 false na' nc' (acc.drop kk)], hlt, rfl, by simp, ?_, HA.out, ?_⟩
                · rw [List.length_append, List.length_take, hlen.out.1]; simp; omega
                · rw [rev_snoc rfl, hpx.out]
                  exact many_tree HAC.out HI.out.1 HST.out HKK.out.2.2.1 HKK.out.2.2.2 HKK.out.1
    · obtain rfl : j = N := by omega
      have hmade : Hid (made l = join 3 (treeL acc)) := Lib.hid (by
        unfold made
        have e : l.take 20 = l.take j := by
          rcases Nat.lt_or_ge 20 n with h | h
          · rw [HN.out, Nat.min_eq_right (by omega)]
          · rw [HN.out, Nat.min_eq_left h, HL.out.2.2.2, List.take_of_length_le (by rw [← HL.out.2.2.2]; exact h), List.take_of_length_le (Nat.le_refl _)]
        rw [e, ← HP.out.2, List.reverse_reverse])
      have hres := HP.out.1.res
      have e0 := block_cell hres 0 _ rfl
      have e1 := block_cell hres 1 _ rfl
      have e2 := block_cell hres 2 _ rfl
      have e3 := block_cell hres 3 _ rfl
      have e4 := block_cell hres 4 _ rfl
      have e5 := block_cell hres 5 _ rfl
      have v0 := block_froz hres 0
      have v1 := block_froz hres 1
      have v2 := block_froz hres 2
      have v3 := block_froz hres 3
      have v4 := block_froz hres 4
      have v5 := block_froz hres 5
      clear hres
      rcases (show k = 0 ∨ k = 1 ∨ 2 ≤ k by omega) with rfl | rfl | hk2
      · obtain rfl : acc = [] := List.eq_nil_of_length_eq_zero HK.out.symm
        go_wp2_with fail
        refine post_world ?_
        intro wE hwE
        have hD := six_done (p := w.heap.size) (ky := 1) (say := none) (scy := 0) (sy := []) (mny := 0) (mxy := 0) (lzy := false) (nay := none) (ncy := 0) (ly := []) HP.out.1.res (Fr.of_bel HP.out.1.bel) (RdT.empty _ _) hwE
        have s0 : wE.cell? ⟨w.heap.size, 0, none⟩ = some (.int .u8 1) := block_cell hD.1 0 _ rfl
        have s1 : wE.cell? ⟨w.heap.size, 1, none⟩ = some (.slice none 0 0) := block_cell hD.1 1 _ rfl
        have s2 : wE.cell? ⟨w.heap.size, 2, none⟩ = some (.int .i64 0) := block_cell hD.1 2 _ rfl
        have s3 : wE.cell? ⟨w.heap.size, 3, none⟩ = some (.int .i64 0) := block_cell hD.1 3 _ rfl
        have s4 : wE.cell? ⟨w.heap.size, 4, none⟩ = some (.bool false) := block_cell hD.1 4 _ rfl
        have s5 : wE.cell? ⟨w.heap.size, 5, none⟩ = some (.slice none 0 0) := block_cell hD.1 5 _ rfl
        have HE := Lib.hid hD.2
        clear hD hwE e0 e1 e2 e3 e4 e5 v0 v1 v2 v3 v4 v5
        have hG : GivesP (fun b => w.heap.size ≤ b) w (made l) (.returned (.agg #[.int .u8 1, .slice none 0 0, .int .i64 0, .int .i64 0, .bool false, .slice none 0 0])) wE := ⟨.mk 1 none 0 [] 0 0 false none 0 [], rfl, by rw [hmade.out]; rfl, HE.out.1, HE.out.2.1.below (fun q hq e => by omega) (Nat.le_refl _)⟩
        clear HE
        exact bodyPost_ret (v := .agg #[.int .u8 1, .slice none 0 0, .int .i64 0, .int .i64 0, .bool false, .slice none 0 0]) (by simp [results, Tryz.results12, go_sem, s0, s1, s2, s3, s4, s5]) rfl hG
      · obtain ⟨r, t, g, rfl, hkr, rfl, hgW, hgw, hcell, _⟩ := HP.out.1.top HK.out (by decide)
        obtain rfl : r = [] := List.eq_nil_of_length_eq_zero (by omega)
        obtain ⟨kt, sat, sct, st, mnt, mxt, lzt, nat, nct, lt⟩ := t
        have x0 := hcell 0 _ rfl
        have x1 := hcell 1 _ rfl
        have x2 := hcell 2 _ rfl
        have x3 := hcell 3 _ rfl
        have x4 := hcell 4 _ rfl
        have x5 := hcell 5 _ rfl
        simp only [List.length_nil, Nat.zero_mul, Nat.zero_add] at x0 x1 x2 x3 x4 x5
        clear hcell hkr hgW hgw
        go_wp2_with fail
        refine post_world ?_
        intro wE hwE
        have hD := six_done (p := w.heap.size) HP.out.1.res (Fr.of_bel HP.out.1.bel) ((HP.out.1.sub (.mk kt sat sct st mnt mxt lzt nat nct lt) (by simp)).mono (fun b hb _ => hb.1)) hwE
        have s0 : wE.cell? ⟨w.heap.size, 0, none⟩ = some (.int .u8 kt) := block_cell hD.1 0 _ rfl
        have s1 : wE.cell? ⟨w.heap.size, 1, none⟩ = some (.slice sat st.length sct) := block_cell hD.1 1 _ rfl
        have s2 : wE.cell? ⟨w.heap.size, 2, none⟩ = some (.int .i64 mnt) := block_cell hD.1 2 _ rfl
        have s3 : wE.cell? ⟨w.heap.size, 3, none⟩ = some (.int .i64 mxt) := block_cell hD.1 3 _ rfl
        have s4 : wE.cell? ⟨w.heap.size, 4, none⟩ = some (.bool lzt) := block_cell hD.1 4 _ rfl
        have s5 : wE.cell? ⟨w.heap.size, 5, none⟩ = some (.slice nat lt.length nct) := block_cell hD.1 5 _ rfl
        have HE := Lib.hid hD.2
        clear hD hwE e0 e1 e2 e3 e4 e5 v0 v1 v2 v3 v4 v5 x0 x1 x2 x3 x4 x5
        have hG : GivesP (fun b => w.heap.size ≤ b) w (made l) (.returned (.agg #[.int .u8 kt, .slice sat st.length sct, .int .i64 mnt, .int .i64 mxt, .bool lzt, .slice nat lt.length nct])) wE := ⟨.mk kt sat sct st mnt mxt lzt nat nct lt, rfl, by rw [hmade.out]; rfl, HE.out.1, HE.out.2.1.below (fun q hq e => by omega) (Nat.le_refl _)⟩
        clear HE
        exact bodyPost_ret (v := .agg #[.int .u8 kt, .slice sat st.length sct, .int .i64 mnt, .int .i64 mxt, .bool lzt, .slice nat lt.length nct]) (by simp [results, Tryz.results12, go_sem, s0, s1, s2, s3, s4, s5]) rfl hG
      · have h0' : ((k : Int) == 0) = false := beq_eq_false_iff_ne.2 (by omega)
        have h1' : ((k : Int) == 1) = false := beq_eq_false_iff_ne.2 (by omega)
        go_wp2_with fail
        refine post_world ?_
        intro wE hwE
        have hwE2 := hwE
        rw [HK.out] at hwE2
        have hown := HP.out.1.own
        rw [← HK.out] at hown
        have hy : RdT (fun b => w.heap.size ≤ b ∧ b ≠ w.heap.size) wA (.mk 3 none 0 [] 0 0 false pa pc acc) := by
          refine RdT.node (by decide) ⟨by decide, by decide⟩ ⟨by decide, by decide⟩ (RdF.of_own hown) (by have := HK.out; omega) (fun q e => ?_) (fun q e => ?_) (fun x hx => (HP.out.1.sub x hx).mono (fun b hb _ => hb.1))
          · rcases own_cases hown with ⟨rfl, _⟩ | ⟨G, rfl, _, _, hT, _⟩
            · cases e
            · cases e; exact ⟨rfl, hT.lt⟩
          · rcases own_cases hown with ⟨rfl, _⟩ | ⟨G, rfl, _, hge, _⟩
            · cases e
            · cases e; dsimp only; omega
        have hD := six_done (p := w.heap.size) (ly := acc) HP.out.1.res (Fr.of_bel HP.out.1.bel) hy hwE2
        have s0 : wE.cell? ⟨w.heap.size, 0, none⟩ = some (.int .u8 3) := block_cell hD.1 0 _ rfl
        have s1 : wE.cell? ⟨w.heap.size, 1, none⟩ = some (.slice none 0 0) := block_cell hD.1 1 _ rfl
        have s2 : wE.cell? ⟨w.heap.size, 2, none⟩ = some (.int .i64 0) := block_cell hD.1 2 _ rfl
        have s3 : wE.cell? ⟨w.heap.size, 3, none⟩ = some (.int .i64 0) := block_cell hD.1 3 _ rfl
        have s4 : wE.cell? ⟨w.heap.size, 4, none⟩ = some (.bool false) := block_cell hD.1 4 _ rfl
        have s5' : wE.cell? ⟨w.heap.size, 5, none⟩ = some (.slice pa acc.length pc) := block_cell hD.1 5 _ rfl
        have s5 : wE.cell? ⟨w.heap.size, 5, none⟩ = some (.slice pa k pc) := by rw [HK.out]; exact s5'
        clear s5' hwE2
        have HE := Lib.hid hD.2
        clear hD hwE hown hy e0 e1 e2 e3 e4 e5 v0 v1 v2 v3 v4 v5
        have hG : GivesP (fun b => w.heap.size ≤ b) w (made l) (.returned (.agg #[.int .u8 3, .slice none 0 0, .int .i64 0, .int .i64 0, .bool false, .slice pa k pc])) wE := ⟨.mk 3 none 0 [] 0 0 false pa pc acc, by rw [HK.out]; rfl, by rw [hmade.out, join_many (by rw [treeL_len, ← HK.out]; exact hk2)]; rfl, HE.out.1, HE.out.2.1.below (fun q hq e => by omega) (Nat.le_refl _)⟩
        clear HE
        exact bodyPost_ret (v := .agg #[.int .u8 3, .slice none 0 0, .int .i64 0, .int .i64 0, .bool false, .slice pa k pc]) (by simp [results, Tryz.results12, go_sem, s0, s1, s2, s3, s4, s5]) rfl hG
end Go.Proofs.YtimahlimmblgkaaGreatDoor.Sy
