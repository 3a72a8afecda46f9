/- Chapter 38's sink: what Append does to it, as facts of worlds. -/
import Derived.Test.YtiooimdncocfdaaGreatDoorKsC
import Derived.Test.YtiooimdncocfdaaGreatDoorKsP
namespace Go.Proofs.YtiooimdncocfdaaGreatDoor.Sk
open Go Go.RowKit
theorem Tryz.info61 : (Tryz.prog.info? 61).map (fun i => (i.zero, i.size, i.bytes)) = some (some (.agg #[.string ⟨#[]⟩, .slice none 0 0, .bool false, .int .u64 0, .bool false, .int .i64 0, .int .i64 0]), 7, 80) := by kernel_rfl
def toIt (key : ByteArray) (x : SE) : It := ⟨key, x.e⟩
theorem own_fr {X : Nat → Prop} {w w' : World} {base n size : Nat} {T : TypeId} {v : Value} {xs : List Value} (h : w.ownsRow base T size v n xs) (hf : Fr X w w') (hx : ∀ k, v.ownBlock = some k → ¬ X k) : w'.ownsRow base T size v n xs := by
  obtain ⟨hl, h⟩ := h
  refine ⟨hl, ?_⟩
  rcases h with h | ⟨g, cap, cur, rfl, hb, hg, r⟩
  · exact .inl h
  · exact .inr ⟨g, cap, cur, rfl, hb, (hf.block g (Array.getElem?_eq_some_iff.1 hg).1 (hx g rfl)).trans hg, r⟩
theorem own_isT {w : World} {base n size : Nat} {T : TypeId} {v : Value} {xs : List Value} (h : w.ownsRow base T size v n xs) {k : Nat} (hk : v.ownBlock = some k) : isT w k T := by
  rcases h.2 with ⟨rfl, _⟩ | ⟨g, cap, cur, rfl, _, hg, _⟩
  · simp [Value.ownBlock] at hk
  · obtain rfl : g = k := by simpa [Value.ownBlock] using hk
    exact ⟨_, _, hg⟩
theorem isT_of {w : World} {p : Nat} {cs : Array Value} {T : TypeId} {fz : Nat × Nat} (h : w.heap[p]? = some (.cells cs T fz)) : isT w p T := ⟨_, _, h⟩
theorem SinkAt.fr {X : Nat → Prop} {w w' : World} {p base mb n : Nat} {v : Value} {l : List SI} (h : SinkAt w p base mb n v l) (hf : Fr X w w') (hx : ∀ k, k < w.heap.size → ¬ X k) : SinkAt w' p base mb n v l := by
  have hp := (isT_of h.cells).lt
  refine ⟨(hf.block p hp (hx p hp)).trans h.cells, own_fr h.own hf (fun k hk => hx k (own_isT h.own hk).lt), fun x hx' => (h.lab x hx').fr hf (fun b hb => hx b hb.lt), h.map.fr hf (hx mb h.map.lt), h.le, h.len, h.ok, Nat.le_trans h.bs hf.size⟩
theorem SinkAt.below {w w' : World} {p base mb n : Nat} {v : Value} {l : List SI} (h : SinkAt w p base mb n v l) (hb : Below w.heap.size w w') : SinkAt w' p base mb n v l :=
  h.fr (Fr.of_below hb) (fun k hk hx => by omega)
/-- behind k rounds of Append's third loop -/
structure Mid (w3 : World) (p base mb : Nat) (v : Value) (l : List SI) (key : ByteArray) (es : List SE) (k : Nat) (v' : Value) (l' : List SI) (wr : World) : Prop where
  cell : wr.heap[p]? = some (.cells #[v', .map (some mb)] 144 (0, 0))
  own : wr.ownsRow base 61 7 v' l'.length (iFlat l')
  lab : ∀ x ∈ l', Ll wr x.la x.lc x.e.lab
  its : l'.map SI.it = l.map SI.it ++ (es.map (toIt key)).take k
  len : l'.length = l.length + k
  fr : Fr (fun b => b = p ∨ v.ownBlock = some b) w3 wr
  blk : ∀ b, v'.ownBlock = some b → v.ownBlock = some b ∨ w3.heap.size ≤ b
  ok : ∀ x ∈ l', itemRight (d x.key) x.e = true ∧ x.key.size ≤ 1000000
theorem setCell_cells {w : World} {p : Nat} {a b u : Value} {T : TypeId} (h : w.heap[p]? = some (.cells #[a, b] T (0, 0))) : (w.setCell ⟨p, 0, none⟩ u).heap[p]? = some (.cells #[u, b] T (0, 0)) := by
  unfold World.setCell
  simp only [Array.getElem?_modify, h]
  rfl
theorem Mid.start {w w3 : World} {p base mb n : Nat} {v : Value} {l : List SI} (key : ByteArray) (es : List SE) (h : SinkAt w p base mb n v l) (hb : Below w.heap.size w w3) : Mid w3 p base mb v l key es 0 v l w3 :=
  ⟨(h.below hb).cells, (h.below hb).own, (h.below hb).lab, by simp, rfl, Fr.refl _ _, fun b hb => .inl hb, h.ok⟩
theorem Mid.step {w3 wr w5 w6 : World} {p base mb g cap : Nat} {v v' : Value} {l l' : List SI} {key : ByteArray} {es : List SE} {k : Nat} {x : SE} {a5 : Option Addr} {c5 : Nat} {o : Obj}
    (h : Mid w3 p base mb v l key es k v' l' wr) (hx : es[k]? = some x) (hk : key.size ≤ 1000000) (hr : itemRight (d key) x.e = true) (hl5 : Ll w5 a5 c5 x.e.lab) (hb : Below wr.heap.size wr w5)
    (hgrow : (w5.alloc o).grownBy w6 v'.ownBlock) (hown' : w6.ownsRow base 61 7 (.slice (some ⟨g, 0, none⟩) (l'.length + 1) cap) (l'.length + 1) (iFlat l' ++ iB ⟨key, a5, c5, x.e⟩)) (hg : v'.ownBlock = some g ∨ g = (w5.alloc o).heap.size) :
    Mid w3 p base mb v l key es (k + 1) (.slice (some ⟨g, 0, none⟩) (l'.length + 1) cap) (l' ++ [⟨key, a5, c5, x.e⟩]) (w6.setCell ⟨p, 0, none⟩ (.slice (some ⟨g, 0, none⟩) (l'.length + 1) cap)) := by
  have hp := (isT_of h.cell).lt
  have hvp : v'.ownBlock ≠ some p := fun e => ((own_isT h.own e).ne (isT_of h.cell) (by decide)) rfl
  have hF6 : Fr (fun b => v'.ownBlock = some b) w5 w6 := (below_fr ((Below.refl _ _).alloc (Nat.le_refl _) o)).trans (fr_grown hgrow (fun k hk => hk))
  have hF : Fr (fun b => b = p ∨ v'.ownBlock = some b) wr (w6.setCell ⟨p, 0, none⟩ (.slice (some ⟨g, 0, none⟩) (l'.length + 1) cap)) := ((below_fr hb).trans (hF6.mono fun k _ hk => .inr hk)).setCell (.inl rfl) _
  have hF5 : Fr (fun b => b = p ∨ v'.ownBlock = some b) w5 (w6.setCell ⟨p, 0, none⟩ (.slice (some ⟨g, 0, none⟩) (l'.length + 1) cap)) := (hF6.mono fun k _ hk => .inr hk).setCell (.inl rfl) _
  have h5p : w5.heap[p]? = some (.cells #[v', .map (some mb)] 144 (0, 0)) := (hb.block p hp).trans h.cell
  have h6p : w6.heap[p]? = some (.cells #[v', .map (some mb)] 144 (0, 0)) := (hF6.block p (isT_of h5p).lt hvp).trans h5p
  have hsz : wr.heap.size ≤ w5.heap.size := hb.size
  have hgp : g ≠ p := by
    rintro rfl
    rcases hg with e | e
    · exact hvp e
    · simp at e; omega
  have hxl : ∀ {wx : World}, wr.heap[p]? = wx.heap[p]? → (∀ b, v'.ownBlock = some b → isT wx b 61) → ∀ b, isT wx b 165 → ¬ (b = p ∨ v'.ownBlock = some b) := by
    rintro wx hwp hw b hb (e | e)
    · subst e
      exact hb.ne (isT_of (hwp ▸ h.cell)) (by decide) rfl
    · exact hb.ne (hw b e) (by decide) rfl
  have hit5 : ∀ b, v'.ownBlock = some b → isT w5 b 61 := fun b e => by
    have := own_isT h.own e
    exact (Fr.of_below hb).isT this (by have := this.lt; omega)
  refine ⟨setCell_cells h6p, ?_, ?_, ?_, by simp [h.len]; omega, h.fr.thenX hF ?_, ?_, ?_⟩
  · have := ownsRow_setCell_other (a := ⟨p, 0, none⟩) hown' (by simp [Value.ownBlock, hgp]) (.slice (some ⟨g, 0, none⟩) (l'.length + 1) cap)
    rw [iFlat_append]
    simpa [iFlat] using this
  · intro y hy
    rcases List.mem_append.1 hy with hy | hy
    · exact (h.lab y hy).fr hF (hxl rfl (fun b e => own_isT h.own e))
    · obtain rfl : y = _ := by simpa using hy
      exact hl5.fr hF5 (hxl (h.cell.trans h5p.symm) hit5)
  · have : (es.map (toIt key))[k]? = some (toIt key x) := by rw [List.getElem?_map, hx]; rfl
    rw [List.map_append, h.its, List.take_add_one, this, List.append_assoc]
    rfl
  · rintro i hi (e | e)
    · exact .inl e
    · rcases h.blk i e with e | e
      · exact .inr e
      · omega
  · intro b e
    obtain rfl : g = b := by simpa [Value.ownBlock] using e
    rcases hg with e | e
    · exact h.blk g e
    · right
      have := h.fr.size
      simp at e
      omega
  · intro y hy
    rcases List.mem_append.1 hy with hy | hy
    · exact h.ok y hy
    · obtain rfl : y = _ := by simpa using hy
      exact ⟨hr, hk⟩
theorem Mid.rd {w w3 wr : World} {p base mb n k : Nat} {v v' : Value} {l l' : List SI} {key : ByteArray} {es : List SE} {a : Option Addr} (h : SinkAt w p base mb n v l) (hb : Below w.heap.size w w3) (hm : Mid w3 p base mb v l key es k v' l' wr) (hr : RdE w3 a es) : RdE wr a es := by
  have h3 := h.below hb
  refine hr.fr hm.fr fun b ht => ?_
  rintro (e | e)
  · subst e
    rcases ht with ht | ht
    · exact ht.ne (isT_of h3.cells) (by decide) rfl
    · exact ht.ne (isT_of h3.cells) (by decide) rfl
  · rcases ht with ht | ht
    · exact ht.ne (own_isT h3.own e) (by decide) rfl
    · exact ht.ne (own_isT h3.own e) (by decide) rfl
theorem Mid.clo {w w3 wr : World} {p base mb n k : Nat} {v v' : Value} {l l' : List SI} {key : ByteArray} {es : List SE} (h : SinkAt w p base mb n v l) (hm : Mid w3 p base mb v l key es k v' l' wr) (hc : Clo w3 w.heap.size (w.heap.size + 1) key) : Clo wr w.heap.size (w.heap.size + 1) key := by
  have hX : ∀ b, w.heap.size ≤ b → ¬ (b = p ∨ v.ownBlock = some b) := by
    rintro b hb (e | e)
    · have := (isT_of h.cells).lt; omega
    · have := (own_isT h.own e).lt; omega
  exact ⟨(hm.fr.cell hc.l0 (hX _ (Nat.le_refl _))).trans hc.c0, (hm.fr.cell hc.l1 (hX _ (by omega))).trans hc.c1, Nat.lt_of_lt_of_le hc.l0 hm.fr.size, Nat.lt_of_lt_of_le hc.l1 hm.fr.size⟩
theorem Mid.map {w w3 wr : World} {p base mb n k mb2 n2 : Nat} {v v' : Value} {l l' : List SI} {key : ByteArray} {es : List SE} {g : Line → Last} (h : SinkAt w p base mb n v l) (hm : Mid w3 p base mb v l key es k v' l' wr) (hc : MapIs w3 mb2 n2 g) (hmb : w.heap.size ≤ mb2) : MapIs wr mb2 n2 g := by
  refine hc.fr hm.fr ?_
  rintro (e | e)
  · have := (isT_of h.cells).lt; omega
  · have := (own_isT h.own e).lt; omega
theorem Mid.map0 {w w3 wr : World} {p base mb n k : Nat} {v v' : Value} {l l' : List SI} {key : ByteArray} {es : List SE} (h : SinkAt w p base mb n v l) (hb : Below w.heap.size w w3) (hm : Mid w3 p base mb v l key es k v' l' wr) : MapIs wr mb n (lastOf (l.map SI.it)) := by
  have h3 := h.below hb
  refine h3.map.fr hm.fr ?_
  obtain ⟨D, ⟨q, c, hq, _⟩, _⟩ := h3.map
  rintro (e | e)
  · subst e; rw [h3.cells] at hq; cases hq
  · obtain ⟨cs, fz, hc⟩ := own_isT h3.own e
    rw [hc] at hq; cases hq
theorem all_it {key : ByteArray} {es : List SE} : (es.map (toIt key)).all (fun x => itemRight (d x.key) x.e) = entRight key es := by
  rw [List.all_map]
  rfl
theorem appErr_of {f l : List It} {er : Int} (hall : l.all (fun x => itemRight (d x.key) x.e) = true) (hg : appGo (lastOf f) l = er) : appErr f l = if er = 0 then (if 65536 < f.length + l.length then 4 else 0) else er := by
  unfold appErr
  rw [if_pos hall, hg]
/-- what Append leaves -/
def AppPost (w : World) (p base mb : Nat) (v : Value) (l : List SI) (m : List It) (e : Ending) (w' : World) : Prop :=
  e = .returned (.int .i64 (appErr (l.map SI.it) m)) ∧ ∃ n' v' l', SinkAt w' p base mb n' v' l' ∧ l'.map SI.it = app (l.map SI.it) m ∧ Fr (fun k => k = p ∨ k = mb ∨ v.ownBlock = some k) w w' ∧ ∀ k, v'.ownBlock = some k → v.ownBlock = some k ∨ w.heap.size ≤ k
theorem AppPost.no {w w' : World} {p base mb n : Nat} {v : Value} {l : List SI} {m : List It} {e : Ending} (h : SinkAt w p base mb n v l) (hb : Below w.heap.size w w') {er : Int} (he : appErr (l.map SI.it) m = er) (h0 : er ≠ 0) (hr : e = .returned (.int .i64 er)) : AppPost w p base mb v l m e w' :=
  ⟨by rw [he]; exact hr, n, v, l, h.below hb, by unfold app; rw [he, if_neg h0], below_fr hb, fun k hk => .inl hk⟩
theorem AppPost.yes {w w3 wr w7 : World} {p base mb n n2 : Nat} {v v' : Value} {l l' : List SI} {key : ByteArray} {es : List SE} {g : Line → Last} {e : Ending} (h : SinkAt w p base mb n v l) (hb : Below w.heap.size w w3) (hm : Mid w3 p base mb v l key es es.length v' l' wr)
    (he : appErr (l.map SI.it) (es.map (toIt key)) = 0) (hlen : l.length + es.length ≤ 65536) (hf : Fr (fun k => k = mb) wr w7) (hmap : MapIs w7 mb (n + n2) (merge (lastOf (l.map SI.it)) g)) (hn : n2 ≤ 2 * es.length) (hg : merge (lastOf (l.map SI.it)) g = (es.map (toIt key)).foldl know (lastOf (l.map SI.it))) (hr : e = .returned (.int .i64 0)) :
    AppPost w p base mb v l (es.map (toIt key)) e w7 := by
  have hmb : mb < w.heap.size := h.map.lt
  have hp := (isT_of h.cells).lt
  have hmw : ∃ q c, w.heap[mb]? = some (.map q c) := by
    obtain ⟨D, ⟨q, c, hq, _⟩, _⟩ := h.map
    exact ⟨q, c, hq⟩
  have hnb : ∀ {T : TypeId} {b : Nat}, isT wr b T → b ≠ mb := by
    rintro T b hT rfl
    obtain ⟨q, c, hq⟩ := hmw
    obtain ⟨cs, fz, hc⟩ := hT
    have h1 := hm.fr.block b (Nat.lt_of_lt_of_le hmb hb.size) (by
      rintro (e | e)
      · subst e; rw [h.cells] at hq; cases hq
      · obtain ⟨cs, fz, hc⟩ := own_isT h.own e
        rw [hc] at hq; cases hq)
    rw [hc, hb.block b hmb, hq] at h1
    cases h1
  have hits : l'.map SI.it = l.map SI.it ++ es.map (toIt key) := by
    have := hm.its
    rwa [List.take_of_length_le (by simp)] at this
  have hl' := hm.len
  have hle := h.le
  refine ⟨by rw [he]; exact hr, n + n2, v', l', ⟨(hf.block p (isT_of hm.cell).lt (hnb (isT_of hm.cell))).trans hm.cell, own_fr hm.own hf (fun k hk => hnb (own_isT hm.own hk)), fun x hx => (hm.lab x hx).fr hf (fun b hT => hnb hT), ?_, by omega, by omega, hm.ok, Nat.le_trans h.bs (Nat.le_trans hb.size (Nat.le_trans hm.fr.size hf.size))⟩, ?_, ?_, ?_⟩
  · rw [hits, lastOf_append, ← hg]
    exact hmap
  · unfold app
    rw [he, if_pos rfl, hits]
  · refine Fr.thenX (Fr.thenX (below_fr hb) hm.fr ?_) hf ?_
    · rintro i _ (e | e)
      · exact .inl e
      · exact .inr (.inr e)
    · rintro i _ e
      exact .inr (.inl e)
  · intro k hk
    rcases hm.blk k hk with e | e
    · exact .inl e
    · exact .inr (Nat.le_trans hb.size e)
end Go.Proofs.YtiooimdncocfdaaGreatDoor.Sk
