/- Several parts in one text: KsC, KsP, KsM. -/
import Derived.Test.YtmagojckhfkcdaaGreatDoorKsA
import Derived.Laws.EntriesVeiled
import Derived.Test.YtmagojckhfkcdaaGreatDoorKaA
/- Chapter 38's sink: Append's look at its entries. -/
namespace Go.Proofs.YtmagojckhfkcdaaGreatDoor.Sk
open Go Go.RowKit
/-- Append's function values: the key lies in block B0, the function that makes items in block B1 -/
structure Clo (w : World) (B0 B1 : Nat) (key : ByteArray) : Prop where
  c0 : w.cell? ⟨B0, 0, none⟩ = some (.string key)
  c1 : w.cell? ⟨B1, 0, none⟩ = some (.func (Fn.func 31) #[] #[.pointer (some ⟨B0, 0, none⟩)])
  l0 : B0 < w.heap.size
  l1 : B1 < w.heap.size
theorem Clo.below {B : Nat} {w w' : World} {B0 B1 : Nat} {key : ByteArray} (h : Clo w B0 B1 key) (hb : Below B w w') (hB : w.heap.size ≤ B) : Clo w' B0 B1 key :=
  ⟨(hb.cell (p := ⟨B0, 0, none⟩) (Nat.lt_of_lt_of_le h.l0 hB)).trans h.c0, (hb.cell (p := ⟨B1, 0, none⟩) (Nat.lt_of_lt_of_le h.l1 hB)).trans h.c1, Nat.lt_of_lt_of_le h.l0 hb.size, Nat.lt_of_lt_of_le h.l1 hb.size⟩
set_option maxRecDepth 100000 in
set_option maxHeartbeats 1000000 in
theorem isnot_calls (B0 B1 : Nat) (key : ByteArray) (x : SE) (w : World) (h : Clo w B0 B1 key) (hv : Kv w) (hk : key.size ≤ 1100000) (hl : Ll w x.la x.lc x.e.lab) (hn : x.e.lab.length ≤ 1000000000) (hsz : ∀ y ∈ x.e.lab, y.2.size ≤ 4611686018427387904) :
    Calls Tryz.prog 33 #[.agg #[.slice x.la x.e.lab.length x.lc, .bool x.e.mark, .int .u64 x.e.bits, .bool x.e.st, .int .i64 x.e.time, .int .i64 x.e.stamp], .pointer (some ⟨B1, 0, none⟩)] w
      fun e w' => e = .returned (.bool (!itemRight (d key) x.e)) ∧ Below w.heap.size w w' := by
  have H := Lib.hid (And.intro h (And.intro hv (And.intro hl hsz)))
  have c1 := h.c1
  have l1 := h.l1
  clear h hv hl hsz
  go_enter Tryz.func33, Tryz.ntmps33
  go_wp2_with fail
  go_at_call 31
  refine (item_calls B0 key x _ ((H.out.1.below ((Below.refl _ _).alloc (Nat.le_refl _) _) (Nat.le_refl _)).c0) (by have := H.out.1.l0; simp; omega)).mono ?_
  rintro e w1 ⟨rfl, hb1⟩
  have HB1 : Hid (Below w.heap.size w w1) := Lib.hid (((Below.refl _ _).alloc (Nat.le_refl _) _).trans (hb1.mono (by simp)))
  clear hb1
  go_wp2_with fail
  go_at_call 10
  refine (sright_calls key x.la x.lc x.e _ hk (H.out.2.2.1.rd.below HB1.out (Nat.le_refl _)) hn H.out.2.2.2 (H.out.2.1.below HB1.out (Nat.le_refl _))).mono ?_
  rintro e w2 ⟨rfl, hb2⟩
  have HB2 := Lib.hid (Bthen HB1.out hb2)
  clear hb2
  obtain ⟨q, hq⟩ : ∃ q, q = itemRight (d key) x.e := ⟨_, rfl⟩
  rw [← hq]
  have HQ := Lib.hid hq
  clear hq
  go_wp2
  go_ret
  exact ⟨ret_bool (by rw [← HQ.out]), HB2.out⟩
def entRight (key : ByteArray) (l : List SE) : Bool := l.all fun x => itemRight (d key) x.e
structure EsOk (w : World) (l : List SE) : Prop where
  ln : ∀ x ∈ l, x.e.lab.length ≤ 1000000000
  sz : ∀ x ∈ l, ∀ y ∈ x.e.lab, y.2.size ≤ 4611686018427387904
theorem all_take_succ {key : ByteArray} {l : List SE} {k : Nat} {x : SE} (h : l[k]? = some x) : entRight key (l.take (k + 1)) = (entRight key (l.take k) && itemRight (d key) x.e) := by
  have : l.take (k + 1) = l.take k ++ [x] := by rw [List.take_add_one, h]; rfl
  unfold entRight
  rw [this, List.all_append]
  simp
theorem all_no {key : ByteArray} {l : List SE} {k : Nat} {x : SE} (h : l[k]? = some x) (hx : itemRight (d key) x.e = false) : entRight key l = false := by
  unfold entRight
  rw [List.all_eq_false]
  exact ⟨x, List.mem_of_getElem? h, by simp [hx]⟩
set_option maxRecDepth 100000 in
set_option maxHeartbeats 2000000 in
theorem index_calls (B0 B1 : Nat) (key : ByteArray) (a : Option Addr) (c : Nat) (l : List SE) (w : World) (h : Clo w B0 B1 key) (hv : Kv w) (hk : key.size ≤ 1100000) (hl : RdE w a l) (ho : EsOk w l) (hn : l.length ≤ 1000000000) :
    Calls Tryz.prog 64 #[.slice a l.length c, .func (Fn.func 33) #[] #[.pointer (some ⟨B1, 0, none⟩)]] w
      fun e w' => (∃ i : Int, e = .returned (.int .i64 i) ∧ decide (0 ≤ i) = !entRight key l) ∧ Below w.heap.size w w' := by
  have H := Lib.hid (And.intro h (And.intro hv (And.intro hl ho)))
  clear h hv hl ho
  go_enter Tryz.func64, Tryz.ntmps64
  go_wp2
  go_loopw [8] (fun i wr => ∃ k : Nat, k ≤ l.length ∧ i = .int .i64 k ∧ entRight key (l.take k) = true ∧ Below w.heap.size w wr) (fun i _ => l.length - (intOf i).toNat)
  case atStart => exact ⟨0, Nat.zero_le _, rfl, rfl, Below.refl _ _⟩
  case round =>
    obtain ⟨k, hkl, rfl, hr, hb⟩ := hrel
    have hbs := hb.size
    have HR := Lib.hid hr
    have HB := Lib.hid hb
    clear hr hb
    by_cases hlt : k < l.length
    · obtain ⟨x, hx⟩ : ∃ x, l[k]? = some x := ⟨_, List.getElem?_eq_getElem hlt⟩
      obtain ⟨b, off, rfl, hbl, ht, hc⟩ := (H.out.2.2.1.below HB.out (Nat.le_refl _)).at_ hx
      have hxm := List.mem_of_getElem? hx
      have HX := Lib.hid (And.intro hx hxm)
      have c0 := hc 0 _ rfl
      rw [Nat.add_zero] at c0
      have c1 := hc 1 _ rfl
      have c2 := hc 2 _ rfl
      have c3 := hc 3 _ rfl
      have c4 := hc 4 _ rfl
      have c5 := hc 5 _ rfl
      clear hc hx hxm ht
      go_wp2_with fail
      go_at_call 33
      refine (isnot_calls B0 B1 key x _ (H.out.1.below HB.out (Nat.le_refl _)) (H.out.2.1.below HB.out (Nat.le_refl _)) hk ((H.out.2.2.1.lab x HX.out.2).below HB.out (Nat.le_refl _)) (H.out.2.2.2.ln x HX.out.2) (H.out.2.2.2.sz x HX.out.2)).mono ?_
      rintro e w1 ⟨rfl, hb1⟩
      have HB1 := Lib.hid (Bthen HB.out hb1)
      clear hb1 c0 c1 c2 c3 c4 c5
      rcases (show itemRight (d key) x.e = true ∨ itemRight (d key) x.e = false by cases itemRight (d key) x.e <;> simp) with hi | hi
      · have HI := Lib.hid hi
        rw [hi]
        clear hi
        have HR2 : Hid (entRight key (l.take (k + 1)) = true) := Lib.hid (by rw [all_take_succ HX.out.1, HR.out, HI.out]; rfl)
        go_wp2
        go_roundw
        case rel => exact ⟨k + 1, by omega, by go_num, HR2.out, HB1.out⟩
        case measure => simp [intOf]; omega
      · have HI := Lib.hid hi
        rw [hi]
        clear hi
        have HR2 : Hid (entRight key l = false) := Lib.hid (all_no HX.out.1 HI.out)
        go_wp2
        go_ret
        exact ⟨⟨k, rfl, by rw [HR2.out]; simp⟩, HB1.out⟩
    · have HR2 : Hid (entRight key l = true) := Lib.hid (by have := HR.out; rwa [List.take_of_length_le (by omega)] at this)
      go_wp2
      go_ret
      exact ⟨⟨-1, rfl, by rw [HR2.out]; rfl⟩, HB.out⟩
set_option maxRecDepth 100000 in
theorem contains_calls (B0 B1 : Nat) (key : ByteArray) (a : Option Addr) (c : Nat) (l : List SE) (w : World) (h : Clo w B0 B1 key) (hv : Kv w) (hk : key.size ≤ 1100000) (hl : RdE w a l) (ho : EsOk w l) (hn : l.length ≤ 1000000000) :
    Calls Tryz.prog 32 #[.slice a l.length c, .func (Fn.func 33) #[] #[.pointer (some ⟨B1, 0, none⟩)]] w
      fun e w' => e = .returned (.bool (!entRight key l)) ∧ Below w.heap.size w w' := by
  go_enter Tryz.func32, Tryz.ntmps32
  go_wp2_with fail
  go_at_call 64
  refine (index_calls B0 B1 key a c l _ h hv hk hl ho hn).mono ?_
  rintro e w1 ⟨⟨i, rfl, hi⟩, hb⟩
  have HB := Lib.hid (And.intro hi hb)
  clear hi hb h hv hl ho
  go_wp2
  go_ret
  exact ⟨ret_bool HB.out.1, HB.out.2⟩
end Go.Proofs.YtmagojckhfkcdaaGreatDoor.Sk
/- Plain facts for Append: what is known of lines, entry by entry. -/
namespace Go.Proofs.YtmagojckhfkcdaaGreatDoor.Sk
theorem know_agree {g h : Line → Last} {ks : List Line} (hgh : ∀ q ∈ ks, g q = h q) (x : It) : ∀ q ∈ ks, know g x q = know h x q := by
  intro q hq
  unfold know upd
  split
  · rfl
  · exact hgh q hq
theorem know_none {g : Line → Last} {ks : List Line} (hg : ∀ q, q ∉ ks → g q = none) {x : It} (hx : lineOf x ∈ ks) : ∀ q, q ∉ ks → know g x q = none := by
  intro q hq
  unfold know upd
  rw [if_neg (fun e => hq (by rw [e]; exact hx))]
  exact hg q hq
theorem fol_agree {g h : Line → Last} {x : It} (hx : g (lineOf x) = h (lineOf x)) : fol g x = fol h x := by
  unfold fol
  rw [hx]
theorem know_keeps {q : Line} : ∀ (xs : List It) (f : Line → Last), xs.foldl know f q = none → f q = none
  | [], _, h => h
  | x :: r, f, h => by
    have := know_keeps r (know f x) h
    unfold know upd at this
    split at this
    · cases this
    · exact this
theorem know_other {q : Line} : ∀ (xs : List It) (f : Line → Last), (∀ x ∈ xs, lineOf x ≠ q) → xs.foldl know f q = f q
  | [], _, _ => rfl
  | x :: r, f, h => by
    have h1 := know_other r (know f x) (fun y hy => h y (List.mem_cons_of_mem _ hy))
    simp only [List.foldl_cons]
    rw [h1]
    unfold know upd
    rw [if_neg (fun e => h x (List.mem_cons_self ..) e.symm)]
theorem merge_end {f g h : Line → Last} {ks : List Line} {xs : List It} (hks : ks = xs.map lineOf) (hh : h = xs.foldl know f) (hgh : ∀ q ∈ ks, g q = h q) (hg : ∀ q, q ∉ ks → g q = none) : merge f g = h := by
  funext q
  unfold merge
  by_cases hq : q ∈ ks
  · rw [hgh q hq]
    cases e : h q with
    | some v => rfl
    | none =>
      rw [hh] at e
      exact know_keeps xs f e
  · rw [hg q hq, hh]
    refine (know_other xs f (fun x hx e => hq ?_)).symm
    rw [hks, ← e]
    exact List.mem_map_of_mem hx
theorem lastOf_append (l m : List It) : lastOf (l ++ m) = m.foldl know (lastOf l) := by unfold lastOf; rw [List.foldl_append]
theorem appGo_at {h : Line → Last} {xs : List It} {k : Nat} {x : It} (hx : xs[k]? = some x) : appGo h (xs.drop k) = if fol h x = 0 then appGo (know h x) (xs.drop (k + 1)) else fol h x := by
  have hk := (List.getElem?_eq_some_iff.1 hx).1
  rw [List.drop_eq_getElem_cons hk, (List.getElem?_eq_some_iff.1 hx).2, appGo]
theorem fold_at {f : Line → Last} {xs : List It} {k : Nat} {x : It} (hx : xs[k]? = some x) : (xs.take (k + 1)).foldl know f = know ((xs.take k).foldl know f) x := by
  have : xs.take (k + 1) = xs.take k ++ [x] := by rw [List.take_add_one, hx]; rfl
  rw [this, List.foldl_append]
  rfl
end Go.Proofs.YtmagojckhfkcdaaGreatDoor.Sk
/- Chapter 38's sink: what Append does to it, as facts of worlds. -/
namespace Go.Proofs.YtmagojckhfkcdaaGreatDoor.Sk
open Go Go.RowKit
theorem Tryz.info40 : (Tryz.prog.info? 40).map (fun i => (i.zero, i.size, i.bytes)) = some (some (.agg #[.string ⟨#[]⟩, .slice none 0 0, .bool false, .int .u64 0, .bool false, .int .i64 0, .int .i64 0]), 7, 80) := by kernel_rfl
def toIt (key : ByteArray) (x : SE) : It := ⟨key, x.e⟩
theorem own_fr {X : Nat → Prop} {w w' : World} {base n size : Nat} {T : TypeId} {v : Value} {xs : List Value} (h : w.ownsRow base T size v n xs) (hf : Fr X w w') (hx : ∀ k, v.ownBlock = some k → ¬ X k) : w'.ownsRow base T size v n xs := by
  obtain ⟨hl, h⟩ := h
  refine ⟨hl, ?_⟩
  rcases h with h | ⟨g, cap, cur, rfl, hb, hg, r⟩
  · exact .inl h
  · exact .inr ⟨g, cap, cur, rfl, hb, (hf.block g (Array.getElem?_eq_some_iff.1 hg).1 (hx g rfl)).trans hg, r⟩
theorem own_isT {w : World} {base n size : Nat} {T : TypeId} {v : Value} {xs : List Value} (h : w.ownsRow base T size v n xs) {k : Nat} (hk : v.ownBlock = some k) : isT w k T := by
  rcases h.2 with ⟨rfl, _⟩ | ⟨g, cap, cur, rfl, _, hg, _⟩
  · simp [Value.ownBlock] at hk
  · obtain rfl : g = k := by simpa [Value.ownBlock] using hk
    exact ⟨_, _, hg⟩
theorem isT_of {w : World} {p : Nat} {cs : Array Value} {T : TypeId} {fz : Nat × Nat} (h : w.heap[p]? = some (.cells cs T fz)) : isT w p T := ⟨_, _, h⟩
theorem SinkAt.fr {X : Nat → Prop} {w w' : World} {p base mb n : Nat} {v : Value} {l : List SI} (h : SinkAt w p base mb n v l) (hf : Fr X w w') (hx : ∀ k, k < w.heap.size → ¬ X k) : SinkAt w' p base mb n v l := by
  have hp := (isT_of h.cells).lt
  refine ⟨(hf.block p hp (hx p hp)).trans h.cells, own_fr h.own hf (fun k hk => hx k (own_isT h.own hk).lt), fun x hx' => (h.lab x hx').fr hf (fun b hb => hx b hb.lt), h.map.fr hf (hx mb h.map.lt), h.le, h.len, h.ok, Nat.le_trans h.bs hf.size⟩
theorem SinkAt.below {w w' : World} {p base mb n : Nat} {v : Value} {l : List SI} (h : SinkAt w p base mb n v l) (hb : Below w.heap.size w w') : SinkAt w' p base mb n v l :=
  h.fr (Fr.of_below hb) (fun k hk hx => by omega)
/-- behind k rounds of Append's third loop -/
structure Mid (w3 : World) (p base mb : Nat) (v : Value) (l : List SI) (key : ByteArray) (es : List SE) (k : Nat) (v' : Value) (l' : List SI) (wr : World) : Prop where
  cell : wr.heap[p]? = some (.cells #[v', .map (some mb)] 62 (0, 0))
  own : wr.ownsRow base 40 7 v' l'.length (iFlat l')
  lab : ∀ x ∈ l', Ll wr x.la x.lc x.e.lab
  its : l'.map SI.it = l.map SI.it ++ (es.map (toIt key)).take k
  len : l'.length = l.length + k
  fr : Fr (fun b => b = p ∨ v.ownBlock = some b) w3 wr
  blk : ∀ b, v'.ownBlock = some b → v.ownBlock = some b ∨ w3.heap.size ≤ b
  ok : ∀ x ∈ l', itemRight (d x.key) x.e = true ∧ x.key.size ≤ 1100000
  nw : ∀ x ∈ l', x ∈ l ∨ ∀ q, x.la = some q → w3.heap.size ≤ q.block
theorem setCell_cells {w : World} {p : Nat} {a b u : Value} {T : TypeId} (h : w.heap[p]? = some (.cells #[a, b] T (0, 0))) : (w.setCell ⟨p, 0, none⟩ u).heap[p]? = some (.cells #[u, b] T (0, 0)) := by
  unfold World.setCell
  simp only [Array.getElem?_modify, h]
  rfl
theorem Mid.start {w w3 : World} {p base mb n : Nat} {v : Value} {l : List SI} (key : ByteArray) (es : List SE) (h : SinkAt w p base mb n v l) (hb : Below w.heap.size w w3) : Mid w3 p base mb v l key es 0 v l w3 :=
  ⟨(h.below hb).cells, (h.below hb).own, (h.below hb).lab, by simp, rfl, Fr.refl _ _, fun b hb => .inl hb, h.ok, fun x hx => .inl hx⟩
theorem Mid.step {w3 wr w5 w6 : World} {p base mb g cap : Nat} {v v' : Value} {l l' : List SI} {key : ByteArray} {es : List SE} {k : Nat} {x : SE} {a5 : Option Addr} {c5 : Nat} {o : Obj}
    (h : Mid w3 p base mb v l key es k v' l' wr) (hx : es[k]? = some x) (hk : key.size ≤ 1100000) (hr : itemRight (d key) x.e = true) (hl5 : Ll w5 a5 c5 x.e.lab) (hnw : ∀ q, a5 = some q → wr.heap.size ≤ q.block) (hb : Below wr.heap.size wr w5)
    (hgrow : (w5.alloc o).grownBy w6 v'.ownBlock) (hown' : w6.ownsRow base 40 7 (.slice (some ⟨g, 0, none⟩) (l'.length + 1) cap) (l'.length + 1) (iFlat l' ++ iB ⟨key, a5, c5, x.e⟩)) (hg : v'.ownBlock = some g ∨ g = (w5.alloc o).heap.size) :
    Mid w3 p base mb v l key es (k + 1) (.slice (some ⟨g, 0, none⟩) (l'.length + 1) cap) (l' ++ [⟨key, a5, c5, x.e⟩]) (w6.setCell ⟨p, 0, none⟩ (.slice (some ⟨g, 0, none⟩) (l'.length + 1) cap)) := by
  have hp := (isT_of h.cell).lt
  have hvp : v'.ownBlock ≠ some p := fun e => ((own_isT h.own e).ne (isT_of h.cell) (by decide)) rfl
  have hF6 : Fr (fun b => v'.ownBlock = some b) w5 w6 := (below_fr ((Below.refl _ _).alloc (Nat.le_refl _) o)).trans (fr_grown hgrow (fun k hk => hk))
  have hF : Fr (fun b => b = p ∨ v'.ownBlock = some b) wr (w6.setCell ⟨p, 0, none⟩ (.slice (some ⟨g, 0, none⟩) (l'.length + 1) cap)) := ((below_fr hb).trans (hF6.mono fun k _ hk => .inr hk)).setCell (.inl rfl) _
  have hF5 : Fr (fun b => b = p ∨ v'.ownBlock = some b) w5 (w6.setCell ⟨p, 0, none⟩ (.slice (some ⟨g, 0, none⟩) (l'.length + 1) cap)) := (hF6.mono fun k _ hk => .inr hk).setCell (.inl rfl) _
  have h5p : w5.heap[p]? = some (.cells #[v', .map (some mb)] 62 (0, 0)) := (hb.block p hp).trans h.cell
  have h6p : w6.heap[p]? = some (.cells #[v', .map (some mb)] 62 (0, 0)) := (hF6.block p (isT_of h5p).lt hvp).trans h5p
  have hsz : wr.heap.size ≤ w5.heap.size := hb.size
  have hgp : g ≠ p := by
    rintro rfl
    rcases hg with e | e
    · exact hvp e
    · simp at e; omega
  have hxl : ∀ {wx : World}, wr.heap[p]? = wx.heap[p]? → (∀ b, v'.ownBlock = some b → isT wx b 40) → ∀ b, isT wx b 66 → ¬ (b = p ∨ v'.ownBlock = some b) := by
    rintro wx hwp hw b hb (e | e)
    · subst e
      exact hb.ne (isT_of (hwp ▸ h.cell)) (by decide) rfl
    · exact hb.ne (hw b e) (by decide) rfl
  have hit5 : ∀ b, v'.ownBlock = some b → isT w5 b 40 := fun b e => by
    have := own_isT h.own e
    exact (Fr.of_below hb).isT this (by have := this.lt; omega)
  refine ⟨setCell_cells h6p, ?_, ?_, ?_, by simp [h.len]; omega, h.fr.thenX hF ?_, ?_, ?_, ?_⟩
  · have := ownsRow_setCell_other (a := ⟨p, 0, none⟩) hown' (by simp [Value.ownBlock, hgp]) (.slice (some ⟨g, 0, none⟩) (l'.length + 1) cap)
    rw [iFlat_append]
    simpa [iFlat] using this
  · intro y hy
    rcases List.mem_append.1 hy with hy | hy
    · exact (h.lab y hy).fr hF (hxl rfl (fun b e => own_isT h.own e))
    · obtain rfl : y = _ := by simpa using hy
      exact hl5.fr hF5 (hxl (h.cell.trans h5p.symm) hit5)
  · have : (es.map (toIt key))[k]? = some (toIt key x) := by rw [List.getElem?_map, hx]; rfl
    rw [List.map_append, h.its, List.take_add_one, this, List.append_assoc]
    rfl
  · rintro i hi (e | e)
    · exact .inl e
    · rcases h.blk i e with e | e
      · exact .inr e
      · omega
  · intro b e
    obtain rfl : g = b := by simpa [Value.ownBlock] using e
    rcases hg with e | e
    · exact h.blk g e
    · right
      have := h.fr.size
      simp at e
      omega
  · intro y hy
    rcases List.mem_append.1 hy with hy | hy
    · exact h.ok y hy
    · obtain rfl : y = _ := by simpa using hy
      exact ⟨hr, hk⟩
  · intro y hy
    rcases List.mem_append.1 hy with hy | hy
    · exact h.nw y hy
    · obtain rfl : y = _ := by simpa using hy
      exact .inr fun q e => Nat.le_trans h.fr.size (hnw q e)
theorem Mid.rd {w w3 wr : World} {p base mb n k : Nat} {v v' : Value} {l l' : List SI} {key : ByteArray} {es : List SE} {a : Option Addr} (h : SinkAt w p base mb n v l) (hb : Below w.heap.size w w3) (hm : Mid w3 p base mb v l key es k v' l' wr) (hr : RdE w3 a es) : RdE wr a es := by
  have h3 := h.below hb
  refine hr.fr hm.fr fun b ht => ?_
  rintro (e | e)
  · subst e
    rcases ht with ht | ht
    · exact ht.ne (isT_of h3.cells) (by decide) rfl
    · exact ht.ne (isT_of h3.cells) (by decide) rfl
  · rcases ht with ht | ht
    · exact ht.ne (own_isT h3.own e) (by decide) rfl
    · exact ht.ne (own_isT h3.own e) (by decide) rfl
theorem Mid.clo {w w3 wr : World} {p base mb n k : Nat} {v v' : Value} {l l' : List SI} {key : ByteArray} {es : List SE} (h : SinkAt w p base mb n v l) (hm : Mid w3 p base mb v l key es k v' l' wr) (hc : Clo w3 w.heap.size (w.heap.size + 1) key) : Clo wr w.heap.size (w.heap.size + 1) key := by
  have hX : ∀ b, w.heap.size ≤ b → ¬ (b = p ∨ v.ownBlock = some b) := by
    rintro b hb (e | e)
    · have := (isT_of h.cells).lt; omega
    · have := (own_isT h.own e).lt; omega
  exact ⟨(hm.fr.cell hc.l0 (hX _ (Nat.le_refl _))).trans hc.c0, (hm.fr.cell hc.l1 (hX _ (by omega))).trans hc.c1, Nat.lt_of_lt_of_le hc.l0 hm.fr.size, Nat.lt_of_lt_of_le hc.l1 hm.fr.size⟩
theorem Mid.map {w w3 wr : World} {p base mb n k mb2 n2 : Nat} {v v' : Value} {l l' : List SI} {key : ByteArray} {es : List SE} {g : Line → Last} (h : SinkAt w p base mb n v l) (hm : Mid w3 p base mb v l key es k v' l' wr) (hc : MapIs w3 mb2 n2 g) (hmb : w.heap.size ≤ mb2) : MapIs wr mb2 n2 g := by
  refine hc.fr hm.fr ?_
  rintro (e | e)
  · have := (isT_of h.cells).lt; omega
  · have := (own_isT h.own e).lt; omega
theorem Mid.map0 {w w3 wr : World} {p base mb n k : Nat} {v v' : Value} {l l' : List SI} {key : ByteArray} {es : List SE} (h : SinkAt w p base mb n v l) (hb : Below w.heap.size w w3) (hm : Mid w3 p base mb v l key es k v' l' wr) : MapIs wr mb n (lastOf (l.map SI.it)) := by
  have h3 := h.below hb
  refine h3.map.fr hm.fr ?_
  obtain ⟨D, ⟨q, c, hq, _⟩, _⟩ := h3.map
  rintro (e | e)
  · subst e; rw [h3.cells] at hq; cases hq
  · obtain ⟨cs, fz, hc⟩ := own_isT h3.own e
    rw [hc] at hq; cases hq
theorem all_it {key : ByteArray} {es : List SE} : (es.map (toIt key)).all (fun x => itemRight (d x.key) x.e) = entRight key es := by
  rw [List.all_map]
  rfl
theorem appErr_of {f l : List It} {er : Int} (hall : l.all (fun x => itemRight (d x.key) x.e) = true) (hg : appGo (lastOf f) l = er) : appErr f l = if er = 0 then (if 65536 < f.length + l.length then 4 else 0) else er := by
  unfold appErr
  rw [if_pos hall, hg]
/-- what Append leaves -/
def AppPost (w : World) (p base mb : Nat) (v : Value) (l : List SI) (m : List It) (e : Ending) (w' : World) : Prop :=
  e = .returned (.int .i64 (appErr (l.map SI.it) m)) ∧ ∃ n' v' l', SinkAt w' p base mb n' v' l' ∧ l'.map SI.it = app (l.map SI.it) m ∧ Fr (fun k => k = p ∨ k = mb ∨ v.ownBlock = some k) w w' ∧ ∀ k, v'.ownBlock = some k → v.ownBlock = some k ∨ w.heap.size ≤ k
def AppPostN (w : World) (p base mb : Nat) (v : Value) (l : List SI) (m : List It) (e : Ending) (w' : World) : Prop :=
  e = .returned (.int .i64 (appErr (l.map SI.it) m)) ∧ ∃ n' v' l', SinkAt w' p base mb n' v' l' ∧ l'.map SI.it = app (l.map SI.it) m ∧ Fr (fun k => k = p ∨ k = mb ∨ v.ownBlock = some k) w w' ∧ (∀ k, v'.ownBlock = some k → v.ownBlock = some k ∨ w.heap.size ≤ k) ∧ ∀ x ∈ l', x ∈ l ∨ ∀ q, x.la = some q → w.heap.size ≤ q.block
theorem AppPostN.old {w w' : World} {p base mb : Nat} {v : Value} {l : List SI} {m : List It} {e : Ending} (h : AppPostN w p base mb v l m e w') : AppPost w p base mb v l m e w' := by
  obtain ⟨h1, n', v', l', h2, h3, h4, h5, _⟩ := h
  exact ⟨h1, n', v', l', h2, h3, h4, h5⟩
theorem AppPostN.no {w w' : World} {p base mb n : Nat} {v : Value} {l : List SI} {m : List It} {e : Ending} (h : SinkAt w p base mb n v l) (hb : Below w.heap.size w w') {er : Int} (he : appErr (l.map SI.it) m = er) (h0 : er ≠ 0) (hr : e = .returned (.int .i64 er)) : AppPostN w p base mb v l m e w' :=
  ⟨by rw [he]; exact hr, n, v, l, h.below hb, by unfold app; rw [he, if_neg h0], below_fr hb, (fun k hk => .inl hk), fun x hx => .inl hx⟩
theorem AppPostN.yes {w w3 wr w7 : World} {p base mb n n2 : Nat} {v v' : Value} {l l' : List SI} {key : ByteArray} {es : List SE} {g : Line → Last} {e : Ending} (h : SinkAt w p base mb n v l) (hb : Below w.heap.size w w3) (hm : Mid w3 p base mb v l key es es.length v' l' wr)
    (he : appErr (l.map SI.it) (es.map (toIt key)) = 0) (hlen : l.length + es.length ≤ 65536) (hf : Fr (fun k => k = mb) wr w7) (hmap : MapIs w7 mb (n + n2) (merge (lastOf (l.map SI.it)) g)) (hn : n2 ≤ 2 * es.length) (hg : merge (lastOf (l.map SI.it)) g = (es.map (toIt key)).foldl know (lastOf (l.map SI.it))) (hr : e = .returned (.int .i64 0)) :
    AppPostN w p base mb v l (es.map (toIt key)) e w7 := by
  have hmb : mb < w.heap.size := h.map.lt
  have hp := (isT_of h.cells).lt
  have hmw : ∃ q c, w.heap[mb]? = some (.map q c) := by
    obtain ⟨D, ⟨q, c, hq, _⟩, _⟩ := h.map
    exact ⟨q, c, hq⟩
  have hnb : ∀ {T : TypeId} {b : Nat}, isT wr b T → b ≠ mb := by
    rintro T b hT rfl
    obtain ⟨q, c, hq⟩ := hmw
    obtain ⟨cs, fz, hc⟩ := hT
    have h1 := hm.fr.block b (Nat.lt_of_lt_of_le hmb hb.size) (by
      rintro (e | e)
      · subst e; rw [h.cells] at hq; cases hq
      · obtain ⟨cs, fz, hc⟩ := own_isT h.own e
        rw [hc] at hq; cases hq)
    rw [hc, hb.block b hmb, hq] at h1
    cases h1
  have hits : l'.map SI.it = l.map SI.it ++ es.map (toIt key) := by
    have := hm.its
    rwa [List.take_of_length_le (by simp)] at this
  have hl' := hm.len
  have hle := h.le
  refine ⟨by rw [he]; exact hr, n + n2, v', l', ⟨(hf.block p (isT_of hm.cell).lt (hnb (isT_of hm.cell))).trans hm.cell, own_fr hm.own hf (fun k hk => hnb (own_isT hm.own hk)), fun x hx => (hm.lab x hx).fr hf (fun b hT => hnb hT), ?_, by omega, by omega, hm.ok, Nat.le_trans h.bs (Nat.le_trans hb.size (Nat.le_trans hm.fr.size hf.size))⟩, ?_, ?_, ?_, ?_⟩
  · rw [hits, lastOf_append, ← hg]
    exact hmap
  · unfold app
    rw [he, if_pos rfl, hits]
  · refine Fr.thenX (Fr.thenX (below_fr hb) hm.fr ?_) hf ?_
    · rintro i _ (e | e)
      · exact .inl e
      · exact .inr (.inr e)
    · rintro i _ e
      exact .inr (.inl e)
  · intro k hk
    rcases hm.blk k hk with e | e
    · exact .inl e
    · exact .inr (Nat.le_trans hb.size e)
  · intro x hx
    rcases hm.nw x hx with h | h
    · exact .inl h
    · exact .inr fun q e => Nat.le_trans hb.size (h q e)
end Go.Proofs.YtmagojckhfkcdaaGreatDoor.Sk
