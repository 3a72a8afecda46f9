/- Texts of the claim, put together: SlA. -/
import Derived.Shelf.SlSortCmp.WholeK
import Derived.Shelf.SlSortCmp.NoneTotal
import Derived.Shelf.SlicesG.Cmp
import Derived.Test.YtimahlimmblgkaaGreatDoorPClsP
import Derived.Test.YtimahlimmblgkaaGreatDoorPLaid
import Derived.Test.YtimahlimmblgkaaGreatDoorPLaidS
import Derived.RangeFuncLeaves
import Derived.Test.YtimahlimmblgkaaGreatDoorPBaA
namespace Go.Proofs.YtimahlimmblgkaaGreatDoor
open Go.RowKit
theorem Tryz.info84 : (Tryz.prog.info? 84).map (fun i => (i.zero, i.size, i.bytes)) = some (some (.agg #[.int .i64 0, .int .i64 0]), 2, 16) := by kernel_rfl
theorem rFlat_length (l : Rs.S) : (rFlat l).length = l.length * 2 := by
  induction l with
  | nil => rfl
  | cons r l ih => simp only [rFlat, List.flatMap_cons, List.length_append, List.length_cons] at ih ⊢; rw [ih]; simp [rCells]; omega
theorem rFlat_get (l : Rs.S) : ∀ (i : Nat) (r : Rs.R), l[i]? = some r → (rFlat l)[i * 2]? = some (.int .i64 r.1) ∧ (rFlat l)[i * 2 + 1]? = some (.int .i64 r.2) := by
  induction l with
  | nil => intro i r h; simp at h
  | cons s l ih =>
    intro i r h
    cases i with
    | zero => simp at h; subst h; exact ⟨rfl, rfl⟩
    | succ i =>
      have := ih i r (by simpa using h)
      have e : rFlat (s :: l) = .int .i64 s.1 :: .int .i64 s.2 :: rFlat l := rfl
      rw [e, show (i + 1) * 2 = i * 2 + 1 + 1 from by omega]
      exact ⟨by simpa using this.1, by simpa using this.2⟩
theorem rFlat_oneCell (l : Rs.S) : ∀ u ∈ rFlat l, u.oneCell' = true := by
  intro u hu
  obtain ⟨r, _, hr⟩ := List.mem_flatMap.1 hu
  simp [rCells] at hr
  rcases hr with rfl | rfl <;> rfl
theorem rFlat_append (l m : Rs.S) : rFlat (l ++ m) = rFlat l ++ rFlat m := by simp [rFlat]
/-- every cell of what is read, by its number -/
theorem rFlat_cell {l : Rs.S} {j : Nat} {u : Value} (h : (rFlat l)[j]? = some u) : ∃ r, l[j / 2]? = some r ∧ u = if j % 2 = 0 then .int .i64 r.1 else .int .i64 r.2 := by
  have hj : j < l.length * 2 := by rw [← rFlat_length]; exact (List.getElem?_eq_some_iff.1 h).1
  obtain ⟨r, hr⟩ : ∃ r, l[j / 2]? = some r := ⟨_, List.getElem?_eq_getElem (by omega)⟩
  refine ⟨r, hr, ?_⟩
  have hg := rFlat_get l (j / 2) r hr
  by_cases he : j % 2 = 0
  · rw [if_pos he]; rw [show j / 2 * 2 = j from by omega, h] at hg; exact Option.some.inj hg.1
  · rw [if_neg he]; rw [show j / 2 * 2 + 1 = j from by omega, h] at hg; exact Option.some.inj hg.2
theorem RdR.news {w : World} {b off : Nat} {l : Rs.S} (h : RdR w (some ⟨b, off, none⟩) l) : ∀ j u, (rFlat l)[j]? = some u → w.cell? ((⟨b, off, none⟩ : Addr).add j) = some u := by
  intro j u hu
  obtain ⟨r, hr, rfl⟩ := rFlat_cell hu
  obtain ⟨b', off', e, _, hc⟩ := h (by intro e; subst e; simp at hr)
  cases e
  obtain ⟨c0, c1⟩ := hc _ r hr
  rw [Addr.add_lit]
  by_cases he : j % 2 = 0
  · rw [if_pos he, ← c0]; congr 2; omega
  · rw [if_neg he, ← c1]; congr 2; omega
/-- what is owned reads as the ranges -/
theorem RdR.of_own {w : World} {base n : Nat} {v : Value} {l : Rs.S} (h : w.ownsRow base 84 2 v n (rFlat l)) : ∃ a cap, v = .slice a l.length cap ∧ RdR w a l ∧ (a = none → l = [] ∧ cap = 0) ∧ n = l.length ∧ (∀ b off, a = some ⟨b, off, none⟩ → base ≤ b ∧ b < w.heap.size) := by
  have hl := h.1
  rw [rFlat_length] at hl
  obtain rfl : l.length = n := by omega
  rcases h.2 with ⟨rfl, h0⟩ | ⟨g, cap, cur, rfl, hb, hg, hc, hm, hs, ht⟩
  · have : l = [] := List.eq_nil_of_length_eq_zero h0
    subst this
    exact ⟨none, 0, rfl, RdR.nil _ _, fun _ => ⟨rfl, rfl⟩, rfl, (fun b off e => by cases e)⟩
  · have hlt : g < w.heap.size := (Array.getElem?_eq_some_iff.1 hg).1
    refine ⟨_, cap, rfl, fun _ => ⟨g, 0, rfl, hlt, fun i r hr => ?_⟩, (fun e => by cases e), rfl, (fun b off e => by cases e; exact ⟨hb, hlt⟩)⟩
    have hi : i < l.length := (List.getElem?_eq_some_iff.1 hr).1
    have hg2 := rFlat_get l i r hr
    rw [← ht] at hg2
    simp only [List.getElem?_take] at hg2
    rw [if_pos (by omega), if_pos (by omega)] at hg2
    simp only [World.cell?, hg, Nat.zero_add]
    simpa using hg2
set_option maxRecDepth 100000 in
set_option maxHeartbeats 1000000 in
theorem clone_calls (a : Option Addr) (cap : Nat) (l : Rs.S) (w : World) (hrd : RdR w a l) (hnil : a = none → l = [] ∧ cap = 0) (hsp : ∀ ad, a = some ad → ad.spot = none) (hn : l.length ≤ 1000000000000) :
    Calls Tryz.prog 112 #[.slice a l.length cap] w fun e w' => ∃ v, e = .returned v ∧ w'.ownsRow w.heap.size 84 2 v l.length (rFlat l) ∧ Below w.heap.size w w' := by
  cases a with
  | none =>
    obtain ⟨rfl, rfl⟩ := hnil rfl
    have hq := fun wx : World => Lib.run_eql_slice_nil (P := Tryz.prog) wx 24 84 none 0 0 0 0 Tryz.underlying24
    go_enter Tryz.func112, Tryz.ntmps112
    go_wp2
    go_ret
    exact ⟨_, rfl, World.ownsRow_nil _ _ _ _, Below.refl _ _⟩
  | some ad =>
    obtain ⟨b, off, sp⟩ := ad
    obtain rfl : sp = none := hsp _ rfl
    have hq := fun wx : World => Lib.run_eql_slice_nil (P := Tryz.prog) wx 24 84 (some ⟨b, off, none⟩) l.length cap 0 0 Tryz.underlying24
    obtain ⟨i0, hi, hz0, hz1, hz2⟩ := info_parts Tryz.info84
    have HRD := Lib.hid hrd
    clear hrd hnil hsp
    go_enter Tryz.func112, Tryz.ntmps112
    have hown0 : (w.alloc (.cells #[] 84)).ownsRow w.heap.size 84 2 (.slice (some ⟨w.heap.size, 0, none⟩) 0 0) 0 [] :=
      ⟨rfl, .inr ⟨w.heap.size, 0, #[], rfl, Nat.le_refl _, World.alloc_heap_new w _, Nat.le_refl _, Nat.zero_le _, rfl, rfl⟩⟩
    have hnews : ∀ j u, (rFlat l)[j]? = some u → (w.alloc (.cells #[] 84)).cell? ((⟨b, off, none⟩ : Addr).add j) = some u := by
      intro j u hu
      have hlt : j < l.length * 2 := by rw [← rFlat_length]; exact (List.getElem?_eq_some_iff.1 hu).1
      obtain ⟨b', off', e, hb, _⟩ := HRD.out (by intro e; subst e; simp at hlt)
      cases e
      rw [Addr.add_lit, World.cell?_alloc_lt _ _ _ (by exact hb), ← Addr.add_lit]
      exact HRD.out.news j u hu
    go_wp2_with (at_builtin; refine wpList_append_own _ rfl _ _ 24 rfl w.heap.size 84 i0 (.agg #[.int .i64 0, .int .i64 0]) 2 16 Tryz.underlying24 hi hz0 hz1 hz2 rfl (by decide) _ _ _ rfl hown0 ⟨b, off, none⟩ l.length cap (rFlat l) rfl (rFlat_length l) hnews (rFlat_oneCell l) (by unfold maxLen; omega) (by omega) (by simp) ?_; intro v' w1 hown' hgrow _; simp only [Nat.zero_add, List.nil_append] at hown')
    go_ret
    exact ⟨_, rfl, hown', (((Below.refl _ _).alloc (Nat.le_refl _) _).grown hgrow (by simp) (fun k e => by cases e; exact Nat.le_refl _))⟩
open Go.Shelf Go.Lib Go.Sort in
set_option maxHeartbeats 1000000 in
theorem cmp_closure (x y : Rs.R) (W : World) : Calls Tryz.prog 188 #[.agg #[.int .i64 x.1, .int .i64 x.2], .agg #[.int .i64 y.1, .int .i64 y.2]] W fun e w' => e = .returned (.int .i64 (Lib.compareInt x.1 y.1)) ∧ ∃ q os', w' = grow (W.drewN q) os' := by
  have hcon := fun W' => AnyG.cmp_Compare_int Tryz.cmpInt x.1 y.1 W'
  change ∀ W', Calls Tryz.prog 189 _ _ _ at hcon
  generalize Lib.compareInt x.1 y.1 = r at hcon ⊢
  go_enter Tryz.func188, Tryz.ntmps188
  go_wp2_with (go_at_call 189; refine (hcon _).mono ?_; rintro e w' ⟨rfl, rfl⟩)
  go_ret
  exact ⟨rfl, 0, _, by rw [alloc_eq_grow, alloc_eq_grow, grow_grow]; rfl⟩
open Go.Shelf Go.Lib Go.Sort in
theorem ltLo (x y : Rs.R) : ltOf (fun x y : Rs.R => Lib.compareInt x.1 y.1) x y = decide (x.1 < y.1) := by
  unfold ltOf Lib.compareInt
  by_cases h1 : x.1 < y.1
  · simp [h1]
  · by_cases h2 : y.1 < x.1 <;> simp [h1, h2]
open Go.Shelf Go.Lib Go.Sort in
theorem swoLo : SWO (ltOf fun x y : Rs.R => Lib.compareInt x.1 y.1) where
  irrefl x := by rw [ltLo]; simp
  trans x y z h1 h2 := by rw [ltLo] at *; simp at *; omega
  ntrans x y z h1 h2 := by rw [ltLo] at *; simp at *; omega
open Go.Shelf Go.Lib Go.Sort in
theorem flatK_rFlat (l : Rs.S) : flatK rCells 2 l.toArray = (rFlat l).toArray := by
  apply Array.ext
  · simp [rFlat_length]
  · intro i h1 h2
    have h1' : i < l.toArray.size * 2 := by simpa using h1
    have hg := get_flatK rCells 2 l.toArray i h1'
    rw [getElem!_pos _ i h1] at hg
    rw [hg]
    have hu : (rFlat l)[i]? = some ((rFlat l).toArray[i]) := by simp [List.getElem?_eq_getElem (show i < (rFlat l).length by simpa using h2)]
    obtain ⟨r, hr, hv⟩ := rFlat_cell hu
    have hd : l.toArray[i / 2]! = r := by
      have : i / 2 < l.length := (List.getElem?_eq_some_iff.1 hr).1
      rw [getElem!_pos _ _ (by simpa using this)]
      simpa using (List.getElem?_eq_some_iff.1 hr).2
    rw [hd, hv]
    by_cases he : i % 2 = 0
    · rw [if_pos he, he]; rfl
    · rw [if_neg he, show i % 2 = 1 from by omega]; rfl
theorem putCells_take (F : Array Value) (c : Array Value) (h : F.size ≤ c.size) : (Sort.putCells id 0 F c).size = c.size ∧ (Sort.putCells id 0 F c).toList.take F.size = F.toList := by
  refine ⟨by simp [Sort.putCells], ?_⟩
  apply List.ext_getElem?
  intro i
  by_cases hi : i < F.size
  · rw [List.getElem?_take, if_pos hi]
    have hc : i < c.size := by omega
    simp only [Sort.putCells, Array.getElem?_toList, Array.getElem?_mapIdx, Array.getElem?_eq_getElem hc, Option.map_some]
    simp [hi]
  · rw [List.getElem?_take, if_neg hi]
    simp; omega
open Go.Shelf Go.Lib Go.Sort in
set_option maxHeartbeats 1000000 in
/-- slices.SortFunc at ranges, by their Lo: the row then holds the same ranges in order. -/
theorem sort_calls (base : Nat) (v : Value) (l : Rs.S) (w : World) (hown : w.ownsRow base 84 2 v l.length (rFlat l)) (hbase : base ≤ w.heap.size) (hn : l.length < 4611686018427387904) :
    Calls Tryz.prog 187 #[v, .func (.func 188) #[] #[]] w fun e w' => e = .returned (.tuple #[]) ∧
      ∃ d : Rs.S, (∀ x, x ∈ d ↔ x ∈ l) ∧ d.length = l.length ∧ d.Pairwise (fun a b => a.1 ≤ b.1) ∧ w'.ownsRow base 84 2 v l.length (rFlat d) ∧ RowKit.Below base w w' := by
  have hlen := hown.1
  rcases hown.2 with ⟨rfl, h0⟩ | ⟨g, cap, cur, rfl, hb, hg, hc, hm, hs, ht⟩
  · have hl : l = [] := List.eq_nil_of_length_eq_zero h0
    subst hl
    have hcon := AnyF.slices_SortFunc_none Tryz.sortR none 0 (.func (.func 188) #[] #[]) w
    change Calls Tryz.prog 187 _ _ _ at hcon
    refine hcon.mono ?_
    rintro e w' ⟨rfl, rfl⟩
    exact ⟨rfl, [], fun _ => Iff.rfl, rfl, List.Pairwise.nil, hown, RowKit.Below.refl _ _⟩
  · have hlt : g < w.heap.size := (Array.getElem?_eq_some_iff.1 hg).1
    have eg : ∀ args w, (callFunc 188 args).run Tryz.prog w = .ok (.enter 188 args) w := enters_of Tryz.func188 (by kernel_rfl) rfl
    have hcmp : CmpLays Tryz.prog 188 #[] rCells 2 (fun x y : Rs.R => Lib.compareInt x.1 y.1) g 0 l.toArray.size w := fun _ _ _ _ x y => cmp_closure x y _
    have hH : HoldsK rCells 2 w g 0 l.toArray := by
      unfold HoldsK
      rw [flatK_rFlat]
      intro j hj
      have hj' : j < (rFlat l).length := by simpa using hj
      have hjc : j < cur.size := by rw [rFlat_length] at hj'; rw [hs]; omega
      have h1 : cur[j] = (rFlat l)[j] := by
        have : (rFlat l)[j]? = some cur[j] := by rw [← ht, List.getElem?_take, if_pos (by rw [rFlat_length] at hj'; omega)]; simp [hjc]
        exact (Option.some.inj ((List.getElem?_eq_getElem hj').symm.trans this)).symm
      refine ⟨?_, by simp [World.frozen?, hg]⟩
      simp only [World.cell?, hg, Nat.zero_add, Array.getElem?_eq_getElem hjc, h1]
      rw [getElem!_pos _ j (by simpa using hj')]
      simp
    have hcon := AnyQ.slices_SortFunc Tryz.sortR 2 Tryz.isAgg84 Tryz.sizeOf84 rCells (fun _ => rfl) (fun x v hv => by simp [rCells] at hv; rcases hv with rfl | rfl <;> rfl) (fun x y : Rs.R => Lib.compareInt x.1 y.1) swoLo 188 #[] g 0 cap l.toArray w eg hcmp hH hlt (by simpa using hn)
    change Calls Tryz.prog 187 _ _ _ at hcon
    refine hcon.mono ?_
    rintro e w' ⟨rfl, d', n, os, hp, hsort, rfl⟩
    have hsz : d'.size = l.length := by have := hp.1; simpa using this
    have hdl : d'.toList.toArray = d' := by simp
    refine ⟨rfl, d'.toList, fun x => ?_, by simpa using hsz, ?_, ?_, ?_⟩
    · have := hp.2.2
      have e1 : d'.extract 0 l.toArray.size = d' := by rw [show l.toArray.size = d'.size from by simp [hsz]]; simp
      have e2 : l.toArray.extract 0 l.toArray.size = l.toArray := by simp
      rw [e1, e2] at this
      simpa using this.mem_iff (a := x)
    · rw [List.pairwise_iff_getElem]
      intro i j hi hj hij
      have := hsort i j (Nat.zero_le _) hij (by simp at hj; simp [hsz] at hj; simpa using hj)
      rw [ltLo] at this
      rw [getElem!_pos _ i (by simpa using hi), getElem!_pos _ j (by simpa using hj)] at this
      simp at this
      simpa using this
    · have hF : flatK rCells 2 d' = (rFlat d'.toList).toArray := by rw [← flatK_rFlat, hdl]
      have hFs : (flatK rCells 2 d').size = l.length * 2 := by simp [hsz]
      obtain ⟨q1, q2⟩ := putCells_take (flatK rCells 2 d') cur (by rw [hFs, hs]; exact Nat.mul_le_mul_right 2 hc)
      refine ⟨by rw [rFlat_length]; simp [hsz], .inr ⟨g, cap, putCells id 0 (flatK rCells 2 d') cur, rfl, hb, ?_, hc, hm, by rw [q1, hs], by rw [hFs] at q2; rw [q2, hF]⟩⟩
      unfold sortWorldK putRowK
      rw [heap_grow_old _ _ (by simpa [putRow, mapBlock, Sort.ahead] using hlt)]
      simp only [putRow, mapBlock, Sort.ahead, Array.getElem?_modify, if_true, hg, Option.map_some, onCells]
    · refine ⟨rfl, rfl, rfl, ?_, ?_⟩
      · simp [sortWorldK, putRowK, putRow, mapBlock, Sort.ahead, grow]
      · intro k hk
        unfold sortWorldK putRowK
        rw [heap_grow_old _ _ (by simp [putRow, mapBlock, Sort.ahead]; omega)]
        simp only [putRow, mapBlock, Sort.ahead, Array.getElem?_modify]
        rw [if_neg (by omega)]
end Go.Proofs.YtimahlimmblgkaaGreatDoor
namespace Go.Proofs.YtimahlimmblgkaaGreatDoor
open Go.RowKit Go.Shelf
/-- what holds between two rounds of the outer loop: the box of 'out' holds a slice that owns the ranges so far; the marks of the loops over iterators lie as they lay -/
def OfI (B0 : Nat) (w2 : World) (acc : Rs.S) (Ds : List Nat) (W : World) : Prop :=
  (∃ v, Boxed W B0 24 v ∧ W.ownsRow B0 84 2 v acc.length (rFlat acc.reverse) ∧ (acc = [] → v = .slice none 0 0)) ∧ Below B0 w2 W ∧ (∀ D ∈ Ds, B0 ≤ D ∧ W.heap[D]? = some (.deferred (some []))) ∧ Ds.Nodup
/-- .. and within the loop over one range's parts; Bp: the block of that range; B1: where that loop begins -/
def OfJ (B0 : Nat) (w2 : World) (acc : Rs.S) (Ds : List Nat) (Bp B1 : Nat) (pre : List PtR) (W : World) : Prop :=
  (∃ v, Boxed W B0 24 v ∧ W.ownsRow B0 84 2 v ((pre.map (·.1)).foldl Rs.mg acc).length (rFlat ((pre.map (·.1)).foldl Rs.mg acc).reverse) ∧ v.ownBlock ≠ some Bp ∧ ((pre.map (·.1)).foldl Rs.mg acc = [] → v = .slice none 0 0)) ∧ Below B0 w2 W ∧ (∀ D ∈ Ds, B0 ≤ D ∧ D < B1 ∧ W.heap[D]? = some (.deferred (some []))) ∧ Ds.Nodup ∧ ∃ bp, W.heap[Bp]? = some (.cells bp 84 (0, 0)) ∧ bp.size = 2
theorem OfJ_own {B0 : Nat} {w2 : World} {acc : Rs.S} {Ds : List Nat} {Bp B1 : Nat} (hB : B0 ≤ B1) (hw2 : w2.heap.size = B0) (hp1 : Bp < B1) : OwnFrom B1 (OfJ B0 w2 acc Ds Bp B1) := by
  rintro pre X Y row ⟨hv, hb, hm, hd, hp⟩ hg hr
  refine ⟨((holdsRow_own B0 B0 24 84 2 (fun pre : List PtR => ((pre.map (·.1)).foldl Rs.mg acc).length) (fun pre => rFlat ((pre.map (·.1)).foldl Rs.mg acc).reverse) (fun pre v => v.ownBlock ≠ some Bp ∧ ((pre.map (·.1)).foldl Rs.mg acc = [] → v = .slice none 0 0))).from B1) pre X Y row hv hg hr,
    hb.grown hg (by have := hb.size; omega) (fun k e => Nat.le_trans hB (hr k e).1), fun D hD => ?_, hd, ?_⟩
  case refine_2 =>
    obtain ⟨bp, hbp, hz⟩ := hp
    refine ⟨bp, (hg.block Bp (Array.getElem?_eq_some_iff.1 hbp).1 (fun e => ?_)).trans hbp, hz⟩
    have := (hr Bp e.symm).1
    omega
  obtain ⟨h1, h2, h3⟩ := hm D hD
  refine ⟨h1, h2, (hg.block D (Array.getElem?_eq_some_iff.1 h3).1 (fun e => ?_)).trans h3⟩
  have := (hr D e.symm).1
  omega
/-- the world, some draws later -/
abbrev drawnTo (W : World) (m : Nat) : World := { W with drawn := m }
theorem OfJ_append {B0 : Nat} {w2 : World} {acc0 : Rs.S} {Ds : List Nat} {Bp B1 : Nat} {pre : List PtR} {W : World} {acc : Rs.S} {v v' : Value} {w1 : World} {tmp : Obj} {p : PtR} (m : Nat)
    (hBp : Bp ≠ B0) (hsz : B0 ≤ W.heap.size) (hv : Boxed W B0 24 v) (hrow : W.ownsRow B0 84 2 v acc.length (rFlat acc.reverse)) (hne : v.ownBlock ≠ some Bp) (hb : Below B0 w2 W)
    (hm : ∀ D ∈ Ds, B0 ≤ D ∧ D < B1 ∧ W.heap[D]? = some (.deferred (some []))) (hd : Ds.Nodup) (hp : ∃ bp, W.heap[Bp]? = some (.cells bp 84 (0, 0)) ∧ bp.size = 2)
    (hfold : ((pre ++ [p]).map (·.1)).foldl Rs.mg acc0 = p.1 :: acc)
    (hgrow : ((drawnTo W m).alloc tmp).grownBy w1 v.ownBlock) (hown' : w1.ownsRow B0 84 2 v' (acc.length + 1) (rFlat acc.reverse ++ [.int .i64 p.1.1, .int .i64 p.1.2])) (hne' : v'.ownBlock ≠ some Bp) :
    Boxed w1 B0 24 v ∧ KeepsFrom B1 W (w1.setCell ⟨B0, 0, none⟩ v') ∧ KpB Bp W (w1.setCell ⟨B0, 0, none⟩ v') ∧ OfJ B0 w2 acc0 Ds Bp B1 (pre ++ [p]) (w1.setCell ⟨B0, 0, none⟩ v') := by
  have hv0 : Boxed (drawnTo W m) B0 24 v := hv
  obtain ⟨h1, h2, h3, h4, h5⟩ := hv0.appended (by decide) (show (drawnTo W m).ownsRow B0 84 2 v acc.length (rFlat acc.reverse) from hrow) hsz (Nat.le_refl _) hown' hgrow
  have h4' : KeepsOthers W (w1.setCell ⟨B0, 0, none⟩ v') := ⟨h4.size, h4.same⟩
  have h5' : Below B0 W (w1.setCell ⟨B0, 0, none⟩ v') := ⟨h5.os, h5.tape, h5.output, h5.size, h5.block⟩
  obtain ⟨bp, hbp, hz⟩ := hp
  have hlt : Bp < W.heap.size := (Array.getElem?_eq_some_iff.1 hbp).1
  have hkp : KpB Bp W (w1.setCell ⟨B0, 0, none⟩ v') := by
    unfold KpB
    rw [Below.heap_setCell _ _ _ _ (fun e => hBp e), hgrow.block Bp (by simp; omega) (fun e => hne e.symm)]
    exact Below.heap_alloc (drawnTo W m) _ _ hlt
  refine ⟨h1, h4'.from _, hkp, ⟨v', h2, ?_, hne', fun e => ?_⟩, hb.trans h5', fun D hD => ?_, hd, bp, hkp.trans hbp, hz⟩
  · rw [hfold, List.reverse_cons, rFlat_append]; exact h3
  · rw [hfold] at e; cases e
  · obtain ⟨a, b, c⟩ := hm D hD
    exact ⟨a, b, h4'.same D _ c rfl⟩
theorem OfJ_widen {B0 : Nat} {w2 : World} {acc0 : Rs.S} {Ds : List Nat} {Bp B1 : Nat} {pre : List PtR} {W : World} {q : Rs.R} {t : Rs.S} {g cap : Nat} {p : PtR} (m j : Nat) (hj : j = t.length * 2 + 1)
    (hv : Boxed W B0 24 (.slice (some ⟨g, 0, none⟩) (q :: t).length cap)) (hrow : W.ownsRow B0 84 2 (.slice (some ⟨g, 0, none⟩) (q :: t).length cap) (q :: t).length (rFlat (q :: t).reverse)) (hne : g ≠ Bp) (hb : Below B0 w2 W)
    (hm : ∀ D ∈ Ds, B0 ≤ D ∧ D < B1 ∧ W.heap[D]? = some (.deferred (some []))) (hd : Ds.Nodup) (hp : ∃ bp, W.heap[Bp]? = some (.cells bp 84 (0, 0)) ∧ bp.size = 2) (u : Int)
    (hfold : ((pre ++ [p]).map (·.1)).foldl Rs.mg acc0 = (q.1, u) :: t) :
    KeepsFrom B1 W ((drawnTo W m).setCell ⟨g, j, none⟩ (.int .i64 u)) ∧ KpB Bp W ((drawnTo W m).setCell ⟨g, j, none⟩ (.int .i64 u)) ∧ OfJ B0 w2 acc0 Ds Bp B1 (pre ++ [p]) ((drawnTo W m).setCell ⟨g, j, none⟩ (.int .i64 u)) := by
  have hk : KeepsOthers W ((drawnTo W m).setCell ⟨g, j, none⟩ (.int .i64 u)) := by
    have := KeepsOthers.setCell (drawnTo W m) ⟨g, j, none⟩ (.int .i64 u)
    exact ⟨this.size, this.same⟩
  obtain ⟨bp, hbp, hz⟩ := hp
  have hkp : KpB Bp W ((drawnTo W m).setCell ⟨g, j, none⟩ (.int .i64 u)) := by
    unfold KpB
    rw [Below.heap_setCell _ _ _ _ (fun e => hne e.symm)]
  obtain ⟨hbg, hlt, _⟩ := ownsRow_block hrow
  have hgB : g ≠ B0 := by
    intro e
    exact hv.not_row (by decide) hrow (by rw [e]; rfl)
  have hl : (rFlat (q :: t).reverse).length = t.length * 2 + 2 := by rw [rFlat_length]; simp; omega
  have hrow' : (drawnTo W m).ownsRow B0 84 2 (.slice (some ⟨g, 0, none⟩) (q :: t).length cap) (q :: t).length (rFlat (q :: t).reverse) := hrow
  have hset := ownsRow_set hrow' (j := j) (by omega) (.int .i64 u)
  have hfl : (rFlat (q :: t).reverse).set j (.int .i64 u) = rFlat ((q.1, u) :: t).reverse := by
    simp only [List.reverse_cons, rFlat_append]
    rw [List.set_append_right _ _ (by rw [rFlat_length]; simp; omega), rFlat_length]
    simp only [List.length_reverse, hj, Nat.add_sub_cancel_left]
    rfl
  rw [hfl] at hset
  have hvd : Boxed (drawnTo W m) B0 24 (.slice (some ⟨g, 0, none⟩) (q :: t).length cap) := hv
  refine ⟨hk.from _, hkp, ⟨_, (Below.heap_setCell _ _ _ _ (fun e => hgB e.symm)).trans hvd, ?_, ?_, fun e => ?_⟩, ?_, fun D hD => ?_, hd, bp, hkp.trans hbp, hz⟩
  · rw [hfold]; exact hset
  · simp [Value.ownBlock, hne]
  · rw [hfold] at e; cases e
  · have := hb.setCell (p := ⟨g, j, none⟩) hbg (.int .i64 u)
    exact ⟨this.os, this.tape, this.output, this.size, this.block⟩
  · obtain ⟨a, b, c⟩ := hm D hD
    exact ⟨a, b, hk.same D _ c rfl⟩
/-- A return where nothing but the marks of loops over iterators is deferred: each block for deferred calls is shut. -/
theorem leaves_marks {F : Fence} {n : Nat} {P : Program} {fn : Func} {tmps : Array Value} {R : Ending → World → Prop} {B0 : Nat} (Φ : World → Prop)
    (hΦ : ∀ W D, Φ W → B0 ≤ D → W.heap[D]? = some (.deferred (some [])) → Φ (W.putObj D (.deferred none))) (hR : ∀ W, Φ W → LeavesInM F n P fn tmps R [] .returning W) :
    ∀ (Ds : List Nat) (W : World), Φ W → (∀ D ∈ Ds, B0 ≤ D ∧ W.heap[D]? = some (.deferred (some []))) → Ds.Nodup → LeavesInM F n P fn tmps R (Ds.map fun D => { target := .collected D, args := #[] }) .returning W
  | [], W, h, _, _ => hR W h
  | D :: Ds, W, h, hm, hd => by
    obtain ⟨hD, hK⟩ := hm D (List.mem_cons_self ..)
    obtain ⟨hn, hd'⟩ := List.nodup_cons.1 hd
    refine ⟨by simp, .inl ⟨D, _, rfl, run_takeDeferred hK, leaves_marks Φ hΦ hR Ds _ (hΦ W D h hD hK) (fun D' h' => ?_) hd'⟩⟩
    obtain ⟨a, b⟩ := hm D' (List.mem_cons_of_mem _ h')
    exact ⟨a, (World.putObj_heap_other (fun e => hn (by rw [← e]; exact h'))).trans b⟩
end Go.Proofs.YtimahlimmblgkaaGreatDoor
