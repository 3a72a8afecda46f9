/- Chapter 38: what every law's card wants: the listed variables, the arguments opened, the last step. -/
import Derived.Test.YtiooimdncocfdaaGreatDoorKyP
import Derived.Test.YtiooimdncocfdaaGreatDoorRows
import Derived.Test.YtiooimdncocfdaaGreatDoorCards
import Derived.Test.YtiooimdncocfdaaGreatDoorTie
import Derived.LaidLaws
import Derived.Deep.DeepLaidRun
import Derived.PinnedBridge
import Derived.Lib.LaidU8
import Derived.ProofKit
import Derived.OpenShut
import Derived.Below
import Derived.Carry
import Derived.ChangeSame
import Derived.Deep.Slices
import Derived.Deep.Fields
import Derived.Deep.DeepHandedRow
import Derived.Deep.DeepWitnessRowRef
namespace Go.Proofs.YtiooimdncocfdaaGreatDoor.Sk
open Go
/-- the cells that a datum fills -/
def cellsF : Nat → DataW Unit → List Value
  | _, .lit (.int k n) => [.int k n]
  | f + 1, .agg l => l.flatMap (cellsF f)
  | _, _ => []
def cellsOfData (d : DataW Unit) : List Value := cellsF 5 d
def putCells (cs : Array Value) : Obj → Obj
  | .cells _ t fz => .cells cs t fz
  | o => o
noncomputable def laidWorld (os : Os) : World :=
  let w0 := World.holding Tryz.prog os ⟨#[], #[], []⟩
  { w0 with heap := (((((w0.heap.modify 3 (putCells (cellsOfData Rows.laid_internal_strconv_uint64pow10).toArray)).modify
      7 (putCells (cellsOfData Rows.laid_unicode_utf8_first).toArray)).modify
      8 (putCells (cellsOfData Rows.laid_unicode_utf8_acceptRanges).toArray)).modify
      9 (putCells (cellsOfData Rows.laid_math_bits_deBruijn32tab).toArray)).modify
      10 (putCells (cellsOfData Rows.laid_math_bits_deBruijn64tab).toArray)) }
def laid5 : List (String × DataW Unit) := [("math/bits.deBruijn32tab", Rows.laid_math_bits_deBruijn32tab), ("math/bits.deBruijn64tab", Rows.laid_math_bits_deBruijn64tab), ("internal/strconv.uint64pow10", Rows.laid_internal_strconv_uint64pow10), ("unicode/utf8.acceptRanges", Rows.laid_unicode_utf8_acceptRanges), ("unicode/utf8.first", Rows.laid_unicode_utf8_first)]
set_option maxRecDepth 100000 in
theorem laid_met (os : Os) (args : Array Value) : laidMet Tryz.prog laid5 ((laidWorld os).forCall (fun _ _ => 0) ⟨#[], args, []⟩).memory :=
  laidMet_of_run' 10 (by kernel_rfl) (by kernel_rfl)
end Go.Proofs.YtiooimdncocfdaaGreatDoor.Sk
namespace Go.Proofs.YtiooimdncocfdaaGreatDoor.Sk
open Go Go.Lib
theorem nBru : Tryz.prog.globalNamed "math/bits.deBruijn64tab" = some 10 := by kernel_rfl
theorem tyBru : (Tryz.prog.globals[10]?).map (·.type) = some 361 := by kernel_rfl
theorem uBru : Tryz.prog.underlying 361 = some (.array 64 5) := by kernel_rfl
theorem uU8 : Tryz.prog.underlying 5 = some (.int .u8) := by kernel_rfl
theorem cU8 : Tryz.prog.cellsOf 5 = 1 := by kernel_rfl
theorem cBru : Tryz.prog.cellsOf 361 = 64 := by kernel_rfl
theorem nPow : Tryz.prog.globalNamed "internal/strconv.uint64pow10" = some 3 := by kernel_rfl
theorem tyPow : (Tryz.prog.globals[3]?).map (·.type) = some 328 := by kernel_rfl
theorem uPow : Tryz.prog.underlying 328 = some (.array 20 57) := by kernel_rfl
theorem uU64 : Tryz.prog.underlying 57 = some (.int .u64) := by kernel_rfl
theorem cU64 : Tryz.prog.cellsOf 57 = 1 := by kernel_rfl
theorem cPow : Tryz.prog.cellsOf 328 = 20 := by kernel_rfl
theorem bru_tab : (Rows.laid_math_bits_deBruijn64tab : DataW Unit) = Lib.tabData .u8 [0, 1, 56, 2, 57, 49, 28, 3, 61, 58, 42, 50, 38, 29, 17, 4, 62, 47, 59, 36, 45, 43, 51, 22, 53, 39, 33, 30, 24, 18, 12, 5, 63, 55, 48, 27, 60, 41, 37, 16, 46, 35, 44, 21, 52, 32, 23, 11, 54, 26, 40, 15, 34, 20, 31, 10, 25, 14, 19, 9, 13, 8, 7, 6] := by kernel_rfl

theorem pow_tab : (Rows.laid_internal_strconv_uint64pow10 : DataW Unit) = Lib.tabData .u64 Lib.pow10Tab := by kernel_rfl
theorem cell_below {W : World} {g o : Nat} {v : Value} (h : W.cell? ⟨g, o, none⟩ = some v) : g < W.heap.size := by
  unfold World.cell? at h
  rcases Nat.lt_or_ge g W.heap.size with h' | h'
  · exact h'
  · simp [Array.getElem?_eq_none h'] at h
theorem bru_of_reads {W : World} (h : VarReads Tryz.prog W "math/bits.deBruijn64tab" Rows.laid_math_bits_deBruijn64tab) : W.cell? ⟨10, 15, none⟩ = some (.int .u8 4) := by
  obtain ⟨g', t', cs, fuel, p, hg, hty, hv, hd⟩ := h
  obtain rfl := Option.some.inj (nBru.symm.trans hg)
  obtain rfl := Option.some.inj (tyBru.symm.trans hty)
  rw [bru_tab] at hd
  have hcs := cells_of_tab uBru uU8 cU8 cBru hd
  rw [World.var?_cell nBru hv 15, ← Array.getElem?_toList, hcs]
  rfl
theorem pow_of_reads {W : World} (h : VarReads Tryz.prog W "internal/strconv.uint64pow10" Rows.laid_internal_strconv_uint64pow10) : Lib.TabIs Tryz.prog W "internal/strconv.uint64pow10" .u64 Lib.pow10Tab := by
  obtain ⟨g', t', cs, fuel, p, hg, hty, hv, hd⟩ := h
  obtain rfl := Option.some.inj (nPow.symm.trans hg)
  obtain rfl := Option.some.inj (tyPow.symm.trans hty)
  rw [pow_tab] at hd
  unfold Lib.TabIs
  rw [hv, ← cells_of_tab uPow uU64 cU64 cPow hd]
theorem ev_of {W : World} (h : laidMet Tryz.prog laid5 W) (hs : W.ShapedOpen Tryz.prog) : Ev W := by
  have hb := bru_of_reads (laidMet.reads h (.tail _ (.head _)))
  have hp := pow_of_reads (laidMet.reads h (.tail _ (.tail _ (.head _))))
  obtain ⟨m, hm⟩ := Tryz.laysM145.s1_3 W hs
  exact ⟨⟨cell_below hb, hb⟩, ⟨cell_below hm, m, hm⟩, hp⟩
end Go.Proofs.YtiooimdncocfdaaGreatDoor.Sk
namespace Go.Proofs.YtiooimdncocfdaaGreatDoor.Sk
open Go.ChangeShapes Go.WideShapes Go.ChangeAt Go.RowKit Go.Deep
theorem ownKnob0 : ownKnob Tryz.prog.godebug = none := by kernel_rfl
theorem laidOut0 : laidOutB Tryz.prog = true := by kernel_rfl
theorem cells4 : Tryz.prog.cellsOf 50 = 4 := by kernel_rfl
section
variable {H : Type} {enc : TypeId × Value → H} {P : Program} {w : World} {base : Nat} {spare : Nat → Bool} {held : Bool}
/-- A slice of structs of one-cell fields, opened at every element and every field. -/
theorem open_fields {t e : TypeId} {fs : Array Field} {fuel : Nat} {cs : List Value} {x : DataW H × List MemPlace} (ht : P.underlying t = some (.slice e)) (he : P.underlying e = some (.struct fs))
    (hone : oneCellFields P fs = true) (hC : P.cellsOf e = fs.size) (h : DataW.trod enc P w base spare held fuel t cs = some x) :
    cs = [.slice none 0 0] ∨
    ∃ (a : Addr) (len cap m : Nat), cs = [.slice (some a) len cap] ∧ len ≤ cap ∧ cap ≤ maxLen ∧ m = (if spare a.block then cap else len) ∧
      ∀ i, i < m → ∀ (j : Nat) (f : Field), fs[j]? = some f → ∃ (v : Value) (y : DataW H × List MemPlace) (n : Nat), w.cell? (a.add (i * fs.size + j)) = some v ∧ DataW.trod enc P w base spare held n f.type [v] = some y := by
  rcases open_slice ht h with ⟨h0, _⟩ | ⟨a, len, cap, m, n, D, Pl, hcs, hb, hl, hm, hmm, hx, hi⟩
  · exact .inl h0
  · refine .inr ⟨a, len, cap, m, hcs, hl, hm, hmm, fun i him j f hj => ?_⟩
    obtain ⟨cs', hc, ht'⟩ := hi i him
    rw [hC] at hc
    obtain ⟨ys, n', hn', hy, hlen, hyl, hf⟩ := DataW.trod_struct he ht'
    obtain ⟨_, hcl, hat⟩ := World.cells?_some hc
    obtain ⟨ho, hk⟩ := hone_of hone j f hj
    have hjl : j < fs.size := (Array.getElem?_eq_some_iff.1 hj).1
    have hcell := hat j hjl
    have hv : cs'[j]? = some (cs'[j]'(by omega)) := List.getElem?_eq_getElem (by omega)
    have h1 := hf j f hj
    rw [ho, hk] at h1
    have hone' : (cs'.drop j).take 1 = [cs'[j]'(by omega)] := by
      rw [List.drop_eq_getElem_cons (by omega)]
      rfl
    rw [hone'] at h1
    have hys : ys[j]? = some (ys[j]'(by omega)) := List.getElem?_eq_getElem (by omega)
    refine ⟨_, _, n', ?_, h1.trans hys⟩
    rw [← Go.Deep.add_add, hcell, hv]
end

/-- The last step of a law that returns true and changes nothing that was there. -/
theorem post_true {H : Type} {enc : TypeId × Value → H} {P : Program} {f : Func} {s : ChangeSpec} {t : TypeId} {W W' : World} {args : Array Value} {ds gs : List (DataW H)} {before : List MemPlace}
    (hW : DataW.Whole enc P f.params.toList s.vars false W args.toList ds gs before) (hr : f.resultTypes = #[t]) (ht : P.underlying t = some .bool) (hs : s.vars = [])
    (hfn : s.fn H (ds ++ gs) = { results := [.lit (.bool true)], args := ds }) (hA : DataW.TrodAll enc P W' 0 (fun b => decide (b < W.heap.size)) true f.params.toList args.toList ds before)
    (hb : Below W.heap.size W W') : s.post enc P f false true false false W args (.bool true) W' := by
  refine ⟨ds, gs, before, [], before, [], hW, ?_, ?_, ?_, World.keptBut_mono (fun p hp => ⟨hp, .inr (.inl hp)⟩) (hb.frame (· ∈ before)), fun h => by cases h⟩
  · rw [hfn, hr]
    exact trodAll_cons_mk (shut_bool ht _) trodAll_mk0
  · rw [hfn]
    exact hA
  · rw [hfn, hs]
    rfl

theorem small_fields : ∃ f0 f1 f2 f3 : Field, Tryz.prog.underlying 50 = some (.struct #[f0, f1, f2, f3]) ∧ f0.type = 5 ∧ f1.type = 5 ∧ f2.type = 5 ∧ f3.type = 5 ∧ oneCellFields Tryz.prog #[f0, f1, f2, f3] = true :=
  ⟨_, _, _, _, Tryz.underlying50, rfl, rfl, rfl, rfl, by kernel_rfl⟩
theorem add_at (b off k : Nat) : (⟨b, off, none⟩ : Addr).add k = ⟨b, off + k, none⟩ := by
  unfold Addr.add
  by_cases h : k = 0 <;> simp [h]
theorem fits_u8 (z : Int) : (Lit.int .u8 z).wf = true ↔ 0 ≤ z ∧ z ≤ 255 := by
  simp only [Lit.wf, Bool.and_eq_true, decide_eq_true_eq]
  exact Iff.rfl
theorem RdF.take {w : World} {a : Option Addr} {xs : List Value} (h : RdF w a xs) (n : Nat) : RdF w a (xs.take n) := by
  intro hx
  obtain ⟨b, off, e, hl, hc⟩ := h (by intro e; subst e; simp at hx)
  refine ⟨b, off, e, hl, fun j u hu => hc j u ?_⟩
  rw [List.getElem?_take] at hu
  split at hu
  · exact hu
  · cases hu
theorem sFlat_take (l : List Sm) (n : Nat) : sFlat (l.take n) = (sFlat l).take (n * 4) := by
  induction n generalizing l with
  | zero => simp [sFlat]
  | succ n ih =>
    cases l with
    | nil => simp [sFlat]
    | cons x r =>
      rw [List.take_succ_cons, show (n + 1) * 4 = 4 + n * 4 by omega]
      show smB x ++ sFlat (r.take n) = (smB x ++ sFlat r).take (4 + n * 4)
      have h7 : (smB x).length = 4 := rfl
      rw [List.take_append, List.take_of_length_le (l := smB x) (by omega), show 4 + n * 4 - (smB x).length = n * 4 by omega, ih r]
set_option maxRecDepth 100000 in
theorem open_small {H : Type} {enc : TypeId × Value → H} {W : World} {base : Nat} {v : Value} {d : DataW H} {ps : List MemPlace} (hval : Value.okWide Tryz.prog W .any base 47 v)
    (h : DataW.Trod enc Tryz.prog W 0 (fun _ => true) true 47 v d ps) : ∃ a cap l, v = .slice a (List.length l) cap ∧ RdF W a (sFlat l) ∧ (a = none → l = [] ∧ cap = 0) ∧ (∀ x ∈ l, SmOk x) ∧ l.length ≤ cap ∧ cap ≤ maxLen := by
  obtain ⟨a, len, cap, rfl⟩ := okWide_slice Tryz.underlying47 hval
  obtain ⟨fuel, hf⟩ := h
  obtain ⟨f0, f1, f2, f3, hu, t0, t1, t2, t3, hone⟩ := small_fields
  rcases open_fields Tryz.underlying47 hu hone cells4 hf with hcs | ⟨a', len', cap', m, hcs, hl, hm, hmm, hall⟩
  · have hcs : [Value.slice a len cap] = [.slice none 0 0] := hcs
    cases hcs
    exact ⟨none, 0, [], rfl, fun h => absurd rfl h, fun _ => ⟨rfl, rfl⟩, (fun x hx => by cases hx), Nat.le_refl _, Nat.zero_le _⟩
  · have hcs : [Value.slice a len cap] = [.slice (some a') len' cap'] := hcs
    cases hcs
    simp only [if_true] at hmm
    subst hmm
    have hint : ∀ i, i < len → ∀ j f, (#[f0, f1, f2, f3] : Array Field)[j]? = some f → f.type = 5 → ∃ z : Int, W.cell? (a'.add (i * 4 + j)) = some (.int .u8 z) ∧ 0 ≤ z ∧ z ≤ 255 := by
      intro i hi j f hj ht
      obtain ⟨v, y, n, hc, hy⟩ := hall i (by omega) j f hj
      rw [ht] at hy
      obtain ⟨z, e, _, hw⟩ := DataW.trod_int Tryz.underlying5 hy
      simp only [List.cons.injEq, and_true] at e
      subst e
      have := (fits_u8 z).1 hw
      exact ⟨z, hc, by omega, by omega⟩
    have h3 : ∀ i, i < len → ∃ r : Sm, W.cell? (a'.add (i * 4)) = some (.int .u8 r.key) ∧ W.cell? (a'.add (i * 4 + 1)) = some (.int .u8 r.ser) ∧ W.cell? (a'.add (i * 4 + 2)) = some (.int .u8 r.kind) ∧ W.cell? (a'.add (i * 4 + 3)) = some (.int .u8 r.more) ∧ SmOk r := by
      intro i hi
      obtain ⟨x, hx, x1, x2⟩ := hint i hi 0 f0 rfl t0
      obtain ⟨y, hy, y1, y2⟩ := hint i hi 1 f1 rfl t1
      obtain ⟨z, hz, z1, z2⟩ := hint i hi 2 f2 rfl t2
      obtain ⟨u, hu, u1, u2⟩ := hint i hi 3 f3 rfl t3
      exact ⟨⟨x, y, z, u⟩, hx, hy, hz, hu, ⟨x1, x2, y1, y2, z1, z2, u1, u2⟩⟩
    haveI : Inhabited Sm := ⟨zeroSm⟩
    obtain ⟨g, hg⟩ := choose_lt h3
    obtain ⟨b, off, spot⟩ := a'
    refine ⟨some ⟨b, off, spot⟩, m, (List.range len).map g, by simp, fun hne => ?_, (fun e => by cases e), fun x hx => ?_, by simpa using hl, hm⟩
    · have h0 : 0 < len := by
        rcases Nat.eq_zero_or_pos len with e | e
        · subst e; exact absurd rfl hne
        · exact e
      have hspot : spot = none := by simpa [Addr.add] using World.cell?_spot (hg 0 h0).1
      subst hspot
      refine ⟨b, off, rfl, cell_below (g := b) (o := off) (by simpa [Addr.add] using (hg 0 h0).1), fun j u hu => ?_⟩
      have hj := (List.getElem?_eq_some_iff.1 hu).1
      rw [sFlat_length, List.length_map, List.length_range] at hj
      have hm4 := Nat.mod_lt j (show 4 > 0 by decide)
      have hi : j / 4 < len := by omega
      obtain ⟨c0, c1, c2, c3, _⟩ := hg (j / 4) hi
      rw [add_at] at c0 c1 c2 c3
      have hgx : ((List.range len).map g)[j / 4]? = some (g (j / 4)) := by rw [List.getElem?_map, List.getElem?_range hi]; rfl
      have hat := fun v hv => (flat_at smB 4 (fun _ => rfl) (j := j % 4) (v := v) hgx hv)
      rw [show j / 4 * 4 + j % 4 = j by omega] at hat
      have hsel : ∀ v, (smB (g (j / 4)))[j % 4]? = some v → v = u := fun v hv => Option.some.inj ((hat v hv).symm.trans hu)
      rcases (show j % 4 = 0 ∨ j % 4 = 1 ∨ j % 4 = 2 ∨ j % 4 = 3 by omega) with e | e | e | e
      · have := hsel (.int .u8 (g (j / 4)).key) (by rw [e]; rfl)
        subst this
        rw [show off + j = off + j / 4 * 4 by omega]; exact c0
      · have := hsel (.int .u8 (g (j / 4)).ser) (by rw [e]; rfl)
        subst this
        rw [show off + j = off + (j / 4 * 4 + 1) by omega]; exact c1
      · have := hsel (.int .u8 (g (j / 4)).kind) (by rw [e]; rfl)
        subst this
        rw [show off + j = off + (j / 4 * 4 + 2) by omega]; exact c2
      · have := hsel (.int .u8 (g (j / 4)).more) (by rw [e]; rfl)
        subst this
        rw [show off + j = off + (j / 4 * 4 + 3) by omega]; exact c3
    · obtain ⟨i, hi, rfl⟩ := List.mem_map.1 hx
      exact (hg i (List.mem_range.1 hi)).2.2.2.2
theorem trodAll_below {H : Type} {enc : TypeId × Value → H} {P : Program} (hl : laidOutB P = true) {W W' : World} (hb : Below W.heap.size W W') :
    ∀ (ts : List TypeId) (vs : List Value) (ds : List (DataW H)) (ps : List MemPlace), ts.all (fun t => P.readableRec t && decide (t < P.types.size)) = true → DataW.TrodAll enc P W 0 (fun _ => true) true ts vs ds ps → (∀ x ∈ ps, x.block < W.heap.size) →
      DataW.TrodAll enc P W' 0 (fun b => decide (b < W.heap.size)) true ts vs ds ps
  | [], vs, ds, ps, _, h, _ => by
    obtain ⟨rfl, rfl, rfl⟩ := trodAll_nil h
    exact trodAll_mk0
  | t :: ts, vs, ds, ps, hts, h, hlt => by
    obtain ⟨v, vs, d, ds, p, q, rfl, rfl, rfl, hd, hr⟩ := trodAll_cons h
    simp only [List.all_cons, Bool.and_eq_true, decide_eq_true_eq] at hts
    exact trodAll_cons_mk (Below.trod hl hts.1.1 hts.1.2 hd hb (fun x hx => hlt x (List.mem_append_left _ hx)))
      (trodAll_below hl hb ts vs ds q hts.2 hr (fun x hx => hlt x (List.mem_append_right _ hx)))

theorem law_true {H : Type} {enc : TypeId × Value → H} {P : Program} (hl : laidOutB P = true) {f : Func} {s : ChangeSpec} {t : TypeId} {W W' : World} {args : Array Value} {ds gs : List (DataW H)} {before : List MemPlace}
    (hW : DataW.Whole enc P f.params.toList s.vars false W args.toList ds gs before) (hts : f.params.toList.all (fun t => P.readableRec t && decide (t < P.types.size)) = true) (hs : s.vars = []) (hr : f.resultTypes = #[t]) (ht : P.underlying t = some .bool)
    (hfn : s.fn H (ds ++ gs) = { results := [.lit (.bool true)], args := ds }) (hb : Below W.heap.size W W') : s.post enc P f false true false false W args (.bool true) W' := by
  have hlt : ∀ x ∈ before, x.block < W.heap.size := fun x hx => by simpa using hW.lt x hx
  obtain ⟨p, q, hA, hV, hpq, hfz, hnd⟩ := id hW
  have hA : DataW.TrodAll enc P W 0 (fun _ => true) true f.params.toList args.toList ds p := hA
  have hV : DataW.TrodVars enc P W (fun _ => true) s.vars gs q := hV
  rw [hs] at hV
  obtain ⟨rfl, rfl⟩ := trodVars_none hV
  rw [List.append_nil] at hpq
  subst hpq
  exact post_true hW hr ht hs hfn (trodAll_below hl hb _ _ _ _ hts hA hlt) hb

theorem wf_u8 {z : Int} (h : (Lit.int .u8 z).wf = true) : 0 ≤ z ∧ z ≤ 255 := by
  simp only [Lit.wf, Bool.and_eq_true, decide_eq_true_eq] at h
  exact h
theorem wf_u32 {z : Int} (h : (Lit.int .u32 z).wf = true) : 0 ≤ z ∧ z ≤ 4294967295 := by
  simp only [Lit.wf, Bool.and_eq_true, decide_eq_true_eq] at h
  exact h
theorem wf_int {z : Int} (h : (Lit.int .i64 z).wf = true) : -9223372036854775808 ≤ z ∧ z ≤ 9223372036854775807 := by
  simp only [Lit.wf, Bool.and_eq_true, decide_eq_true_eq] at h
  exact h

end Go.Proofs.YtiooimdncocfdaaGreatDoor.Sk
