/- Several parts in one text: KzG, KzJ, KzT, KTtC. -/
import Derived.Test.YtggfehppompcjaaGreatDoorKtB
import Derived.Test.YtggfehppompcjaaGreatDoorRows
import Derived.Test.YtggfehppompcjaaGreatDoorCards
import Derived.Test.YtggfehppompcjaaGreatDoorTie
import Derived.LaidLaws
import Derived.Deep.DeepLaidRun
import Derived.PinnedBridge
import Derived.Lib.LaidU8
import Derived.ProofKit
import Derived.OpenShut
import Derived.Below
import Derived.Carry
import Derived.ChangeSame
import Derived.Deep.Slices
import Derived.Deep.Fields
import Derived.Deep.DeepHandedRow
import Derived.Deep.DeepWitnessRowRef
import Derived.Test.YtggfehppompcjaaGreatDoorKJc
import Derived.Test.YtggfehppompcjaaGreatDoorKTq
import Derived.Test.YtggfehppompcjaaGreatDoorKTt
/- Chapter 38: what every card wants, whatever its law reads: listed variables, the last step. -/
namespace Go.Proofs.YtggfehppompcjaaGreatDoor.Sk
open Go
/-- the cells that a datum fills -/
def cellsF : Nat → DataW Unit → List Value
  | _, .lit (.int k n) => [.int k n]
  | f + 1, .agg l => l.flatMap (cellsF f)
  | _, _ => []
def cellsOfData (d : DataW Unit) : List Value := cellsF 5 d
def putCells (cs : Array Value) : Obj → Obj
  | .cells _ t fz => .cells cs t fz
  | o => o
end Go.Proofs.YtggfehppompcjaaGreatDoor.Sk
namespace Go.Proofs.YtggfehppompcjaaGreatDoor.Sk
open Go Go.Lib
theorem nBru : Tryz.prog.globalNamed "math/bits.deBruijn64tab" = some 8 := by kernel_rfl
theorem tyBru : (Tryz.prog.globals[8]?).map (·.type) = some 275 := by kernel_rfl
theorem uBru : Tryz.prog.underlying 275 = some (.array 64 5) := by kernel_rfl
theorem uU8 : Tryz.prog.underlying 5 = some (.int .u8) := by kernel_rfl
theorem cU8 : Tryz.prog.cellsOf 5 = 1 := by kernel_rfl
theorem cBru : Tryz.prog.cellsOf 275 = 64 := by kernel_rfl
theorem nPow : Tryz.prog.globalNamed "internal/strconv.uint64pow10" = some 1 := by kernel_rfl
theorem tyPow : (Tryz.prog.globals[1]?).map (·.type) = some 230 := by kernel_rfl
theorem uPow : Tryz.prog.underlying 230 = some (.array 20 36) := by kernel_rfl
theorem uU64 : Tryz.prog.underlying 36 = some (.int .u64) := by kernel_rfl
theorem cU64 : Tryz.prog.cellsOf 36 = 1 := by kernel_rfl
theorem cPow : Tryz.prog.cellsOf 230 = 20 := by kernel_rfl
theorem bru_tab : (Rows.laid_math_bits_deBruijn64tab : DataW Unit) = Lib.tabData .u8 [0, 1, 56, 2, 57, 49, 28, 3, 61, 58, 42, 50, 38, 29, 17, 4, 62, 47, 59, 36, 45, 43, 51, 22, 53, 39, 33, 30, 24, 18, 12, 5, 63, 55, 48, 27, 60, 41, 37, 16, 46, 35, 44, 21, 52, 32, 23, 11, 54, 26, 40, 15, 34, 20, 31, 10, 25, 14, 19, 9, 13, 8, 7, 6] := by kernel_rfl

theorem pow_tab : (Rows.laid_internal_strconv_uint64pow10 : DataW Unit) = Lib.tabData .u64 Lib.pow10Tab := by kernel_rfl
theorem cell_below {W : World} {g o : Nat} {v : Value} (h : W.cell? ⟨g, o, none⟩ = some v) : g < W.heap.size := by
  unfold World.cell? at h
  rcases Nat.lt_or_ge g W.heap.size with h' | h'
  · exact h'
  · simp [Array.getElem?_eq_none h'] at h
theorem bru_of_reads {W : World} (h : VarReads Tryz.prog W "math/bits.deBruijn64tab" Rows.laid_math_bits_deBruijn64tab) : W.cell? ⟨8, 15, none⟩ = some (.int .u8 4) := by
  obtain ⟨g', t', cs, fuel, p, hg, hty, hv, hd⟩ := h
  obtain rfl := Option.some.inj (nBru.symm.trans hg)
  obtain rfl := Option.some.inj (tyBru.symm.trans hty)
  rw [bru_tab] at hd
  have hcs := cells_of_tab uBru uU8 cU8 cBru hd
  rw [World.var?_cell nBru hv 15, ← Array.getElem?_toList, hcs]
  rfl
theorem pow_of_reads {W : World} (h : VarReads Tryz.prog W "internal/strconv.uint64pow10" Rows.laid_internal_strconv_uint64pow10) : Lib.TabIs Tryz.prog W "internal/strconv.uint64pow10" .u64 Lib.pow10Tab := by
  obtain ⟨g', t', cs, fuel, p, hg, hty, hv, hd⟩ := h
  obtain rfl := Option.some.inj (nPow.symm.trans hg)
  obtain rfl := Option.some.inj (tyPow.symm.trans hty)
  rw [pow_tab] at hd
  unfold Lib.TabIs
  rw [hv, ← cells_of_tab uPow uU64 cU64 cPow hd]
theorem maxlen_cell {W : World} (hs : W.ShapedOpen Tryz.prog) : ∃ m, W.cell? ⟨4, 0, none⟩ = some (.int .i64 m) :=
  Go.Proofs.cell_of_shapedOpen_int (zero := #[.int .i64 0]) (t := 3) hs (of_decide_eq_true (by kernel_rfl)) (by kernel_rfl) rfl (by kernel_rfl) (by kernel_rfl) Tryz.underlying3
theorem ev_of_reads {W : World} (hb : VarReads Tryz.prog W "math/bits.deBruijn64tab" Rows.laid_math_bits_deBruijn64tab) (hp : VarReads Tryz.prog W "internal/strconv.uint64pow10" Rows.laid_internal_strconv_uint64pow10) (hs : W.ShapedOpen Tryz.prog) : Ev W := by
  have hb := bru_of_reads hb
  have hp := pow_of_reads hp
  obtain ⟨m, hm⟩ := maxlen_cell hs
  exact ⟨⟨cell_below hb, hb⟩, ⟨cell_below hm, m, hm⟩, hp⟩
end Go.Proofs.YtggfehppompcjaaGreatDoor.Sk
namespace Go.Proofs.YtggfehppompcjaaGreatDoor.Sk
open Go.ChangeShapes Go.WideShapes Go.ChangeAt Go.RowKit Go.Deep
theorem ownKnob0 : ownKnob Tryz.prog.godebug = none := by kernel_rfl
theorem laidOut0 : laidOutB Tryz.prog = true := by kernel_rfl
section
variable {H : Type} {enc : TypeId × Value → H} {P : Program} {w : World} {base : Nat} {spare : Nat → Bool} {held : Bool}
/-- A slice of structs of one-cell fields, opened at every element and every field. -/
theorem open_fields {t e : TypeId} {fs : Array Field} {fuel : Nat} {cs : List Value} {x : DataW H × List MemPlace} (ht : P.underlying t = some (.slice e)) (he : P.underlying e = some (.struct fs))
    (hone : oneCellFields P fs = true) (hC : P.cellsOf e = fs.size) (h : DataW.trod enc P w base spare held fuel t cs = some x) :
    cs = [.slice none 0 0] ∨
    ∃ (a : Addr) (len cap m : Nat), cs = [.slice (some a) len cap] ∧ len ≤ cap ∧ cap ≤ maxLen ∧ m = (if spare a.block then cap else len) ∧
      ∀ i, i < m → ∀ (j : Nat) (f : Field), fs[j]? = some f → ∃ (v : Value) (y : DataW H × List MemPlace) (n : Nat), w.cell? (a.add (i * fs.size + j)) = some v ∧ DataW.trod enc P w base spare held n f.type [v] = some y := by
  rcases open_slice ht h with ⟨h0, _⟩ | ⟨a, len, cap, m, n, D, Pl, hcs, hb, hl, hm, hmm, hx, hi⟩
  · exact .inl h0
  · refine .inr ⟨a, len, cap, m, hcs, hl, hm, hmm, fun i him j f hj => ?_⟩
    obtain ⟨cs', hc, ht'⟩ := hi i him
    rw [hC] at hc
    obtain ⟨ys, n', hn', hy, hlen, hyl, hf⟩ := DataW.trod_struct he ht'
    obtain ⟨_, hcl, hat⟩ := World.cells?_some hc
    obtain ⟨ho, hk⟩ := hone_of hone j f hj
    have hjl : j < fs.size := (Array.getElem?_eq_some_iff.1 hj).1
    have hcell := hat j hjl
    have hv : cs'[j]? = some (cs'[j]'(by omega)) := List.getElem?_eq_getElem (by omega)
    have h1 := hf j f hj
    rw [ho, hk] at h1
    have hone' : (cs'.drop j).take 1 = [cs'[j]'(by omega)] := by
      rw [List.drop_eq_getElem_cons (by omega)]
      rfl
    rw [hone'] at h1
    have hys : ys[j]? = some (ys[j]'(by omega)) := List.getElem?_eq_getElem (by omega)
    refine ⟨_, _, n', ?_, h1.trans hys⟩
    rw [← Go.Deep.add_add, hcell, hv]
end

/-- The last step of a law that returns true and changes nothing that was there. -/
theorem post_true {H : Type} {enc : TypeId × Value → H} {P : Program} {f : Func} {s : ChangeSpec} {t : TypeId} {W W' : World} {args : Array Value} {ds gs : List (DataW H)} {before : List MemPlace}
    (hW : DataW.Whole enc P f.params.toList s.vars false W args.toList ds gs before) (hr : f.resultTypes = #[t]) (ht : P.underlying t = some .bool) (hs : s.vars = [])
    (hfn : s.fn H (ds ++ gs) = { results := [.lit (.bool true)], args := ds }) (hA : DataW.TrodAll enc P W' 0 (fun b => decide (b < W.heap.size)) true f.params.toList args.toList ds before)
    (hb : Below W.heap.size W W') : s.post enc P f false true false false W args (.bool true) W' := by
  refine ⟨ds, gs, before, [], before, [], hW, ?_, ?_, ?_, World.keptBut_mono (fun p hp => ⟨hp, .inr (.inl hp)⟩) (hb.frame (· ∈ before)), fun h => by cases h⟩
  · rw [hfn, hr]
    exact trodAll_cons_mk (shut_bool ht _) trodAll_mk0
  · rw [hfn]
    exact hA
  · rw [hfn, hs]
    rfl

theorem add_at (b off k : Nat) : (⟨b, off, none⟩ : Addr).add k = ⟨b, off + k, none⟩ := by
  unfold Addr.add
  by_cases h : k = 0 <;> simp [h]
theorem fits_u8 (z : Int) : (Lit.int .u8 z).wf = true ↔ 0 ≤ z ∧ z ≤ 255 := by
  simp only [Lit.wf, Bool.and_eq_true, decide_eq_true_eq]
  exact Iff.rfl
theorem trodAll_below {H : Type} {enc : TypeId × Value → H} {P : Program} (hl : laidOutB P = true) {W W' : World} (hb : Below W.heap.size W W') :
    ∀ (ts : List TypeId) (vs : List Value) (ds : List (DataW H)) (ps : List MemPlace), ts.all (fun t => P.readableRec t && decide (t < P.types.size)) = true → DataW.TrodAll enc P W 0 (fun _ => true) true ts vs ds ps → (∀ x ∈ ps, x.block < W.heap.size) →
      DataW.TrodAll enc P W' 0 (fun b => decide (b < W.heap.size)) true ts vs ds ps
  | [], vs, ds, ps, _, h, _ => by
    obtain ⟨rfl, rfl, rfl⟩ := trodAll_nil h
    exact trodAll_mk0
  | t :: ts, vs, ds, ps, hts, h, hlt => by
    obtain ⟨v, vs, d, ds, p, q, rfl, rfl, rfl, hd, hr⟩ := trodAll_cons h
    simp only [List.all_cons, Bool.and_eq_true, decide_eq_true_eq] at hts
    exact trodAll_cons_mk (Below.trod hl hts.1.1 hts.1.2 hd hb (fun x hx => hlt x (List.mem_append_left _ hx)))
      (trodAll_below hl hb ts vs ds q hts.2 hr (fun x hx => hlt x (List.mem_append_right _ hx)))

theorem law_true {H : Type} {enc : TypeId × Value → H} {P : Program} (hl : laidOutB P = true) {f : Func} {s : ChangeSpec} {t : TypeId} {W W' : World} {args : Array Value} {ds gs : List (DataW H)} {before : List MemPlace}
    (hW : DataW.Whole enc P f.params.toList s.vars false W args.toList ds gs before) (hts : f.params.toList.all (fun t => P.readableRec t && decide (t < P.types.size)) = true) (hs : s.vars = []) (hr : f.resultTypes = #[t]) (ht : P.underlying t = some .bool)
    (hfn : s.fn H (ds ++ gs) = { results := [.lit (.bool true)], args := ds }) (hb : Below W.heap.size W W') : s.post enc P f false true false false W args (.bool true) W' := by
  have hlt : ∀ x ∈ before, x.block < W.heap.size := fun x hx => by simpa using hW.lt x hx
  obtain ⟨p, q, hA, hV, hpq, hfz, hnd⟩ := id hW
  have hA : DataW.TrodAll enc P W 0 (fun _ => true) true f.params.toList args.toList ds p := hA
  have hV : DataW.TrodVars enc P W (fun _ => true) s.vars gs q := hV
  rw [hs] at hV
  obtain ⟨rfl, rfl⟩ := trodVars_none hV
  rw [List.append_nil] at hpq
  subst hpq
  exact post_true hW hr ht hs hfn (trodAll_below hl hb _ _ _ _ hts hA hlt) hb

theorem wf_u8 {z : Int} (h : (Lit.int .u8 z).wf = true) : 0 ≤ z ∧ z ≤ 255 := by
  simp only [Lit.wf, Bool.and_eq_true, decide_eq_true_eq] at h
  exact h
theorem wf_u32 {z : Int} (h : (Lit.int .u32 z).wf = true) : 0 ≤ z ∧ z ≤ 4294967295 := by
  simp only [Lit.wf, Bool.and_eq_true, decide_eq_true_eq] at h
  exact h
theorem wf_int {z : Int} (h : (Lit.int .i64 z).wf = true) : -9223372036854775808 ≤ z ∧ z ≤ 9223372036854775807 := by
  simp only [Lit.wf, Bool.and_eq_true, decide_eq_true_eq] at h
  exact h

end Go.Proofs.YtggfehppompcjaaGreatDoor.Sk
/- Chapter 38: what the card of SinkChecks wants: five listed variables, a slice of items opened, its bulk. -/
namespace Go.Proofs.YtggfehppompcjaaGreatDoor.Sk
open Go
noncomputable def laidWorld (os : Os) : World :=
  let w0 := World.holding Tryz.prog os ⟨#[], #[], []⟩
  { w0 with heap := (((((w0.heap.modify 1 (putCells (cellsOfData Rows.laid_internal_strconv_uint64pow10).toArray)).modify
      5 (putCells (cellsOfData Rows.laid_unicode_utf8_first).toArray)).modify
      6 (putCells (cellsOfData Rows.laid_unicode_utf8_acceptRanges).toArray)).modify
      7 (putCells (cellsOfData Rows.laid_math_bits_deBruijn32tab).toArray)).modify
      8 (putCells (cellsOfData Rows.laid_math_bits_deBruijn64tab).toArray)) }
def laid5 : List (String × DataW Unit) := [("math/bits.deBruijn32tab", Rows.laid_math_bits_deBruijn32tab), ("math/bits.deBruijn64tab", Rows.laid_math_bits_deBruijn64tab), ("internal/strconv.uint64pow10", Rows.laid_internal_strconv_uint64pow10), ("unicode/utf8.acceptRanges", Rows.laid_unicode_utf8_acceptRanges), ("unicode/utf8.first", Rows.laid_unicode_utf8_first)]
set_option maxRecDepth 100000 in
theorem laid_met (os : Os) (args : Array Value) : laidMet Tryz.prog laid5 ((laidWorld os).forCall (fun _ _ => 0) ⟨#[], args, []⟩).memory :=
  laidMet_of_run' 10 (by kernel_rfl) (by kernel_rfl)
end Go.Proofs.YtggfehppompcjaaGreatDoor.Sk
namespace Go.Proofs.YtggfehppompcjaaGreatDoor.Sk
open Go Go.Lib
theorem ev_of {W : World} (h : laidMet Tryz.prog laid5 W) (hs : W.ShapedOpen Tryz.prog) : Ev W := ev_of_reads (laidMet.reads h (.tail _ (.head _))) (laidMet.reads h (.tail _ (.tail _ (.head _)))) hs
end Go.Proofs.YtggfehppompcjaaGreatDoor.Sk
namespace Go.Proofs.YtggfehppompcjaaGreatDoor.Sk
open Go.ChangeShapes Go.WideShapes Go.ChangeAt Go.RowKit Go.Deep
/-! the bulk of what is read -/
theorem bulk_one {H : Type} (d : DataW H) : 1 ≤ Rows.uptoBulk d := by
  cases d with
  | lit l => cases l <;> simp [Rows.uptoBulk]
  | nil => simp [Rows.uptoBulk]
  | ptr d => simp [Rows.uptoBulk]
  | slice elems spare => simp [Rows.uptoBulk]
  | agg parts => simp [Rows.uptoBulk]
  | iface t d => simp [Rows.uptoBulk]
  | map entries => simp [Rows.uptoBulk]
  | held h => simp [Rows.uptoBulk]
theorem bulk_part {H : Type} {d : DataW H} {l : List (DataW H)} (h : d ∈ l) : Rows.uptoBulk d ≤ Rows.uptoBulkAll l := by
  induction l with
  | nil => cases h
  | cons x r ih =>
    simp only [Rows.uptoBulkAll]
    cases List.mem_cons.1 h with
    | inl e => subst e; omega
    | inr e => have := ih e; omega
theorem bulk_len {H : Type} (l : List (DataW H)) : l.length ≤ Rows.uptoBulkAll l := by
  induction l with
  | nil => simp [Rows.uptoBulkAll]
  | cons x r ih =>
    have := bulk_one x
    simp only [Rows.uptoBulkAll, List.length_cons]
    omega
theorem bulk_elem {H : Type} {d : DataW H} {l s : List (DataW H)} (h : d ∈ l) : Rows.uptoBulk d ≤ Rows.uptoBulk (.slice l s) := by
  have := bulk_part h
  simp only [Rows.uptoBulk]
  omega
theorem bulk_slice {H : Type} (l s : List (DataW H)) : l.length ≤ Rows.uptoBulk (.slice l s) := by
  have := bulk_len l
  simp only [Rows.uptoBulk]
  omega
theorem bulk_agg {H : Type} {d : DataW H} {l : List (DataW H)} (h : d ∈ l) : Rows.uptoBulk d ≤ Rows.uptoBulk (.agg l) := by
  have := bulk_part h
  simp only [Rows.uptoBulk]
  omega
theorem bulk_str {H : Type} (b : List UInt8) : b.length ≤ Rows.uptoBulk (DataW.lit (H := H) (.string b)) := by
  simp [Rows.uptoBulk]
theorem item_fields : ∃ f0 f1 : Field, Tryz.prog.underlying 44 = some (.struct #[f0, f1]) ∧ f0.type = 9 ∧ f1.type = 38 ∧ f0.offset = 0 ∧ f1.offset = 1 := ⟨_, _, Tryz.underlying44, rfl, rfl, rfl, rfl⟩
theorem entry_fields : ∃ f0 f1 f2 f3 f4 f5 : Field, Tryz.prog.underlying 38 = some (.struct #[f0, f1, f2, f3, f4, f5]) ∧ (f0.type = 35 ∧ f0.offset = 0) ∧ (f1.type = 4 ∧ f1.offset = 1) ∧ (f2.type = 36 ∧ f2.offset = 2) ∧ (f3.type = 4 ∧ f3.offset = 3) ∧ (f4.type = 3 ∧ f4.offset = 4) ∧ f5.type = 3 ∧ f5.offset = 5 :=
  ⟨_, _, _, _, _, _, Tryz.underlying38, ⟨rfl, rfl⟩, ⟨rfl, rfl⟩, ⟨rfl, rfl⟩, ⟨rfl, rfl⟩, ⟨rfl, rfl⟩, rfl, rfl⟩
theorem label_fields : ∃ f0 f1 : Field, Tryz.prog.underlying 95 = some (.struct #[f0, f1]) ∧ f0.type = 9 ∧ f1.type = 9 ∧ f0.offset = 0 ∧ f1.offset = 1 := ⟨_, _, Tryz.underlying95, rfl, rfl, rfl, rfl⟩
theorem cellsItem : Tryz.prog.cellsOf 44 = 7 := by kernel_rfl
theorem cellsEntry : Tryz.prog.cellsOf 38 = 6 := by kernel_rfl
theorem cellsLabel : Tryz.prog.cellsOf 95 = 2 := by kernel_rfl
theorem cellsStr : Tryz.prog.cellsOf 9 = 1 := by kernel_rfl
theorem cellsLabels : Tryz.prog.cellsOf 35 = 1 := by kernel_rfl
theorem cellsBool : Tryz.prog.cellsOf 4 = 1 := by kernel_rfl
theorem cellsU64 : Tryz.prog.cellsOf 36 = 1 := by kernel_rfl
theorem cellsInt : Tryz.prog.cellsOf 3 = 1 := by kernel_rfl
theorem wf_u64' {z : Int} (h : (Lit.int .u64 z).wf = true) : 0 ≤ z ∧ z < 18446744073709551616 := by
  simp only [Lit.wf, Bool.and_eq_true, decide_eq_true_eq] at h
  exact ⟨h.1, by have h2 : z ≤ 18446744073709551615 := h.2; omega⟩
section
variable {H : Type} {enc : TypeId × Value → H} {W : World}
set_option maxRecDepth 100000 in
/-- a label opened -/
theorem open_label {n : Nat} {cs : List Value} {y : DataW H × List MemPlace} (h : DataW.trod enc Tryz.prog W 0 (fun _ => true) true n 95 cs = some y) :
    ∃ x : Lab, cs = [.string x.1, .string x.2] ∧ x.1.size ≤ Rows.uptoBulk y.1 ∧ x.2.size ≤ Rows.uptoBulk y.1 := by
  obtain ⟨f0, f1, hu, t0, t1, o0, o1⟩ := label_fields
  obtain ⟨xs, n', _, hy, hl, hlen, hf⟩ := DataW.trod_struct hu h
  rw [cellsLabel] at hl
  match cs, hl with
  | [c0, c1], _ =>
    match xs, hlen with
    | [y0, y1], _ =>
      have h0 := hf 0 f0 rfl
      have h1 := hf 1 f1 rfl
      rw [t0, o0, cellsStr] at h0
      rw [t1, o1, cellsStr] at h1
      obtain ⟨s, r0, e0, _⟩ := DataW.trod_string (x := y0) Tryz.underlying9 h0
      obtain ⟨s', r1, e1, _⟩ := DataW.trod_string (x := y1) Tryz.underlying9 h1
      simp at r0 r1
      subst r0 r1
      refine ⟨(s, s'), rfl, ?_, ?_⟩
      · rw [hy]
        refine Nat.le_trans ?_ (bulk_agg (d := y0.1) (by simp))
        rw [e0]
        have := bulk_str (H := H) s.data.toList
        simpa using this
      · rw [hy]
        refine Nat.le_trans ?_ (bulk_agg (d := y1.1) (by simp))
        rw [e1]
        have := bulk_str (H := H) s'.data.toList
        simpa using this
set_option maxRecDepth 100000 in
/-- labels opened -/
theorem open_labels {n : Nat} {c : Value} {y : DataW H × List MemPlace} (h : DataW.trod enc Tryz.prog W 0 (fun _ => true) true n 35 [c] = some y) :
    ∃ (la : Option Addr) (lc : Nat) (lab : List Lab), c = .slice la lab.length lc ∧ RdL W la lab ∧ lab.length ≤ Rows.uptoBulk y.1 ∧ (∀ x ∈ lab, x.1.size ≤ Rows.uptoBulk y.1 ∧ x.2.size ≤ Rows.uptoBulk y.1) ∧ (la = none → lc = 0) := by
  rcases open_slice Tryz.underlying35 h with ⟨hcs, _⟩ | ⟨a', len, cap, m, n, D, Pl, hcs, _, hl, hm, hmm, hx, hi⟩
  · have hcs : c = .slice none 0 0 := by simpa using hcs
    exact ⟨none, 0, [], hcs, RdL.nil _ _, Nat.zero_le _, (fun x hx => by cases hx), fun _ => rfl⟩
  · have hcs : c = .slice (some a') len cap := by simpa using hcs
    simp only [if_true] at hmm
    subst hmm
    have hd : y.1 = .slice ((List.range len).map D) ((List.range (m - len)).map fun j => D (len + j)) := congrArg Prod.fst hx
    have h3 : ∀ i, i < len → ∃ r : Lab, W.cell? (a'.add (i * 2 + 0)) = some (.string r.1) ∧ W.cell? (a'.add (i * 2 + 1)) = some (.string r.2) ∧ r.1.size ≤ Rows.uptoBulk y.1 ∧ r.2.size ≤ Rows.uptoBulk y.1 := by
      intro i hil
      obtain ⟨cs', hc, ht⟩ := hi i (by omega)
      rw [cellsLabel] at hc
      obtain ⟨x, rfl, h1, h2⟩ := open_label ht
      obtain ⟨_, _, hat⟩ := World.cells?_some hc
      have hle : Rows.uptoBulk (D i) ≤ Rows.uptoBulk y.1 := by
        rw [hd]
        exact bulk_elem (List.mem_map_of_mem (List.mem_range.2 hil))
      refine ⟨x, ?_, ?_, Nat.le_trans h1 hle, Nat.le_trans h2 hle⟩
      · have := hat 0 (by decide)
        rw [← Go.Deep.add_add, this]
        rfl
      · have := hat 1 (by decide)
        rw [← Go.Deep.add_add, this]
        rfl
    haveI : Inhabited Lab := ⟨(⟨#[]⟩, ⟨#[]⟩)⟩
    obtain ⟨g, hg⟩ := choose_lt h3
    obtain ⟨b, off, spot⟩ := a'
    refine ⟨some ⟨b, off, spot⟩, m, (List.range len).map g, by simpa using hcs, fun hne => ?_, ?_, fun x hx => ?_, fun e => by cases e⟩
    · have h0 : 0 < len := by
        rcases Nat.eq_zero_or_pos len with e | e
        · subst e; exact absurd rfl hne
        · exact e
      have hspot : spot = none := by simpa [Addr.add] using World.cell?_spot (hg 0 h0).1
      subst hspot
      refine ⟨b, off, rfl, cell_below (g := b) (o := off) (by simpa [Addr.add] using (hg 0 h0).1), fun i x hi => ?_⟩
      have hil : i < len := by have := (List.getElem?_eq_some_iff.1 hi).1; simpa using this
      rw [List.getElem?_map, List.getElem?_range hil] at hi
      obtain rfl : g i = x := Option.some.inj hi
      obtain ⟨c0, c1, _⟩ := hg i hil
      rw [add_at] at c0 c1
      exact ⟨c0, by rw [Nat.add_assoc]; exact c1⟩
    · rw [hd]
      have := bulk_slice ((List.range len).map D) ((List.range (m - len)).map fun j => D (len + j))
      simpa using this
    · obtain ⟨i, hi, rfl⟩ := List.mem_map.1 hx
      exact (hg i (List.mem_range.1 hi)).2.2
set_option maxRecDepth 100000 in
/-- an entry opened -/
theorem open_entry {n : Nat} {cs : List Value} {y : DataW H × List MemPlace} (h : DataW.trod enc Tryz.prog W 0 (fun _ => true) true n 38 cs = some y) :
    ∃ (la : Option Addr) (lc : Nat) (e : Ent), cs = [.slice la e.lab.length lc, .bool e.mark, .int .u64 e.bits, .bool e.st, .int .i64 e.time, .int .i64 e.stamp] ∧ RdL W la e.lab ∧ e.lab.length ≤ Rows.uptoBulk y.1 ∧ (∀ x ∈ e.lab, x.1.size ≤ Rows.uptoBulk y.1 ∧ x.2.size ≤ Rows.uptoBulk y.1) ∧ EntIn e ∧ (la = none → lc = 0) := by
  obtain ⟨f0, f1, f2, f3, f4, f5, hu, ⟨t0, o0⟩, ⟨t1, o1⟩, ⟨t2, o2⟩, ⟨t3, o3⟩, ⟨t4, o4⟩, t5, o5⟩ := entry_fields
  obtain ⟨xs, n', _, hy, hl, hlen, hf⟩ := DataW.trod_struct hu h
  rw [cellsEntry] at hl
  match cs, hl with
  | [c0, c1, c2, c3, c4, c5], _ =>
    have hx : ∀ j, j < 6 → ∃ y, xs[j]? = some y := fun j hj => ⟨_, List.getElem?_eq_getElem (by rw [hlen]; exact hj)⟩
    obtain ⟨y0, e0⟩ := hx 0 (by omega)
    obtain ⟨y1, e1⟩ := hx 1 (by omega)
    obtain ⟨y2, e2⟩ := hx 2 (by omega)
    obtain ⟨y3, e3⟩ := hx 3 (by omega)
    obtain ⟨y4, e4⟩ := hx 4 (by omega)
    obtain ⟨y5, e5⟩ := hx 5 (by omega)
    have h0 := (hf 0 f0 rfl).trans e0
    have h1 := (hf 1 f1 rfl).trans e1
    have h2 := (hf 2 f2 rfl).trans e2
    have h3 := (hf 3 f3 rfl).trans e3
    have h4 := (hf 4 f4 rfl).trans e4
    have h5 := (hf 5 f5 rfl).trans e5
    rw [t0, o0, cellsLabels] at h0
    rw [t1, o1, cellsBool] at h1
    rw [t2, o2, cellsU64] at h2
    rw [t3, o3, cellsBool] at h3
    rw [t4, o4, cellsInt] at h4
    rw [t5, o5, cellsInt] at h5
    obtain ⟨la, lc, lab, r0, hr, hn, hz, hnl⟩ := open_labels (c := c0) h0
    have hle : Rows.uptoBulk y0.1 ≤ Rows.uptoBulk y.1 := by
      rw [hy]
      exact bulk_agg (List.mem_map_of_mem (List.mem_of_getElem? e0))
    obtain ⟨b1, r1, _⟩ := DataW.trod_bool Tryz.underlying4 h1
    obtain ⟨b2, r2, _, w2⟩ := DataW.trod_int Tryz.underlying36 h2
    obtain ⟨b3, r3, _⟩ := DataW.trod_bool Tryz.underlying4 h3
    obtain ⟨b4, r4, _, w4⟩ := DataW.trod_int Tryz.underlying3 h4
    obtain ⟨b5, r5, _, w5⟩ := DataW.trod_int Tryz.underlying3 h5
    simp at r1 r2 r3 r4 r5
    subst r0 r1 r2 r3 r4 r5
    have k2 := wf_u64' w2
    have k4 := wf_int w4
    have k5 := wf_int w5
    exact ⟨la, lc, ⟨lab, b1, b2, b3, b4, b5⟩, rfl, hr, Nat.le_trans hn hle, fun x hx => ⟨Nat.le_trans (hz x hx).1 hle, Nat.le_trans (hz x hx).2 hle⟩, ⟨k2.1, k2.2, k4.1, k4.2, k5.1, k5.2⟩, hnl⟩
set_option maxRecDepth 100000 in
/-- an item opened -/
theorem open_item {n : Nat} {cs : List Value} {y : DataW H × List MemPlace} (h : DataW.trod enc Tryz.prog W 0 (fun _ => true) true n 44 cs = some y) :
    ∃ x : SI, cs = iB x ∧ RdL W x.la x.e.lab ∧ x.e.lab.length ≤ Rows.uptoBulk y.1 ∧ (∀ z ∈ x.e.lab, z.1.size ≤ Rows.uptoBulk y.1 ∧ z.2.size ≤ Rows.uptoBulk y.1) ∧ EntIn x.e ∧ x.key.size ≤ Rows.uptoBulk y.1 := by
  obtain ⟨f0, f1, hu, t0, t1, o0, o1⟩ := item_fields
  obtain ⟨xs, n', _, hy, hl, hlen, hf⟩ := DataW.trod_struct hu h
  rw [cellsItem] at hl
  match cs, hl with
  | [c0, c1, c2, c3, c4, c5, c6], _ =>
    match xs, hlen with
    | [y0, y1], _ =>
      have h0 := hf 0 f0 rfl
      have h1 := hf 1 f1 rfl
      rw [t0, o0, cellsStr] at h0
      rw [t1, o1, cellsEntry] at h1
      obtain ⟨s, r0, e0, _⟩ := DataW.trod_string (x := y0) Tryz.underlying9 h0
      obtain ⟨la, lc, e, r1, hr, hn, hz, hi, _⟩ := open_entry (y := y1) h1
      have hle : Rows.uptoBulk y1.1 ≤ Rows.uptoBulk y.1 := by
        rw [hy]
        exact bulk_agg (by simp)
      simp at r0 r1
      obtain ⟨q1, q2, q3, q4, q5, q6⟩ := r1
      subst r0 q1 q2 q3 q4 q5 q6
      refine ⟨⟨s, la, lc, e⟩, rfl, hr, Nat.le_trans hn hle, fun x hx => ⟨Nat.le_trans (hz x hx).1 hle, Nat.le_trans (hz x hx).2 hle⟩, hi, ?_⟩
      rw [hy]
      refine Nat.le_trans ?_ (bulk_agg (d := y0.1) (by simp))
      rw [e0]
      have := bulk_str (H := H) s.data.toList
      simpa using this
set_option maxRecDepth 100000 in
theorem open_items {base : Nat} {v : Value} {d : DataW H} {ps : List MemPlace} (hval : Value.okWide Tryz.prog W .any base 22 v)
    (h : DataW.Trod enc Tryz.prog W 0 (fun _ => true) true 22 v d ps) (hb : Rows.uptoBulk d ≤ 1048576) : ∃ a cap l, v = .slice a (List.length l) cap ∧ RdJ W a l ∧ CkOk l ∧ l.length ≤ 1100000 := by
  obtain ⟨a, len, cap, rfl⟩ := okWide_slice Tryz.underlying22 hval
  obtain ⟨fuel, hf⟩ := h
  rcases open_slice Tryz.underlying22 hf with ⟨hcs, _⟩ | ⟨a', len', cap', m, n, D, Pl, hcs, _, hl, hm, hmm, hx, hi⟩
  · have hcs : [Value.slice a len cap] = [.slice none 0 0] := hcs
    cases hcs
    exact ⟨none, 0, [], rfl, ⟨fun h => absurd rfl h, fun x hx => by cases hx⟩, ⟨(fun x hx => by cases hx), (fun x hx => by cases hx), (fun x hx => by cases hx), (fun x hx => by cases hx)⟩, Nat.zero_le _⟩
  · have hcs : [Value.slice a len cap] = [.slice (some a') len' cap'] := hcs
    cases hcs
    simp only [if_true] at hmm
    subst hmm
    have hd : d = .slice ((List.range len).map D) ((List.range (m - len)).map fun j => D (len + j)) := congrArg Prod.fst hx
    have hel : ∀ i, i < len → Rows.uptoBulk (D i) ≤ 1048576 := fun i hi => by
      refine Nat.le_trans ?_ hb
      rw [hd]
      exact bulk_elem (List.mem_map_of_mem (List.mem_range.2 hi))
    have hlen : len ≤ 1048576 := by
      refine Nat.le_trans ?_ hb
      rw [hd]
      have := bulk_slice ((List.range len).map D) ((List.range (m - len)).map fun j => D (len + j))
      simpa using this
    have h3 : ∀ i, i < len → ∃ x : SI, (∀ (j : Nat) (u : Value), (iB x)[j]? = some u → W.cell? (a'.add (i * 7 + j)) = some u) ∧ RdL W x.la x.e.lab ∧ LabZ x.e.lab ∧ x.e.lab.length ≤ 1000000000 ∧ EntIn x.e ∧ x.key.size ≤ 1100000 := by
      intro i hil
      obtain ⟨cs', hc, ht⟩ := hi i (by omega)
      rw [cellsItem] at hc
      obtain ⟨x, rfl, h1, h2, h3, h4, h5⟩ := open_item ht
      obtain ⟨_, hcl, hat⟩ := World.cells?_some hc
      have hle : Rows.uptoBulk (D i, Pl i).1 ≤ 1048576 := hel i hil
      refine ⟨x, fun j u hu => ?_, h1, fun z hz => ?_, by omega, h4, by omega⟩
      rotate_left
      · obtain ⟨z1, z2⟩ := h3 z hz
        exact ⟨by omega, by omega⟩
      have hj := (List.getElem?_eq_some_iff.1 hu).1
      have hj7 : j < 7 := hj
      have := hat j hj7
      rw [← Go.Deep.add_add, this]
      exact hu
    haveI : Inhabited SI := ⟨⟨⟨#[]⟩, none, 0, ⟨[], false, 0, false, 0, 0⟩⟩⟩
    obtain ⟨g, hg⟩ := choose_lt h3
    obtain ⟨b, off, spot⟩ := a'
    have hmem : ∀ x ∈ (List.range len).map g, ∃ i, i < len ∧ x = g i := fun x hx => by
      obtain ⟨i, hi, rfl⟩ := List.mem_map.1 hx
      exact ⟨i, List.mem_range.1 hi, rfl⟩
    refine ⟨some ⟨b, off, spot⟩, m, (List.range len).map g, by simp, ⟨fun hne => ?_, fun x hx => ?_⟩, ⟨fun x hx => ?_, fun x hx => ?_, fun x hx => ?_, fun x hx => ?_⟩, by simp; omega⟩
    · have h0 : 0 < len := by
        rcases Nat.eq_zero_or_pos len with e | e
        · subst e; exact absurd rfl hne
        · exact e
      have hc0 := (hg 0 h0).1 0 _ rfl
      have hspot : spot = none := by simpa [Addr.add] using World.cell?_spot hc0
      subst hspot
      refine ⟨b, off, rfl, cell_below (g := b) (o := off) (by simpa [Addr.add] using hc0), fun j u hu => ?_⟩
      have hj := (List.getElem?_eq_some_iff.1 hu).1
      rw [iFlat_length, List.length_map, List.length_range] at hj
      have hm7 := Nat.mod_lt j (show 7 > 0 by decide)
      have hi : j / 7 < len := by omega
      have hgx : ((List.range len).map g)[j / 7]? = some (g (j / 7)) := by rw [List.getElem?_map, List.getElem?_range hi]; rfl
      have hlt : j % 7 < (iB (g (j / 7))).length := hm7
      have hat := flat_at iB 7 (fun _ => rfl) (j := j % 7) hgx (List.getElem?_eq_getElem hlt)
      rw [show j / 7 * 7 + j % 7 = j by omega] at hat
      have hu' := Option.some.inj (hat.symm.trans hu)
      have hc := (hg (j / 7) hi).1 (j % 7) _ (List.getElem?_eq_getElem hlt)
      rw [add_at, hu', show off + (j / 7 * 7 + j % 7) = off + j by omega] at hc
      exact hc
    · obtain ⟨i, hi, rfl⟩ := hmem x hx
      exact (hg i hi).2.1
    · obtain ⟨i, hi, rfl⟩ := hmem x hx
      exact (hg i hi).2.2.2.2.2
    · obtain ⟨i, hi, rfl⟩ := hmem x hx
      exact (hg i hi).2.2.2.1
    · obtain ⟨i, hi, rfl⟩ := hmem x hx
      exact (hg i hi).2.2.1
    · obtain ⟨i, hi, rfl⟩ := hmem x hx
      exact (hg i hi).2.2.2.2.1
end
end Go.Proofs.YtggfehppompcjaaGreatDoor.Sk
/- Chapter 38: what the card of SinkTells wants: a slice of calls opened. -/
namespace Go.Proofs.YtggfehppompcjaaGreatDoor.Sk
open Go Go.Lib
open Go.ChangeShapes Go.WideShapes Go.ChangeAt Go.RowKit Go.Deep
theorem call_fields : ∃ f0 f1 : Field, Tryz.prog.underlying 64 = some (.struct #[f0, f1]) ∧ f0.type = 9 ∧ f1.type = 49 ∧ f0.offset = 0 ∧ f1.offset = 1 := ⟨_, _, Tryz.underlying64, rfl, rfl, rfl, rfl⟩
theorem cellsCall : Tryz.prog.cellsOf 64 = 2 := by kernel_rfl
theorem cellsEs : Tryz.prog.cellsOf 49 = 1 := by kernel_rfl
/-- what is told of an entry of bulk at most b -/
def EntB (b : Nat) (x : SE) : Prop := x.e.lab.length ≤ b ∧ (∀ z ∈ x.e.lab, z.1.size ≤ b ∧ z.2.size ≤ b) ∧ (x.la = none → x.lc = 0)
theorem EntB.mono {a b : Nat} {x : SE} (h : EntB a x) (hab : a ≤ b) : EntB b x := ⟨Nat.le_trans h.1 hab, fun z hz => ⟨Nat.le_trans (h.2.1 z hz).1 hab, Nat.le_trans (h.2.1 z hz).2 hab⟩, h.2.2⟩
theorem bulk_sum {H : Type} (g : Nat → CA) (D : Nat → DataW H) : ∀ L : List Nat, (∀ i ∈ L, (g i).es.length ≤ Rows.uptoBulk (D i)) → sumC (L.map g) ≤ Rows.uptoBulkAll (L.map D)
  | [], _ => Nat.zero_le _
  | i :: L, h => by
    have h1 := bulk_sum g D L (fun j hj => h j (List.mem_cons_of_mem _ hj))
    have h2 := h i (List.mem_cons_self ..)
    have h3 : sumC ((i :: L).map g) = (g i).es.length + sumC (L.map g) := by
      unfold sumC
      simp
    rw [h3]
    simp only [List.map_cons, Rows.uptoBulkAll]
    omega
section
variable {H : Type} {enc : TypeId × Value → H} {W : World}
set_option maxRecDepth 100000 in
/-- entries opened -/
theorem open_entries {n : Nat} {c : Value} {y : DataW H × List MemPlace} (h : DataW.trod enc Tryz.prog W 0 (fun _ => true) true n 49 [c] = some y) :
    ∃ (ea : Option Addr) (ec : Nat) (es : List SE), c = .slice ea es.length ec ∧ RdEj W ea es ∧ es.length ≤ Rows.uptoBulk y.1 ∧ ∀ x ∈ es, EntB (Rows.uptoBulk y.1) x := by
  rcases open_slice Tryz.underlying49 h with ⟨hcs, _⟩ | ⟨a', len, cap, m, n, D, Pl, hcs, _, hl, hm, hmm, hx, hi⟩
  · have hcs : c = .slice none 0 0 := by simpa using hcs
    exact ⟨none, 0, [], hcs, ⟨fun h => absurd rfl h, fun x hx => by cases hx⟩, Nat.zero_le _, fun x hx => by cases hx⟩
  · have hcs : c = .slice (some a') len cap := by simpa using hcs
    simp only [if_true] at hmm
    subst hmm
    have hd : y.1 = .slice ((List.range len).map D) ((List.range (m - len)).map fun j => D (len + j)) := congrArg Prod.fst hx
    have h3 : ∀ i, i < len → ∃ x : SE, (∀ (j : Nat) (u : Value), (eB x)[j]? = some u → W.cell? (a'.add (i * 6 + j)) = some u) ∧ RdL W x.la x.e.lab ∧ EntB (Rows.uptoBulk y.1) x := by
      intro i hil
      obtain ⟨cs', hc, ht⟩ := hi i (by omega)
      rw [cellsEntry] at hc
      obtain ⟨la, lc, e, rfl, h1, h2, h3, _, h5⟩ := open_entry ht
      obtain ⟨_, hcl, hat⟩ := World.cells?_some hc
      have hle : Rows.uptoBulk (D i) ≤ Rows.uptoBulk y.1 := by
        rw [hd]
        exact bulk_elem (List.mem_map_of_mem (List.mem_range.2 hil))
      refine ⟨⟨la, lc, e⟩, fun j u hu => ?_, h1, Nat.le_trans h2 hle, fun z hz => ⟨Nat.le_trans (h3 z hz).1 hle, Nat.le_trans (h3 z hz).2 hle⟩, h5⟩
      have hj := (List.getElem?_eq_some_iff.1 hu).1
      have hj6 : j < 6 := hj
      have := hat j hj6
      rw [← Go.Deep.add_add, this]
      exact hu
    haveI : Inhabited SE := ⟨⟨none, 0, ⟨[], false, 0, false, 0, 0⟩⟩⟩
    obtain ⟨g, hg⟩ := choose_lt h3
    obtain ⟨b, off, spot⟩ := a'
    have hmem : ∀ x ∈ (List.range len).map g, ∃ i, i < len ∧ x = g i := fun x hx => by
      obtain ⟨i, hi, rfl⟩ := List.mem_map.1 hx
      exact ⟨i, List.mem_range.1 hi, rfl⟩
    refine ⟨some ⟨b, off, spot⟩, m, (List.range len).map g, by simpa using hcs, ⟨fun hne => ?_, fun x hx => ?_⟩, ?_, fun x hx => ?_⟩
    · have h0 : 0 < len := by
        rcases Nat.eq_zero_or_pos len with e | e
        · subst e; exact absurd rfl hne
        · exact e
      have hc0 := (hg 0 h0).1 0 _ rfl
      have hspot : spot = none := by simpa [Addr.add] using World.cell?_spot hc0
      subst hspot
      refine ⟨b, off, rfl, cell_below (g := b) (o := off) (by simpa [Addr.add] using hc0), fun j u hu => ?_⟩
      have hj := (List.getElem?_eq_some_iff.1 hu).1
      rw [eFlat_length, List.length_map, List.length_range] at hj
      have hm6 := Nat.mod_lt j (show 6 > 0 by decide)
      have hi : j / 6 < len := by omega
      have hgx : ((List.range len).map g)[j / 6]? = some (g (j / 6)) := by rw [List.getElem?_map, List.getElem?_range hi]; rfl
      have hlt : j % 6 < (eB (g (j / 6))).length := hm6
      have hat := flat_at eB 6 (fun _ => rfl) (j := j % 6) hgx (List.getElem?_eq_getElem hlt)
      rw [show j / 6 * 6 + j % 6 = j by omega] at hat
      have hu' := Option.some.inj (hat.symm.trans hu)
      have hc := (hg (j / 6) hi).1 (j % 6) _ (List.getElem?_eq_getElem hlt)
      rw [add_at, hu', show off + (j / 6 * 6 + j % 6) = off + j by omega] at hc
      exact hc
    · obtain ⟨i, hi, rfl⟩ := hmem x hx
      exact (hg i hi).2.1
    · rw [hd]
      have := bulk_slice ((List.range len).map D) ((List.range (m - len)).map fun j => D (len + j))
      simpa using this
    · obtain ⟨i, hi, rfl⟩ := hmem x hx
      exact (hg i hi).2.2
set_option maxRecDepth 100000 in
/-- a call opened -/
theorem open_call {n : Nat} {cs : List Value} {y : DataW H × List MemPlace} (h : DataW.trod enc Tryz.prog W 0 (fun _ => true) true n 64 cs = some y) :
    ∃ x : CA, cs = cB2 x ∧ RdEj W x.ea x.es ∧ x.es.length ≤ Rows.uptoBulk y.1 ∧ (∀ z ∈ x.es, EntB (Rows.uptoBulk y.1) z) ∧ x.key.size ≤ Rows.uptoBulk y.1 := by
  obtain ⟨f0, f1, hu, t0, t1, o0, o1⟩ := call_fields
  obtain ⟨xs, n', _, hy, hl, hlen, hf⟩ := DataW.trod_struct hu h
  rw [cellsCall] at hl
  match cs, hl with
  | [c0, c1], _ =>
    match xs, hlen with
    | [y0, y1], _ =>
      have h0 := hf 0 f0 rfl
      have h1 := hf 1 f1 rfl
      rw [t0, o0, cellsStr] at h0
      rw [t1, o1, cellsEs] at h1
      obtain ⟨s, r0, e0, _⟩ := DataW.trod_string (x := y0) Tryz.underlying9 h0
      obtain ⟨ea, ec, es, r1, hr, hn, hz⟩ := open_entries (c := c1) (y := y1) h1
      have hle : Rows.uptoBulk y1.1 ≤ Rows.uptoBulk y.1 := by
        rw [hy]
        exact bulk_agg (by simp)
      simp at r0
      subst r0 r1
      refine ⟨⟨s, ea, ec, es⟩, rfl, hr, Nat.le_trans hn hle, fun x hx => (hz x hx).mono hle, ?_⟩
      rw [hy]
      refine Nat.le_trans ?_ (bulk_agg (d := y0.1) (by simp))
      rw [e0]
      have := bulk_str (H := H) s.data.toList
      simpa using this
set_option maxRecDepth 100000 in
theorem open_callsL {base : Nat} {v : Value} {d : DataW H} {ps : List MemPlace} (hval : Value.okWide Tryz.prog W .any base 26 v)
    (h : DataW.Trod enc Tryz.prog W 0 (fun _ => true) true 26 v d ps) (hb : Rows.uptoBulk d ≤ 1048576) : ∃ a cap l, v = .slice a (List.length l) cap ∧ RdC W a l ∧ (∀ x ∈ l, x.key.size ≤ 1100000) ∧ (∀ x ∈ l, EOk x.es) ∧ (∀ x ∈ l, ∀ y ∈ x.es, y.la = none → y.lc = 0) ∧ l.length ≤ 1100000 ∧ sumC l ≤ 1100000 := by
  obtain ⟨a, len, cap, rfl⟩ := okWide_slice Tryz.underlying26 hval
  obtain ⟨fuel, hf⟩ := h
  rcases open_slice Tryz.underlying26 hf with ⟨hcs, _⟩ | ⟨a', len', cap', m, n, D, Pl, hcs, _, hl, hm, hmm, hx, hi⟩
  · have hcs : [Value.slice a len cap] = [.slice none 0 0] := hcs
    cases hcs
    exact ⟨none, 0, [], rfl, ⟨fun h => absurd rfl h, fun x hx => by cases hx⟩, (fun x hx => by cases hx), (fun x hx => by cases hx), (fun x hx => by cases hx), Nat.zero_le _, Nat.zero_le _⟩
  · have hcs : [Value.slice a len cap] = [.slice (some a') len' cap'] := hcs
    cases hcs
    simp only [if_true] at hmm
    subst hmm
    have hd : d = .slice ((List.range len).map D) ((List.range (m - len)).map fun j => D (len + j)) := congrArg Prod.fst hx
    have hel : ∀ i, i < len → Rows.uptoBulk (D i) ≤ 1048576 := fun i hi => by
      refine Nat.le_trans ?_ hb
      rw [hd]
      exact bulk_elem (List.mem_map_of_mem (List.mem_range.2 hi))
    have hlen : len ≤ 1048576 := by
      refine Nat.le_trans ?_ hb
      rw [hd]
      have := bulk_slice ((List.range len).map D) ((List.range (m - len)).map fun j => D (len + j))
      simpa using this
    have h3 : ∀ i, i < len → ∃ x : CA, (∀ (j : Nat) (u : Value), (cB2 x)[j]? = some u → W.cell? (a'.add (i * 2 + j)) = some u) ∧ RdEj W x.ea x.es ∧ x.es.length ≤ Rows.uptoBulk (D i) ∧ (∀ z ∈ x.es, EntB 1048576 z) ∧ x.key.size ≤ 1100000 := by
      intro i hil
      obtain ⟨cs', hc, ht⟩ := hi i (by omega)
      rw [cellsCall] at hc
      obtain ⟨x, rfl, h1, h2, h3, h4⟩ := open_call ht
      obtain ⟨_, hcl, hat⟩ := World.cells?_some hc
      have hle : Rows.uptoBulk (D i, Pl i).1 ≤ 1048576 := hel i hil
      refine ⟨x, fun j u hu => ?_, h1, h2, fun z hz => (h3 z hz).mono hle, by omega⟩
      have hj := (List.getElem?_eq_some_iff.1 hu).1
      have hj2 : j < 2 := hj
      have := hat j hj2
      rw [← Go.Deep.add_add, this]
      exact hu
    haveI : Inhabited CA := ⟨⟨⟨#[]⟩, none, 0, []⟩⟩
    obtain ⟨g, hg⟩ := choose_lt h3
    obtain ⟨b, off, spot⟩ := a'
    have hmem : ∀ x ∈ (List.range len).map g, ∃ i, i < len ∧ x = g i := fun x hx => by
      obtain ⟨i, hi, rfl⟩ := List.mem_map.1 hx
      exact ⟨i, List.mem_range.1 hi, rfl⟩
    refine ⟨some ⟨b, off, spot⟩, m, (List.range len).map g, by simp, ⟨fun hne => ?_, fun x hx => ?_⟩, fun x hx => ?_, fun x hx => ⟨fun y hy => ?_, fun y hy z hz => ?_⟩, fun x hx y hy => ?_, by simp; omega, ?_⟩
    · have h0 : 0 < len := by
        rcases Nat.eq_zero_or_pos len with e | e
        · subst e; exact absurd rfl hne
        · exact e
      have hc0 := (hg 0 h0).1 0 _ rfl
      have hspot : spot = none := by simpa [Addr.add] using World.cell?_spot hc0
      subst hspot
      refine ⟨b, off, rfl, cell_below (g := b) (o := off) (by simpa [Addr.add] using hc0), fun j u hu => ?_⟩
      have hj := (List.getElem?_eq_some_iff.1 hu).1
      rw [cFlat_length, List.length_map, List.length_range] at hj
      have hm2 := Nat.mod_lt j (show 2 > 0 by decide)
      have hi : j / 2 < len := by omega
      have hgx : ((List.range len).map g)[j / 2]? = some (g (j / 2)) := by rw [List.getElem?_map, List.getElem?_range hi]; rfl
      have hlt : j % 2 < (cB2 (g (j / 2))).length := hm2
      have hat := flat_at cB2 2 (fun _ => rfl) (j := j % 2) hgx (List.getElem?_eq_getElem hlt)
      rw [show j / 2 * 2 + j % 2 = j by omega] at hat
      have hu' := Option.some.inj (hat.symm.trans hu)
      have hc := (hg (j / 2) hi).1 (j % 2) _ (List.getElem?_eq_getElem hlt)
      rw [add_at, hu', show off + (j / 2 * 2 + j % 2) = off + j by omega] at hc
      exact hc
    · obtain ⟨i, hi, rfl⟩ := hmem x hx
      exact (hg i hi).2.1
    · obtain ⟨i, hi, rfl⟩ := hmem x hx
      exact (hg i hi).2.2.2.2
    · obtain ⟨i, hi, rfl⟩ := hmem x hx
      have := ((hg i hi).2.2.2.1 y hy).1
      omega
    · obtain ⟨i, hi, rfl⟩ := hmem x hx
      have := ((hg i hi).2.2.2.1 y hy).2.1 z hz
      exact ⟨by omega, by omega⟩
    · obtain ⟨i, hi, rfl⟩ := hmem x hx
      exact ((hg i hi).2.2.2.1 y hy).2.2
    · refine Nat.le_trans (bulk_sum g D _ (fun i hi => (hg i (List.mem_range.1 hi)).2.2.1)) ?_
      have h1 : Rows.uptoBulkAll ((List.range len).map D) ≤ Rows.uptoBulk d := by
        rw [hd]
        simp only [Rows.uptoBulk]
        omega
      omega
end
end Go.Proofs.YtggfehppompcjaaGreatDoor.Sk
/- The card of the law SinkTells, bounded form: whatever the input, of bulk at most 1048576, it returns true. Its conditions: the package-level variables that it lists read as the program's text lays them. -/
namespace Go.Proofs.YtggfehppompcjaaGreatDoor.skTells
open Go.Proofs.YtggfehppompcjaaGreatDoor.Sk Go.ChangeShapes Go.WideShapes Go.ChangeAt Go.RowKit

set_option maxRecDepth 100000 in
theorem contract (H : Type) (enc : TypeId × Value → H) (W : World) (base : Nat) (args : Array Value) (ds gs : List (DataW H)) (before : List MemPlace)
    (hval : ∀ (j : Nat) t v, Tryz.f5.params[j]? = some t → args[j]? = some v → Value.okWide Tryz.prog W .any base t v)
    (hW : DataW.Whole enc Tryz.prog Tryz.f5.params.toList Rows.sinkTellsSpec.vars false W args.toList ds gs before) (hL : laidMetH Tryz.prog Rows.sinkTellsUptoRow.laid W) (hsh : W.ShapedOpen Tryz.prog) (hk : Rows.uptoSmall H (ds ++ gs) = true) :
    Calls Tryz.prog 5 args W fun e W' => ∃ v, e = .returned v ∧ Rows.sinkTellsSpec.post enc Tryz.prog Tryz.f5 false true false false W args v W' := by
  have hW' := hW
  obtain ⟨p, q, hA0, hV, rfl, hfz, hnd⟩ := hW
  have hA : DataW.TrodAll enc Tryz.prog W 0 (fun _ => true) true Tryz.f5.params.toList args.toList ds p := hA0
  rw [Tryz.params5] at hA hval
  obtain ⟨v0, v1, v2, d0, d1, d2, p0, p1, p2, rfl, rfl, rfl, h0, h1, h2⟩ := trodAll_three hA
  obtain ⟨rfl, rfl⟩ := trodVars_none hV
  have hbs : Rows.uptoBulk d0 ≤ 1048576 ∧ Rows.uptoBulk d1 ≤ 1048576 := by
    have h : Rows.uptoBulkAll ([d0, d1, d2] ++ []) ≤ 1048576 := of_decide_eq_true hk
    simp only [List.append_nil, Rows.uptoBulkAll] at h
    omega
  obtain ⟨a0, cap0, l0, rfl, hC0, hck0, hce0, hcn0, hn0, hsum0⟩ := open_callsL (hval 0 _ v0 rfl rfl) h0 hbs.1
  obtain ⟨s1, rfl, hd1, -, -⟩ := Go.ChangeMaps.open_string Tryz.underlying9 (hval 1 _ v1 rfl rfl) h1
  have hs1 : s1.size ≤ 1100000 := by
    have h := hbs.2
    rw [hd1] at h
    have h2 := bulk_str (H := H) s1.data.toList
    have h3 : s1.data.toList.length = s1.size := by simp
    omega
  obtain ⟨x2, rfl, -, -, hx2⟩ := open_int Tryz.underlying3 (hval 2 _ v2 rfl rfl) h2
  replace hx2 := wf_int hx2
  have hL' : Ev W := ev_of hL hsh
  refine (tells_law a0 cap0 l0 s1 x2 W hL' hC0 hck0 hce0 hcn0 hn0 hsum0 hs1 hx2.1 hx2.2).mono fun e W' ⟨he, hb⟩ => ?_
  subst he
  exact ⟨_, rfl, law_true laidOut0 hW' (by kernel_rfl) rfl (by kernel_rfl) Tryz.underlying4 rfl hb⟩

theorem reads (os : Os) {H : Type} (enc : TypeId × Value → H) : ∃ places, DataW.whole enc Tryz.prog ((laidWorld os).forCall (fun _ _ => 0) ⟨#[], #[.slice none 0 0, .string ⟨#[]⟩, .int .i64 0], []⟩).memory Tryz.f5.params.toList Rows.sinkTellsSpec.vars false #[Value.slice none 0 0, Value.string ⟨#[]⟩, Value.int .i64 0].toList 8 = some ([.nil, .lit (.string []), .lit (.int .i64 0)], [], places) :=
  ⟨[], by kernel_rfl⟩

set_option maxRecDepth 100000 in
theorem lifted (os : Os) (started : os.Started) (H : Type) (enc : TypeId × Value → H) (F : Stop.Interp) :
    ReturnsInHanded {} Tryz.checked os 5 .any ((Rows.OpenSpec.upto Rows.sinkTellsSpec).preRow enc Tryz.prog Tryz.f5 Rows.sinkTellsUptoRow.domain false Rows.sinkTellsUptoRow.laid) (((Rows.OpenSpec.upto Rows.sinkTellsSpec).at F).post enc Tryz.prog Tryz.f5 false true false false) := by
  obtain ⟨places, hx⟩ := reads os enc
  refine returnsInHanded_of_row (C := Tryz.checked) (s := Rows.OpenSpec.upto Rows.sinkTellsSpec) ownKnob0 started (by as_aux_lemma => kernel_rfl) Tryz.func5
    (witness_row_atRef (enc := enc) (C := Tryz.checked) false (laidWorld os) #[.slice none 0 0, .string ⟨#[]⟩, .int .i64 0] rfl (by as_aux_lemma => kernel_rfl) (by as_aux_lemma => kernel_rfl) (by as_aux_lemma => kernel_rfl)
      (OpenSpec.preRow_of_cond 8 hx (by as_aux_lemma => kernel_rfl) (fun k hk => by cases hk; kernel_rfl) (by as_aux_lemma => kernel_rfl) (laid_met os _))) ?_
  intro W base args ds gs before hval hW _ hk _ hL hsh _
  exact contract H enc W base args ds gs before hval hW hL hsh (hk _ rfl)

set_option maxHeartbeats 40000000 in
theorem closed : joinedFacts Tryz.pinned.checked.prog 5 Tryz.f5 (Rows.OpenSpec.upto Rows.sinkTellsSpec).bare Rows.sinkTellsUptoRow = true := by
  unfold joinedFacts
  simp only [Bool.and_eq_true]
  repeat' apply And.intro
  all_goals as_aux_lemma => kernel_rfl

theorem said : Rows.SinkTellsUptoSaid :=
  OpenClaim.holds_of_cond 5 Tryz.f5 rfl rfl rfl rfl rfl rfl rfl ⟨rfl, rfl, rfl, rfl, rfl⟩ rfl rfl rfl rfl rfl (by as_aux_lemma => kernel_rfl) Tryz.func5 closed
    (of_decide_eq_true (by as_aux_lemma => kernel_rfl)) (by as_aux_lemma => (unfold Func.isWrapper; first | (rw [if_pos (by decide +kernel)]; kernel_rfl) | (rw [if_neg (by decide +kernel)]; exact ⟨rfl, rfl⟩)))
    (fun os started H enc _ F => by rw [OpenClaim.pre_eq_preRow]; exact lifted os started H enc F)

theorem plain (f : FuncId) (fn : Func) (hf : Tryz.pinned.checked.prog.funcNamed "gauger/gaugerlaw38.SinkTells" = some f) (hfn : Tryz.pinned.checked.prog.funcs[f]? = some fn) :
    true = Tryz.pinned.checked.prog.looks [] ∧ ∀ (j : Nat) t, fn.params[j]? = some t → Tryz.pinned.checked.prog.wantsStandIn t = false := by
  obtain rfl : f = 5 := Option.some.inj ((show Tryz.prog.funcNamed "gauger/gaugerlaw38.SinkTells" = some 5 by kernel_rfl).symm.trans hf) |>.symm
  obtain rfl : fn = Tryz.f5 := (Option.some.inj (Tryz.func5.symm.trans hfn)).symm
  refine ⟨by kernel_rfl, fun j t ht => ?_⟩
  rw [Tryz.params5] at ht
  have hall : ∀ t ∈ (#[26, 9, 3] : Array TypeId), Tryz.prog.wantsStandIn t = false := by
    intro t ht
    simp only [List.mem_toArray, List.mem_cons, List.not_mem_nil, or_false] at ht
    rcases ht with rfl | rfl | rfl
    · exact (show Tryz.prog.wantsStandIn 26 = false by kernel_rfl)
    · exact (show Tryz.prog.wantsStandIn 9 = false by kernel_rfl)
    · exact (show Tryz.prog.wantsStandIn 3 = false by kernel_rfl)
  exact hall t (Array.mem_of_getElem? ht)

theorem card : Rows.SinkTellsUptoCardSaid :=
  Claim7.holds_tied_plain_at .later [] _ _ _ _ said (fun _ h => by cases h) (by kernel_rfl) (fun _ h => by cases h) sinkTellsUpto_row_tie rfl ⟨rfl, rfl⟩ (by kernel_rfl) rfl plain (by kernel_rfl)
end Go.Proofs.YtggfehppompcjaaGreatDoor.skTells
