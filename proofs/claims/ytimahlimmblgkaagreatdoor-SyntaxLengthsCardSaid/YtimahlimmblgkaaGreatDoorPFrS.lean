/- Chapter 07: what every law's card wants: a start that fits, the listed variables, the argument of small numbers opened, the last step. Lines of chapter 06's text, turned. -/
import Derived.Test.YtimahlimmblgkaaGreatDoorRows
import Derived.Test.YtimahlimmblgkaaGreatDoorPLaid
import Derived.LaidLaws
import Derived.Deep.DeepLaidRun
import Derived.Lib.LaidCaseMet
import Derived.PinnedBridge
import Derived.Test.YtimahlimmblgkaaGreatDoorPTpA
import Derived.Lib.LaidU8
import Derived.Test.YtimahlimmblgkaaGreatDoorPTmA
import Derived.Test.YtimahlimmblgkaaGreatDoorCards
import Derived.Test.YtimahlimmblgkaaGreatDoorTie
import Derived.ProofKit
import Derived.OpenShut
import Derived.Below
import Derived.Carry
import Derived.ChangeSame
import Derived.Deep.Slices
import Derived.Deep.Fields
import Derived.Deep.DeepHandedRow
import Derived.Deep.DeepWitnessRowRef
import Derived.Test.YtimahlimmblgkaaGreatDoorPTsG
namespace Go.Proofs.YtimahlimmblgkaaGreatDoor.Sy
open Go
/-- the cells that a datum fills -/
def cellsF : Nat → DataW Unit → List Value
  | _, .lit (.int k n) => [.int k n]
  | f + 1, .agg l => l.flatMap (cellsF f)
  | _, _ => []
def cellsOfData (d : DataW Unit) : List Value := cellsF 5 d
noncomputable def low : Nat := (World.holding Tryz.prog default ⟨#[], #[], []⟩).heap.size
def putCells (cs : Array Value) : Obj → Obj
  | .cells _ t fz => .cells cs t fz
  | o => o
noncomputable def laidWorld (os : Os) : World :=
  let w0 := World.holding Tryz.prog os ⟨#[.cells Lib.caseCells5 281, .cells #[.string ⟨#[118, 97, 108, 117, 101, 32, 111, 117, 116, 32, 111, 102, 32, 114, 97, 110, 103, 101]⟩] 270, .cells #[.string ⟨#[105, 110, 118, 97, 108, 105, 100, 32, 115, 121, 110, 116, 97, 120]⟩] 270], #[], []⟩
  { w0 with heap := ((((((((w0.heap.modify 7 (putCells #[.slice (some ⟨low, 0, none⟩) 336 336])).modify
      6 (putCells #[.iface 268 (.pointer (some ⟨low + 1, 0, none⟩))])).modify
      5 (putCells #[.iface 268 (.pointer (some ⟨low + 2, 0, none⟩))])).modify
      4 (putCells (cellsOfData Rows.laid_internal_strconv_uint64pow10).toArray)).modify
      1 (putCells (Lib.firstTab.map fun z => Value.int .u8 z).toArray)).modify
      2 (putCells (cellsOfData Rows.laid_unicode_utf8_acceptRanges).toArray)).modify
      8 (putCells (cellsOfData Rows.laid_math_bits_deBruijn32tab).toArray)).modify
      9 (putCells (cellsOfData Rows.laid_math_bits_deBruijn64tab).toArray)) }
theorem laidVars_swap {P : Program} {w : World} {x y : String × DataW Unit} : ∀ {l : List (String × DataW Unit)} {ps : List MemPlace}, DataW.LaidVars P w (l ++ [x, y]) ps → ∃ qs, DataW.LaidVars P w (l ++ [y, x]) qs ∧ qs.Perm ps
  | [], ps, h => by
    obtain ⟨g, t, cs, fuel, p, q, h1, h2, h3, h4, ⟨g', t', cs', fuel', p', q', k1, k2, k3, k4, k5, rfl⟩, rfl⟩ := h
    have k5' : q' = [] := k5
    subst k5'
    refine ⟨_, ⟨g', t', cs', fuel', p', _, k1, k2, k3, k4, ⟨g, t, cs, fuel, p, [], h1, h2, h3, h4, rfl, rfl⟩, rfl⟩, ?_⟩
    simp only [List.append_nil]
    exact List.perm_append_comm
  | z :: r, ps, h => by
    obtain ⟨g, t, cs, fuel, p, q, h1, h2, h3, h4, h5, rfl⟩ := h
    obtain ⟨qs, hq, hp⟩ := laidVars_swap (l := r) h5
    exact ⟨_, ⟨g, t, cs, fuel, p, qs, h1, h2, h3, h4, hq, rfl⟩, hp.append_left _⟩
theorem laidMet_swap {P : Program} {w : World} {x y : String × DataW Unit} {l : List (String × DataW Unit)} (h : laidMet P (l ++ [x, y]) w) : laidMet P (l ++ [y, x]) w := by
  obtain ⟨ps, h1, h2, h3⟩ := h
  obtain ⟨qs, hq, hp⟩ := laidVars_swap h1
  exact ⟨qs, hq, hp.nodup_iff.2 h2, fun b off hm => h3 b off (hp.mem_iff.1 hm)⟩
/-- the listed variables without the last two -/
def laid6 : List (String × DataW Unit) := [("math/bits.deBruijn32tab", Rows.laid_math_bits_deBruijn32tab), ("math/bits.deBruijn64tab", Rows.laid_math_bits_deBruijn64tab), ("internal/strconv.uint64pow10", Rows.laid_internal_strconv_uint64pow10), ("unicode/utf8.acceptRanges", Rows.laid_unicode_utf8_acceptRanges), ("strconv.ErrRange", Rows.laid_strconv_ErrRange), ("strconv.ErrSyntax", Rows.laid_strconv_ErrSyntax)]
def laidAll : List (String × DataW Unit) := laid6 ++ [("unicode.CaseRanges", Rows.laid_unicode_CaseRanges), ("unicode/utf8.first", Rows.laid_unicode_utf8_first)]
set_option maxRecDepth 100000 in
theorem laid_met (os : Os) (args : Array Value) : laidMet Tryz.prog laidAll ((laidWorld os).forCall (fun _ _ => 0) ⟨#[], args, []⟩).memory := by
  refine laidMet_swap ?_
  have h := laidMet_with_case (ρ := Tryz.lays203_ren) { Tryz.lays203 with } Tryz.lays203.t206 ⟨by kernel_rfl, by kernel_rfl, by kernel_rfl, by kernel_rfl, by kernel_rfl, by kernel_rfl⟩
    (w := ((laidWorld os).forCall (fun _ _ => 0) ⟨#[], args, []⟩).memory) (l := laid6 ++ [("unicode/utf8.first", Lib.firstData)])
    10 (by kernel_rfl) (by kernel_rfl) (by kernel_rfl) low 281 (of_decide_eq_true (by kernel_rfl)) (by kernel_rfl) (by kernel_rfl) (by kernel_rfl)
  rw [← Pinned.caseRanges_eq, ← Pinned.utf8First_eq, List.append_assoc] at h
  exact h
end Go.Proofs.YtimahlimmblgkaaGreatDoor.Sy
namespace Go.Proofs.YtimahlimmblgkaaGreatDoor.Sy
open Go Go.Lib
theorem u8x : U8Extra Tryz.prog Tryz.lays260_ren := ⟨by kernel_rfl, by kernel_rfl, by kernel_rfl, by kernel_rfl, by kernel_rfl, by kernel_rfl, by kernel_rfl⟩
theorem nSyn : Tryz.prog.globalNamed "strconv.ErrSyntax" = some 5 := by kernel_rfl
theorem nRng : Tryz.prog.globalNamed "strconv.ErrRange" = some 6 := by kernel_rfl
theorem nBru : Tryz.prog.globalNamed "math/bits.deBruijn64tab" = some 9 := by kernel_rfl
theorem tySyn : (Tryz.prog.globals[5]?).map (·.type) = some 114 := by kernel_rfl
theorem tyRng : (Tryz.prog.globals[6]?).map (·.type) = some 114 := by kernel_rfl
theorem tyBru : (Tryz.prog.globals[9]?).map (·.type) = some 277 := by kernel_rfl
theorem uErr : ∃ m, Tryz.prog.underlying 114 = some (.interface m) := ⟨_, Tryz.underlying114⟩
theorem uBru : Tryz.prog.underlying 277 = some (.array 64 5) := by kernel_rfl
theorem uU8 : Tryz.prog.underlying 5 = some (.int .u8) := by kernel_rfl
theorem cU8 : Tryz.prog.cellsOf 5 = 1 := by kernel_rfl
theorem cBru : Tryz.prog.cellsOf 277 = 64 := by kernel_rfl
theorem bru_tab : (Rows.laid_math_bits_deBruijn64tab : DataW Unit) = Lib.tabData .u8 [0, 1, 56, 2, 57, 49, 28, 3, 61, 58, 42, 50, 38, 29, 17, 4, 62, 47, 59, 36, 45, 43, 51, 22, 53, 39, 33, 30, 24, 18, 12, 5, 63, 55, 48, 27, 60, 41, 37, 16, 46, 35, 44, 21, 52, 32, 23, 11, 54, 26, 40, 15, 34, 20, 31, 10, 25, 14, 19, 9, 13, 8, 7, 6] := by kernel_rfl
theorem iface_of_reads {W : World} {n : String} {g : Nat} {t : TypeId} {m : Array (String × TypeId)} {s : String} {d0 : DataW Unit} (hn : Tryz.prog.globalNamed n = some g) (ht : (Tryz.prog.globals[g]?).map (·.type) = some t) (hu : Tryz.prog.underlying t = some (.interface m))
    (h : VarReads Tryz.prog W n (.iface s d0)) : ∃ te pe, W.cell? ⟨g, 0, none⟩ = some (.iface te pe) := by
  obtain ⟨g', t', cs, fuel, p, hg, hty, hv, hd⟩ := h
  obtain rfl := Option.some.inj (hn.symm.trans hg)
  obtain rfl := Option.some.inj (ht.symm.trans hty)
  obtain ⟨f1, u, v, hcs, _, _⟩ := iface_of_trod hu hd
  refine ⟨u, v, ?_⟩
  rw [World.var?_cell hn hv 0, ← Array.getElem?_toList, hcs]
  rfl
theorem cell_below {W : World} {g o : Nat} {v : Value} (h : W.cell? ⟨g, o, none⟩ = some v) : g < W.heap.size := by
  unfold World.cell? at h
  rcases Nat.lt_or_ge g W.heap.size with h' | h'
  · exact h'
  · simp [Array.getElem?_eq_none h'] at h
theorem bru_of_reads {W : World} (h : VarReads Tryz.prog W "math/bits.deBruijn64tab" Rows.laid_math_bits_deBruijn64tab) : W.cell? ⟨9, 15, none⟩ = some (.int .u8 4) := by
  obtain ⟨g', t', cs, fuel, p, hg, hty, hv, hd⟩ := h
  obtain rfl := Option.some.inj (nBru.symm.trans hg)
  obtain rfl := Option.some.inj (tyBru.symm.trans hty)
  rw [bru_tab] at hd
  have hcs := cells_of_tab uBru uU8 cU8 cBru hd
  rw [World.var?_cell nBru hv 15, ← Array.getElem?_toList, hcs]
  rfl
theorem acc_data : (Rows.laid_unicode_utf8_acceptRanges : DataW Unit) = Lib.acceptData := by kernel_rfl
theorem lv_of_laid {W : World} (h : laidMet Tryz.prog laidAll W) : Lv W := by
  have hs := iface_of_reads nSyn tySyn uErr.choose_spec (laidMet.reads h (List.mem_append.2 (.inl (.tail _ (.tail _ (.tail _ (.tail _ (.tail _ (.head _)))))))) : VarReads Tryz.prog W "strconv.ErrSyntax" Rows.laid_strconv_ErrSyntax)
  have hr := iface_of_reads nRng tyRng uErr.choose_spec (laidMet.reads h (List.mem_append.2 (.inl (.tail _ (.tail _ (.tail _ (.tail _ (.head _))))))) : VarReads Tryz.prog W "strconv.ErrRange" Rows.laid_strconv_ErrRange)
  have hb := bru_of_reads (laidMet.reads h (List.mem_append.2 (.inl (.tail _ (.head _)))))
  have h3 : VarReads Tryz.prog W "unicode/utf8.first" Rows.laid_unicode_utf8_first := laidMet.reads h (List.mem_append.2 (.inr (.tail _ (.head _))))
  have h4 : VarReads Tryz.prog W "unicode/utf8.acceptRanges" Rows.laid_unicode_utf8_acceptRanges := laidMet.reads h (List.mem_append.2 (.inl (.tail _ (.tail _ (.tail _ (.head _))))))
  rw [acc_data] at h4
  rw [show (Rows.laid_unicode_utf8_first : DataW Unit) = Lib.firstData from Pinned.utf8First_eq] at h3
  refine ⟨?_, hs, hr, utf8Tabs_of_reads { Tryz.lays260 with } u8x h3 h4, hb⟩
  have := cell_below hb
  obtain ⟨_, _, e1⟩ := hs
  obtain ⟨_, _, e2⟩ := hr
  have := cell_below e1
  have := cell_below e2
  omega
theorem nPow : Tryz.prog.globalNamed "internal/strconv.uint64pow10" = some 4 := by kernel_rfl
theorem tyPow : (Tryz.prog.globals[4]?).map (·.type) = some 245 := by kernel_rfl
theorem uPow : Tryz.prog.underlying 245 = some (.array 20 162) := by kernel_rfl
theorem uU64 : Tryz.prog.underlying 162 = some (.int .u64) := by kernel_rfl
theorem cU64 : Tryz.prog.cellsOf 162 = 1 := by kernel_rfl
theorem cPow : Tryz.prog.cellsOf 245 = 20 := by kernel_rfl
theorem pow_tab : (Rows.laid_internal_strconv_uint64pow10 : DataW Unit) = Lib.tabData .u64 Lib.pow10Tab := by kernel_rfl
theorem pow_of_reads {W : World} (h : VarReads Tryz.prog W "internal/strconv.uint64pow10" Rows.laid_internal_strconv_uint64pow10) : Lib.TabIs Tryz.prog W "internal/strconv.uint64pow10" .u64 Lib.pow10Tab := by
  obtain ⟨g', t', cs, fuel, p, hg, hty, hv, hd⟩ := h
  obtain rfl := Option.some.inj (nPow.symm.trans hg)
  obtain rfl := Option.some.inj (tyPow.symm.trans hty)
  rw [pow_tab] at hd
  unfold Lib.TabIs
  rw [hv, ← cells_of_tab uPow uU64 cU64 cPow hd]
theorem maxlen_cell {W : World} (hs : W.ShapedOpen Tryz.prog) : ∃ m, W.cell? ⟨3, 0, none⟩ = some (.int .i64 m) :=
  Go.Proofs.cell_of_shapedOpen_int (zero := #[.int .i64 0]) (t := 3) hs (of_decide_eq_true (by kernel_rfl)) (by kernel_rfl) rfl (by kernel_rfl) (by kernel_rfl) Tryz.underlying3
theorem vs_of {W : World} (h : laidMet Tryz.prog laidAll W) (hs : W.ShapedOpen Tryz.prog) : Vs W :=
  ⟨lv_of_laid h, pow_of_reads (laidMet.reads h (List.mem_append.2 (.inl (.tail _ (.tail _ (.head _)))))), maxlen_cell hs⟩
end Go.Proofs.YtimahlimmblgkaaGreatDoor.Sy
namespace Go.Proofs.YtimahlimmblgkaaGreatDoor.Sy
open Go.ChangeShapes Go.WideShapes Go.ChangeAt Go.RowKit Go.Deep
theorem ownKnob0 : ownKnob Tryz.prog.godebug = none := by kernel_rfl
theorem laidOut0 : laidOutB Tryz.prog = true := by kernel_rfl
section
variable {H : Type} {enc : TypeId × Value → H} {P : Program} {w : World} {base : Nat} {spare : Nat → Bool} {held : Bool}
/-- A slice of structs of one-cell fields, opened at every element and every field. -/
theorem open_fields {t e : TypeId} {fs : Array Field} {fuel : Nat} {cs : List Value} {x : DataW H × List MemPlace} (ht : P.underlying t = some (.slice e)) (he : P.underlying e = some (.struct fs))
    (hone : oneCellFields P fs = true) (hC : P.cellsOf e = fs.size) (h : DataW.trod enc P w base spare held fuel t cs = some x) :
    cs = [.slice none 0 0] ∨
    ∃ (a : Addr) (len cap m : Nat), cs = [.slice (some a) len cap] ∧ len ≤ cap ∧ cap ≤ maxLen ∧ m = (if spare a.block then cap else len) ∧
      ∀ i, i < m → ∀ (j : Nat) (f : Field), fs[j]? = some f → ∃ (v : Value) (y : DataW H × List MemPlace) (n : Nat), w.cell? (a.add (i * fs.size + j)) = some v ∧ DataW.trod enc P w base spare held n f.type [v] = some y := by
  rcases open_slice ht h with ⟨h0, _⟩ | ⟨a, len, cap, m, n, D, Pl, hcs, hb, hl, hm, hmm, hx, hi⟩
  · exact .inl h0
  · refine .inr ⟨a, len, cap, m, hcs, hl, hm, hmm, fun i him j f hj => ?_⟩
    obtain ⟨cs', hc, ht'⟩ := hi i him
    rw [hC] at hc
    obtain ⟨ys, n', hn', hy, hlen, hyl, hf⟩ := DataW.trod_struct he ht'
    obtain ⟨_, hcl, hat⟩ := World.cells?_some hc
    obtain ⟨ho, hk⟩ := hone_of hone j f hj
    have hjl : j < fs.size := (Array.getElem?_eq_some_iff.1 hj).1
    have hcell := hat j hjl
    have hv : cs'[j]? = some (cs'[j]'(by omega)) := List.getElem?_eq_getElem (by omega)
    have h1 := hf j f hj
    rw [ho, hk] at h1
    have hone' : (cs'.drop j).take 1 = [cs'[j]'(by omega)] := by
      rw [List.drop_eq_getElem_cons (by omega)]
      rfl
    rw [hone'] at h1
    have hys : ys[j]? = some (ys[j]'(by omega)) := List.getElem?_eq_getElem (by omega)
    refine ⟨_, _, n', ?_, h1.trans hys⟩
    rw [← Go.Deep.add_add, hcell, hv]
end
/-- The last step of a law that returns true and changes nothing that was there. -/
theorem post_true {H : Type} {enc : TypeId × Value → H} {P : Program} {f : Func} {s : ChangeSpec} {t : TypeId} {W W' : World} {args : Array Value} {ds gs : List (DataW H)} {before : List MemPlace}
    (hW : DataW.Whole enc P f.params.toList s.vars false W args.toList ds gs before) (hr : f.resultTypes = #[t]) (ht : P.underlying t = some .bool) (hs : s.vars = [])
    (hfn : s.fn H (ds ++ gs) = { results := [.lit (.bool true)], args := ds }) (hA : DataW.TrodAll enc P W' 0 (fun b => decide (b < W.heap.size)) true f.params.toList args.toList ds before)
    (hb : Below W.heap.size W W') : s.post enc P f false true false false W args (.bool true) W' := by
  refine ⟨ds, gs, before, [], before, [], hW, ?_, ?_, ?_, World.keptBut_mono (fun p hp => ⟨hp, .inr (.inl hp)⟩) (hb.frame (· ∈ before)), fun h => by cases h⟩
  · rw [hfn, hr]
    exact trodAll_cons_mk (shut_bool ht _) trodAll_mk0
  · rw [hfn]
    exact hA
  · rw [hfn, hs]
    rfl
theorem add_at (b off k : Nat) : (⟨b, off, none⟩ : Addr).add k = ⟨b, off + k, none⟩ := by
  unfold Addr.add
  by_cases h : k = 0 <;> simp [h]
theorem fits_u8 (z : Int) : (Lit.int .u8 z).wf = true ↔ 0 ≤ z ∧ z ≤ 255 := by
  simp only [Lit.wf, Bool.and_eq_true, decide_eq_true_eq]
  exact Iff.rfl
theorem trodAll_below {H : Type} {enc : TypeId × Value → H} {P : Program} (hl : laidOutB P = true) {W W' : World} (hb : Below W.heap.size W W') :
    ∀ (ts : List TypeId) (vs : List Value) (ds : List (DataW H)) (ps : List MemPlace), ts.all (fun t => P.readableRec t && decide (t < P.types.size)) = true → DataW.TrodAll enc P W 0 (fun _ => true) true ts vs ds ps → (∀ x ∈ ps, x.block < W.heap.size) →
      DataW.TrodAll enc P W' 0 (fun b => decide (b < W.heap.size)) true ts vs ds ps
  | [], vs, ds, ps, _, h, _ => by
    obtain ⟨rfl, rfl, rfl⟩ := trodAll_nil h
    exact trodAll_mk0
  | t :: ts, vs, ds, ps, hts, h, hlt => by
    obtain ⟨v, vs, d, ds, p, q, rfl, rfl, rfl, hd, hr⟩ := trodAll_cons h
    simp only [List.all_cons, Bool.and_eq_true, decide_eq_true_eq] at hts
    exact trodAll_cons_mk (Below.trod hl hts.1.1 hts.1.2 hd hb (fun x hx => hlt x (List.mem_append_left _ hx)))
      (trodAll_below hl hb ts vs ds q hts.2 hr (fun x hx => hlt x (List.mem_append_right _ hx)))
theorem law_true {H : Type} {enc : TypeId × Value → H} {P : Program} (hl : laidOutB P = true) {f : Func} {s : ChangeSpec} {t : TypeId} {W W' : World} {args : Array Value} {ds gs : List (DataW H)} {before : List MemPlace}
    (hW : DataW.Whole enc P f.params.toList s.vars false W args.toList ds gs before) (hts : f.params.toList.all (fun t => P.readableRec t && decide (t < P.types.size)) = true) (hs : s.vars = []) (hr : f.resultTypes = #[t]) (ht : P.underlying t = some .bool)
    (hfn : s.fn H (ds ++ gs) = { results := [.lit (.bool true)], args := ds }) (hb : Below W.heap.size W W') : s.post enc P f false true false false W args (.bool true) W' := by
  have hlt : ∀ x ∈ before, x.block < W.heap.size := fun x hx => by simpa using hW.lt x hx
  obtain ⟨p, q, hA, hV, hpq, hfz, hnd⟩ := id hW
  have hA : DataW.TrodAll enc P W 0 (fun _ => true) true f.params.toList args.toList ds p := hA
  have hV : DataW.TrodVars enc P W (fun _ => true) s.vars gs q := hV
  rw [hs] at hV
  obtain ⟨rfl, rfl⟩ := trodVars_none hV
  rw [List.append_nil] at hpq
  subst hpq
  exact post_true hW hr ht hs hfn (trodAll_below hl hb _ _ _ _ hts hA hlt) hb
theorem wf_u8 {z : Int} (h : (Lit.int .u8 z).wf = true) : 0 ≤ z ∧ z ≤ 255 := by
  simp only [Lit.wf, Bool.and_eq_true, decide_eq_true_eq] at h
  exact h
theorem wf_u16 {z : Int} (h : (Lit.int .u16 z).wf = true) : 0 ≤ z ∧ z ≤ 65535 := by
  simp only [Lit.wf, Bool.and_eq_true, decide_eq_true_eq] at h
  exact h
theorem wf_u32 {z : Int} (h : (Lit.int .u32 z).wf = true) : 0 ≤ z ∧ z ≤ 4294967295 := by
  simp only [Lit.wf, Bool.and_eq_true, decide_eq_true_eq] at h
  exact h
theorem wf_int {z : Int} (h : (Lit.int .i64 z).wf = true) : -9223372036854775808 ≤ z ∧ z ≤ 9223372036854775807 := by
  simp only [Lit.wf, Bool.and_eq_true, decide_eq_true_eq] at h
  exact h
theorem cells3 : Tryz.prog.cellsOf 88 = 3 := by kernel_rfl
theorem small_fields : ∃ f0 f1 f2 : Field, Tryz.prog.underlying 88 = some (.struct #[f0, f1, f2]) ∧ f0.type = 5 ∧ f1.type = 5 ∧ f2.type = 5 ∧ oneCellFields Tryz.prog #[f0, f1, f2] = true :=
  ⟨_, _, _, Tryz.underlying88, rfl, rfl, rfl, by kernel_rfl⟩
set_option maxRecDepth 100000 in
theorem open_small {H : Type} {enc : TypeId × Value → H} {W : World} {base : Nat} {v : Value} {d : DataW H} {ps : List MemPlace} (hval : Value.okWide Tryz.prog W .any base 22 v)
    (h : DataW.Trod enc Tryz.prog W 0 (fun _ => true) true 22 v d ps) : ∃ a cap l, v = .slice a (List.length l) cap ∧ RdF W a (sFlat l) ∧ (a = none → l = [] ∧ cap = 0) ∧ (∀ x ∈ l, SmOK x) ∧ l.length ≤ cap ∧ cap ≤ maxLen := by
  obtain ⟨a, len, cap, rfl⟩ := okWide_slice Tryz.underlying22 hval
  obtain ⟨fuel, hf⟩ := h
  obtain ⟨f0, f1, f2, hu, t0, t1, t2, hone⟩ := small_fields
  rcases open_fields Tryz.underlying22 hu hone cells3 hf with hcs | ⟨a', len', cap', m, hcs, hl, hm, hmm, hall⟩
  · have hcs : [Value.slice a len cap] = [.slice none 0 0] := hcs
    cases hcs
    exact ⟨none, 0, [], rfl, fun h => absurd rfl h, fun _ => ⟨rfl, rfl⟩, (fun x hx => by cases hx), Nat.le_refl _, Nat.zero_le _⟩
  · have hcs : [Value.slice a len cap] = [.slice (some a') len' cap'] := hcs
    cases hcs
    simp only [if_true] at hmm
    subst hmm
    have hint : ∀ i, i < len → ∀ j f, (#[f0, f1, f2] : Array Field)[j]? = some f → f.type = 5 → ∃ z : Int, W.cell? (a'.add (i * 3 + j)) = some (.int .u8 z) ∧ 0 ≤ z ∧ z ≤ 255 := by
      intro i hi j f hj ht
      obtain ⟨v, y, n, hc, hy⟩ := hall i (by omega) j f hj
      rw [ht] at hy
      obtain ⟨z, e, _, hw⟩ := DataW.trod_int Tryz.underlying5 hy
      simp only [List.cons.injEq, and_true] at e
      subst e
      have := (fits_u8 z).1 hw
      exact ⟨z, hc, by omega, by omega⟩
    have h3 : ∀ i, i < len → ∃ r : Sm, W.cell? (a'.add (i * 3)) = some (.int .u8 r.kind) ∧ W.cell? (a'.add (i * 3 + 1)) = some (.int .u8 r.a) ∧ W.cell? (a'.add (i * 3 + 2)) = some (.int .u8 r.b) ∧ SmOK r := by
      intro i hi
      obtain ⟨x, hx, x1, x2⟩ := hint i hi 0 f0 rfl t0
      obtain ⟨y, hy, y1, y2⟩ := hint i hi 1 f1 rfl t1
      obtain ⟨z, hz, z1, z2⟩ := hint i hi 2 f2 rfl t2
      exact ⟨⟨x, y, z⟩, hx, hy, hz, ⟨x1, x2⟩, ⟨y1, y2⟩, z1, z2⟩
    haveI : Inhabited Sm := ⟨⟨0, 0, 0⟩⟩
    obtain ⟨g, hg⟩ := choose_lt h3
    obtain ⟨b, off, spot⟩ := a'
    refine ⟨some ⟨b, off, spot⟩, m, (List.range len).map g, by simp, fun hne => ?_, (fun e => by cases e), fun x hx => ?_, by simpa using hl, hm⟩
    · have h0 : 0 < len := by
        rcases Nat.eq_zero_or_pos len with e | e
        · subst e; exact absurd rfl hne
        · exact e
      have hspot : spot = none := by simpa [Addr.add] using World.cell?_spot (hg 0 h0).1
      subst hspot
      refine ⟨b, off, rfl, cell_below (g := b) (o := off) (by simpa [Addr.add] using (hg 0 h0).1), fun j u hu => ?_⟩
      have hj := (List.getElem?_eq_some_iff.1 hu).1
      rw [sFlat_length, List.length_map, List.length_range] at hj
      have hm4 := Nat.mod_lt j (show 3 > 0 by decide)
      have hi : j / 3 < len := by omega
      obtain ⟨c0, c1, c2, _⟩ := hg (j / 3) hi
      rw [add_at] at c0 c1 c2
      have hgx : ((List.range len).map g)[j / 3]? = some (g (j / 3)) := by rw [List.getElem?_map, List.getElem?_range hi]; rfl
      have hat := fun v hv => (flat_at smC 3 (fun _ => rfl) (j := j % 3) (v := v) hgx hv)
      rw [show j / 3 * 3 + j % 3 = j by omega] at hat
      have hsel : ∀ v, (smC (g (j / 3)))[j % 3]? = some v → v = u := fun v hv => Option.some.inj ((hat v hv).symm.trans hu)
      rcases (show j % 3 = 0 ∨ j % 3 = 1 ∨ j % 3 = 2 by omega) with e | e | e
      · have := hsel (.int .u8 (g (j / 3)).kind) (by rw [e]; rfl)
        subst this
        rw [show off + j = off + j / 3 * 3 by omega]; exact c0
      · have := hsel (.int .u8 (g (j / 3)).a) (by rw [e]; rfl)
        subst this
        rw [show off + j = off + (j / 3 * 3 + 1) by omega]; exact c1
      · have := hsel (.int .u8 (g (j / 3)).b) (by rw [e]; rfl)
        subst this
        rw [show off + j = off + (j / 3 * 3 + 2) by omega]; exact c2
    · obtain ⟨i, hi, rfl⟩ := List.mem_map.1 hx
      exact (hg i (List.mem_range.1 hi)).2.2.2
end Go.Proofs.YtimahlimmblgkaaGreatDoor.Sy
