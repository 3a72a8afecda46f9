/- The card of the law SinkSmall: whatever the input, it returns true. Its conditions: the package-level variables that it lists read as the program's text lays them. -/
import Derived.Test.YtdgfldeeflmnmaaGreatDoorSKtB
import Derived.Test.YtdgfldeeflmnmaaGreatDoorRows
import Derived.Test.YtdgfldeeflmnmaaGreatDoorCards
import Derived.Test.YtdgfldeeflmnmaaGreatDoorTie
import Derived.LaidLaws
import Derived.Deep.DeepLaidRun
import Derived.PinnedBridge
import Derived.Lib.LaidU8
import Derived.ProofKit
import Derived.OpenShut
import Derived.Below
import Derived.Carry
import Derived.ChangeSame
import Derived.Deep.Slices
import Derived.Deep.Fields
import Derived.Deep.DeepHandedRow
import Derived.Deep.DeepWitnessRowRef
import Derived.Test.YtdgfldeeflmnmaaGreatDoorSKbR
import Derived.Test.YtdgfldeeflmnmaaGreatDoorSKSs
namespace Go.Proofs.YtdgfldeeflmnmaaGreatDoor.Sk
open Go
/-- the cells that a datum fills -/
def cellsF : Nat → DataW Unit → List Value
  | _, .lit (.int k n) => [.int k n]
  | f + 1, .agg l => l.flatMap (cellsF f)
  | _, _ => []
def cellsOfData (d : DataW Unit) : List Value := cellsF 5 d
def putCells (cs : Array Value) : Obj → Obj
  | .cells _ t fz => .cells cs t fz
  | o => o
end Go.Proofs.YtdgfldeeflmnmaaGreatDoor.Sk
namespace Go.Proofs.YtdgfldeeflmnmaaGreatDoor.Sk
open Go Go.Lib
theorem nBru : Tryz.prog.globalNamed "math/bits.deBruijn64tab" = some 8 := by kernel_rfl
theorem tyBru : (Tryz.prog.globals[8]?).map (·.type) = some 275 := by kernel_rfl
theorem uBru : Tryz.prog.underlying 275 = some (.array 64 5) := by kernel_rfl
theorem uU8 : Tryz.prog.underlying 5 = some (.int .u8) := by kernel_rfl
theorem cU8 : Tryz.prog.cellsOf 5 = 1 := by kernel_rfl
theorem cBru : Tryz.prog.cellsOf 275 = 64 := by kernel_rfl
theorem nPow : Tryz.prog.globalNamed "internal/strconv.uint64pow10" = some 1 := by kernel_rfl
theorem tyPow : (Tryz.prog.globals[1]?).map (·.type) = some 228 := by kernel_rfl
theorem uPow : Tryz.prog.underlying 228 = some (.array 20 32) := by kernel_rfl
theorem uU64 : Tryz.prog.underlying 32 = some (.int .u64) := by kernel_rfl
theorem cU64 : Tryz.prog.cellsOf 32 = 1 := by kernel_rfl
theorem cPow : Tryz.prog.cellsOf 228 = 20 := by kernel_rfl
theorem bru_tab : (Rows.laid_math_bits_deBruijn64tab : DataW Unit) = Lib.tabData .u8 [0, 1, 56, 2, 57, 49, 28, 3, 61, 58, 42, 50, 38, 29, 17, 4, 62, 47, 59, 36, 45, 43, 51, 22, 53, 39, 33, 30, 24, 18, 12, 5, 63, 55, 48, 27, 60, 41, 37, 16, 46, 35, 44, 21, 52, 32, 23, 11, 54, 26, 40, 15, 34, 20, 31, 10, 25, 14, 19, 9, 13, 8, 7, 6] := by kernel_rfl
theorem pow_tab : (Rows.laid_internal_strconv_uint64pow10 : DataW Unit) = Lib.tabData .u64 Lib.pow10Tab := by kernel_rfl
theorem cell_below {W : World} {g o : Nat} {v : Value} (h : W.cell? ⟨g, o, none⟩ = some v) : g < W.heap.size := by
  unfold World.cell? at h
  rcases Nat.lt_or_ge g W.heap.size with h' | h'
  · exact h'
  · simp [Array.getElem?_eq_none h'] at h
theorem bru_of_reads {W : World} (h : VarReads Tryz.prog W "math/bits.deBruijn64tab" Rows.laid_math_bits_deBruijn64tab) : W.cell? ⟨8, 15, none⟩ = some (.int .u8 4) := by
  obtain ⟨g', t', cs, fuel, p, hg, hty, hv, hd⟩ := h
  obtain rfl := Option.some.inj (nBru.symm.trans hg)
  obtain rfl := Option.some.inj (tyBru.symm.trans hty)
  rw [bru_tab] at hd
  have hcs := cells_of_tab uBru uU8 cU8 cBru hd
  rw [World.var?_cell nBru hv 15, ← Array.getElem?_toList, hcs]
  rfl
theorem pow_of_reads {W : World} (h : VarReads Tryz.prog W "internal/strconv.uint64pow10" Rows.laid_internal_strconv_uint64pow10) : Lib.TabIs Tryz.prog W "internal/strconv.uint64pow10" .u64 Lib.pow10Tab := by
  obtain ⟨g', t', cs, fuel, p, hg, hty, hv, hd⟩ := h
  obtain rfl := Option.some.inj (nPow.symm.trans hg)
  obtain rfl := Option.some.inj (tyPow.symm.trans hty)
  rw [pow_tab] at hd
  unfold Lib.TabIs
  rw [hv, ← cells_of_tab uPow uU64 cU64 cPow hd]
theorem maxlen_cell {W : World} (hs : W.ShapedOpen Tryz.prog) : ∃ m, W.cell? ⟨4, 0, none⟩ = some (.int .i64 m) :=
  Go.Proofs.cell_of_shapedOpen_int (zero := #[.int .i64 0]) (t := 3) hs (of_decide_eq_true (by kernel_rfl)) (by kernel_rfl) rfl (by kernel_rfl) (by kernel_rfl) Tryz.underlying3
theorem ev_of_reads {W : World} (hb : VarReads Tryz.prog W "math/bits.deBruijn64tab" Rows.laid_math_bits_deBruijn64tab) (hp : VarReads Tryz.prog W "internal/strconv.uint64pow10" Rows.laid_internal_strconv_uint64pow10) (hs : W.ShapedOpen Tryz.prog) : Ev W := by
  have hb := bru_of_reads hb
  have hp := pow_of_reads hp
  obtain ⟨m, hm⟩ := maxlen_cell hs
  exact ⟨⟨cell_below hb, hb⟩, ⟨cell_below hm, m, hm⟩, hp⟩
end Go.Proofs.YtdgfldeeflmnmaaGreatDoor.Sk
namespace Go.Proofs.YtdgfldeeflmnmaaGreatDoor.Sk
open Go.ChangeShapes Go.WideShapes Go.ChangeAt Go.RowKit Go.Deep
theorem ownKnob0 : ownKnob Tryz.prog.godebug = none := by kernel_rfl
theorem laidOut0 : laidOutB Tryz.prog = true := by kernel_rfl
section
variable {H : Type} {enc : TypeId × Value → H} {P : Program} {w : World} {base : Nat} {spare : Nat → Bool} {held : Bool}
end
/-- The last step of a law that returns true and changes nothing that was there. -/
theorem post_true {H : Type} {enc : TypeId × Value → H} {P : Program} {f : Func} {s : ChangeSpec} {t : TypeId} {W W' : World} {args : Array Value} {ds gs : List (DataW H)} {before : List MemPlace}
    (hW : DataW.Whole enc P f.params.toList s.vars false W args.toList ds gs before) (hr : f.resultTypes = #[t]) (ht : P.underlying t = some .bool) (hs : s.vars = [])
    (hfn : s.fn H (ds ++ gs) = { results := [.lit (.bool true)], args := ds }) (hA : DataW.TrodAll enc P W' 0 (fun b => decide (b < W.heap.size)) true f.params.toList args.toList ds before)
    (hb : Below W.heap.size W W') : s.post enc P f false true false false W args (.bool true) W' := by
  refine ⟨ds, gs, before, [], before, [], hW, ?_, ?_, ?_, World.keptBut_mono (fun p hp => ⟨hp, .inr (.inl hp)⟩) (hb.frame (· ∈ before)), fun h => by cases h⟩
  · rw [hfn, hr]
    exact trodAll_cons_mk (shut_bool ht _) trodAll_mk0
  · rw [hfn]
    exact hA
  · rw [hfn, hs]
    rfl
theorem trodAll_below {H : Type} {enc : TypeId × Value → H} {P : Program} (hl : laidOutB P = true) {W W' : World} (hb : Below W.heap.size W W') :
    ∀ (ts : List TypeId) (vs : List Value) (ds : List (DataW H)) (ps : List MemPlace), ts.all (fun t => P.readableRec t && decide (t < P.types.size)) = true → DataW.TrodAll enc P W 0 (fun _ => true) true ts vs ds ps → (∀ x ∈ ps, x.block < W.heap.size) →
      DataW.TrodAll enc P W' 0 (fun b => decide (b < W.heap.size)) true ts vs ds ps
  | [], vs, ds, ps, _, h, _ => by
    obtain ⟨rfl, rfl, rfl⟩ := trodAll_nil h
    exact trodAll_mk0
  | t :: ts, vs, ds, ps, hts, h, hlt => by
    obtain ⟨v, vs, d, ds, p, q, rfl, rfl, rfl, hd, hr⟩ := trodAll_cons h
    simp only [List.all_cons, Bool.and_eq_true, decide_eq_true_eq] at hts
    exact trodAll_cons_mk (Below.trod hl hts.1.1 hts.1.2 hd hb (fun x hx => hlt x (List.mem_append_left _ hx)))
      (trodAll_below hl hb ts vs ds q hts.2 hr (fun x hx => hlt x (List.mem_append_right _ hx)))
theorem law_true {H : Type} {enc : TypeId × Value → H} {P : Program} (hl : laidOutB P = true) {f : Func} {s : ChangeSpec} {t : TypeId} {W W' : World} {args : Array Value} {ds gs : List (DataW H)} {before : List MemPlace}
    (hW : DataW.Whole enc P f.params.toList s.vars false W args.toList ds gs before) (hts : f.params.toList.all (fun t => P.readableRec t && decide (t < P.types.size)) = true) (hs : s.vars = []) (hr : f.resultTypes = #[t]) (ht : P.underlying t = some .bool)
    (hfn : s.fn H (ds ++ gs) = { results := [.lit (.bool true)], args := ds }) (hb : Below W.heap.size W W') : s.post enc P f false true false false W args (.bool true) W' := by
  have hlt : ∀ x ∈ before, x.block < W.heap.size := fun x hx => by simpa using hW.lt x hx
  obtain ⟨p, q, hA, hV, hpq, hfz, hnd⟩ := id hW
  have hA : DataW.TrodAll enc P W 0 (fun _ => true) true f.params.toList args.toList ds p := hA
  have hV : DataW.TrodVars enc P W (fun _ => true) s.vars gs q := hV
  rw [hs] at hV
  obtain ⟨rfl, rfl⟩ := trodVars_none hV
  rw [List.append_nil] at hpq
  subst hpq
  exact post_true hW hr ht hs hfn (trodAll_below hl hb _ _ _ _ hts hA hlt) hb
end Go.Proofs.YtdgfldeeflmnmaaGreatDoor.Sk
namespace Go.Proofs.YtdgfldeeflmnmaaGreatDoor.Sk
open Go Go.Lib
noncomputable def low7 : Nat := (World.holding Tryz.prog default ⟨#[], #[], []⟩).heap.size
noncomputable def laidWorld7 (os : Os) : World :=
  let w0 := World.holding Tryz.prog os ⟨#[.cells #[.string ⟨#[118, 97, 108, 117, 101, 32, 111, 117, 116, 32, 111, 102, 32, 114, 97, 110, 103, 101]⟩] 260, .cells #[.string ⟨#[105, 110, 118, 97, 108, 105, 100, 32, 115, 121, 110, 116, 97, 120]⟩] 260], #[], []⟩
  { w0 with heap := (((((((w0.heap.modify
      3 (putCells #[.iface 258 (.pointer (some ⟨low7, 0, none⟩))])).modify
      2 (putCells #[.iface 258 (.pointer (some ⟨low7 + 1, 0, none⟩))])).modify
      1 (putCells (cellsOfData Rows.laid_internal_strconv_uint64pow10).toArray)).modify
      5 (putCells (cellsOfData Rows.laid_unicode_utf8_first).toArray)).modify
      6 (putCells (cellsOfData Rows.laid_unicode_utf8_acceptRanges).toArray)).modify
      7 (putCells (cellsOfData Rows.laid_math_bits_deBruijn32tab).toArray)).modify
      8 (putCells (cellsOfData Rows.laid_math_bits_deBruijn64tab).toArray)) }
def laid7 : List (String × DataW Unit) := [("math/bits.deBruijn32tab", Rows.laid_math_bits_deBruijn32tab), ("math/bits.deBruijn64tab", Rows.laid_math_bits_deBruijn64tab), ("internal/strconv.uint64pow10", Rows.laid_internal_strconv_uint64pow10), ("unicode/utf8.acceptRanges", Rows.laid_unicode_utf8_acceptRanges), ("strconv.ErrRange", Rows.laid_strconv_ErrRange), ("strconv.ErrSyntax", Rows.laid_strconv_ErrSyntax), ("unicode/utf8.first", Rows.laid_unicode_utf8_first)]
set_option maxRecDepth 100000 in
theorem laid_met7 (os : Os) (args : Array Value) : laidMet Tryz.prog laid7 ((laidWorld7 os).forCall (fun _ _ => 0) ⟨#[], args, []⟩).memory :=
  laidMet_of_run3 10 (by as_aux_lemma => kernel_rfl) (by as_aux_lemma => kernel_rfl) (by as_aux_lemma => kernel_rfl)
theorem nSyn : Tryz.prog.globalNamed "strconv.ErrSyntax" = some 2 := by kernel_rfl
theorem nRng : Tryz.prog.globalNamed "strconv.ErrRange" = some 3 := by kernel_rfl
theorem tySyn : (Tryz.prog.globals[2]?).map (·.type) = some 109 := by kernel_rfl
theorem tyRng : (Tryz.prog.globals[3]?).map (·.type) = some 109 := by kernel_rfl
theorem uErr : ∃ m, Tryz.prog.underlying 109 = some (.interface m) := ⟨_, Tryz.underlying109⟩
theorem iface_of_reads {W : World} {n : String} {g : Nat} {t : TypeId} {m : Array (String × TypeId)} {s : String} {d0 : DataW Unit} (hn : Tryz.prog.globalNamed n = some g) (ht : (Tryz.prog.globals[g]?).map (·.type) = some t) (hu : Tryz.prog.underlying t = some (.interface m))
    (h : VarReads Tryz.prog W n (.iface s d0)) : ∃ te pe, W.cell? ⟨g, 0, none⟩ = some (.iface te pe) := by
  obtain ⟨g', t', cs, fuel, p, hg, hty, hv, hd⟩ := h
  obtain rfl := Option.some.inj (hn.symm.trans hg)
  obtain rfl := Option.some.inj (ht.symm.trans hty)
  obtain ⟨f1, u, v, hcs, _, _⟩ := iface_of_trod hu hd
  refine ⟨u, v, ?_⟩
  rw [World.var?_cell hn hv 0, ← Array.getElem?_toList, hcs]
  rfl
theorem ev_of7 {W : World} (h : laidMet Tryz.prog laid7 W) (hs : W.ShapedOpen Tryz.prog) : Ev W := ev_of_reads (laidMet.reads h (.tail _ (.head _))) (laidMet.reads h (.tail _ (.tail _ (.head _)))) hs
theorem es_of7 {W : World} (h : laidMet Tryz.prog laid7 W) : Es W := by
  have hr := iface_of_reads nRng tyRng uErr.choose_spec (laidMet.reads h (.tail _ (.tail _ (.tail _ (.tail _ (.head _))))) : VarReads Tryz.prog W "strconv.ErrRange" Rows.laid_strconv_ErrRange)
  have hs := iface_of_reads nSyn tySyn uErr.choose_spec (laidMet.reads h (.tail _ (.tail _ (.tail _ (.tail _ (.tail _ (.head _)))))) : VarReads Tryz.prog W "strconv.ErrSyntax" Rows.laid_strconv_ErrSyntax)
  exact ⟨hs, hr⟩
end Go.Proofs.YtdgfldeeflmnmaaGreatDoor.Sk
namespace Go.Proofs.YtdgfldeeflmnmaaGreatDoor.skSmall
open Go.Proofs.YtdgfldeeflmnmaaGreatDoor.Sk Go.ChangeShapes Go.WideShapes Go.ChangeAt Go.RowKit
set_option maxRecDepth 100000 in
theorem contract (H : Type) (enc : TypeId × Value → H) (W : World) (base : Nat) (args : Array Value) (ds gs : List (DataW H)) (before : List MemPlace)
    (hval : ∀ (j : Nat) t v, Tryz.f4.params[j]? = some t → args[j]? = some v → Value.okWide Tryz.prog W .any base t v)
    (hW : DataW.Whole enc Tryz.prog Tryz.f4.params.toList Rows.sinkSmallSpec.vars false W args.toList ds gs before) (hL : laidMetH Tryz.prog Rows.sinkSmallRow.laid W) (hsh : W.ShapedOpen Tryz.prog) :
    Calls Tryz.prog 4 args W fun e W' => ∃ v, e = .returned v ∧ Rows.sinkSmallSpec.post enc Tryz.prog Tryz.f4 false true false false W args v W' := by
  have hW' := hW
  obtain ⟨p, q, hA0, hV, rfl, hfz, hnd⟩ := hW
  have hA : DataW.TrodAll enc Tryz.prog W 0 (fun _ => true) true Tryz.f4.params.toList args.toList ds p := hA0
  rw [Tryz.params4] at hA hval
  obtain ⟨rfl, rfl, rfl⟩ := trodAll_none hA
  obtain ⟨rfl, rfl⟩ := trodVars_none hV
  have hL' : Ev W := ev_of7 hL hsh
  have hS' : Es W := es_of7 hL
  refine (small_calls W hL' hS').mono fun e W' ⟨he, hb⟩ => ?_
  subst he
  exact ⟨_, rfl, law_true laidOut0 hW' (by kernel_rfl) rfl (by kernel_rfl) Tryz.underlying4 rfl hb⟩
theorem reads (os : Os) {H : Type} (enc : TypeId × Value → H) : ∃ places, DataW.whole enc Tryz.prog ((laidWorld7 os).forCall (fun _ _ => 0) ⟨#[], #[], []⟩).memory Tryz.f4.params.toList Rows.sinkSmallSpec.vars false #[].toList 8 = some ([], [], places) :=
  ⟨[], by kernel_rfl⟩
set_option maxRecDepth 100000 in
theorem lifted (os : Os) (started : os.Started) (H : Type) (enc : TypeId × Value → H) (F : Stop.Interp) :
    ReturnsInHanded {} Tryz.checked os 4 .any ((OpenSpec.ofChange Rows.sinkSmallSpec).preRow enc Tryz.prog Tryz.f4 Rows.sinkSmallRow.domain false Rows.sinkSmallRow.laid) (((OpenSpec.ofChange Rows.sinkSmallSpec).at F).post enc Tryz.prog Tryz.f4 false true false false) := by
  obtain ⟨places, hx⟩ := reads os enc
  refine returnsInHanded_of_row (C := Tryz.checked) (s := OpenSpec.ofChange Rows.sinkSmallSpec) ownKnob0 started (by as_aux_lemma => kernel_rfl) Tryz.func4
    (witness_row_atRef (enc := enc) (C := Tryz.checked) false (laidWorld7 os) #[] rfl (by as_aux_lemma => kernel_rfl) (by as_aux_lemma => kernel_rfl) (by as_aux_lemma => kernel_rfl)
      (OpenSpec.preRow_of_cond 8 hx (by as_aux_lemma => kernel_rfl) (fun k hk => by cases hk) (by as_aux_lemma => kernel_rfl) (laid_met7 os _))) ?_
  intro W base args ds gs before hval hW _ _ _ hL hsh _
  exact contract H enc W base args ds gs before hval hW hL hsh
set_option maxHeartbeats 40000000 in
theorem closed : joinedFacts Tryz.pinned.checked.prog 4 Tryz.f4 (OpenSpec.ofChange Rows.sinkSmallSpec).bare Rows.sinkSmallRow = true := by
  unfold joinedFacts
  simp only [Bool.and_eq_true]
  repeat' apply And.intro
  all_goals as_aux_lemma => kernel_rfl
theorem said : Rows.SinkSmallSaid :=
  OpenClaim.holds_of_cond 4 Tryz.f4 rfl rfl rfl rfl rfl rfl rfl ⟨rfl, rfl, rfl, rfl, rfl⟩ rfl rfl rfl rfl rfl (by as_aux_lemma => kernel_rfl) Tryz.func4 closed
    (of_decide_eq_true (by as_aux_lemma => kernel_rfl)) (by as_aux_lemma => (unfold Func.isWrapper; first | (rw [if_pos (by decide +kernel)]; kernel_rfl) | (rw [if_neg (by decide +kernel)]; exact ⟨rfl, rfl⟩)))
    (fun os started H enc _ F => by rw [OpenClaim.pre_eq_preRow]; exact lifted os started H enc F)
theorem plain (f : FuncId) (fn : Func) (hf : Tryz.pinned.checked.prog.funcNamed "gauger/gaugerlaw38.SinkSmall" = some f) (hfn : Tryz.pinned.checked.prog.funcs[f]? = some fn) :
    true = Tryz.pinned.checked.prog.looks [] ∧ ∀ (j : Nat) t, fn.params[j]? = some t → Tryz.pinned.checked.prog.wantsStandIn t = false := by
  obtain rfl : f = 4 := Option.some.inj ((show Tryz.prog.funcNamed "gauger/gaugerlaw38.SinkSmall" = some 4 by kernel_rfl).symm.trans hf) |>.symm
  obtain rfl : fn = Tryz.f4 := (Option.some.inj (Tryz.func4.symm.trans hfn)).symm
  refine ⟨by kernel_rfl, fun j t ht => ?_⟩
  rw [Tryz.params4] at ht
  simp at ht
theorem card : Rows.SinkSmallCardSaid :=
  Claim7.holds_tied_plain_at .later [] _ _ _ _ said (fun _ h => by cases h) (by kernel_rfl) (fun _ h => by cases h) sinkSmall_row_tie rfl ⟨rfl, rfl⟩ (by kernel_rfl) rfl plain (by kernel_rfl)
end Go.Proofs.YtdgfldeeflmnmaaGreatDoor.skSmall
