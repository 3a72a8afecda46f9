/- Chapter 38: what the card of SinkBack wants: its listed variables, a small entry opened. -/
import Derived.Test.YtiooimdncocfdaaGreatDoorKzF
import Derived.Test.YtiooimdncocfdaaGreatDoorPuB
import Derived.Lib.SmallJoins
import Derived.Lib.Space
namespace Go.Proofs.YtiooimdncocfdaaGreatDoor.Sk
open Go Go.Lib
noncomputable def low9 : Nat := (World.holding Tryz.prog default ⟨#[], #[], []⟩).heap.size
noncomputable def laidWorld9 (os : Os) : World :=
  let w0 := World.holding Tryz.prog os ⟨#[.cells #[.string ⟨#[118, 97, 108, 117, 101, 32, 111, 117, 116, 32, 111, 102, 32, 114, 97, 110, 103, 101]⟩] 352, .cells #[.string ⟨#[105, 110, 118, 97, 108, 105, 100, 32, 115, 121, 110, 116, 97, 120]⟩] 352,
    .cells #[.slice (some ⟨low9 + 3, 0, none⟩) 7 7, .slice none 0 0, .int .i64 2] 297,
    .cells #[.int .u16 9, .int .u16 13, .int .u16 1, .int .u16 32, .int .u16 133, .int .u16 101, .int .u16 160, .int .u16 5760, .int .u16 5600, .int .u16 8192, .int .u16 8202, .int .u16 1, .int .u16 8232, .int .u16 8233, .int .u16 1, .int .u16 8239, .int .u16 8287, .int .u16 48, .int .u16 12288, .int .u16 12288, .int .u16 1] 300], #[], []⟩
  { w0 with heap := (((((((((w0.heap.modify 1 (putCells #[.pointer (some ⟨low9 + 2, 0, none⟩)])).modify
      5 (putCells #[.iface 350 (.pointer (some ⟨low9, 0, none⟩))])).modify
      4 (putCells #[.iface 350 (.pointer (some ⟨low9 + 1, 0, none⟩))])).modify
      0 (putCells (cellsOfData Rows.laid_strings_asciiSpace).toArray)).modify
      3 (putCells (cellsOfData Rows.laid_internal_strconv_uint64pow10).toArray)).modify
      7 (putCells (cellsOfData Rows.laid_unicode_utf8_first).toArray)).modify
      8 (putCells (cellsOfData Rows.laid_unicode_utf8_acceptRanges).toArray)).modify
      9 (putCells (cellsOfData Rows.laid_math_bits_deBruijn32tab).toArray)).modify
      10 (putCells (cellsOfData Rows.laid_math_bits_deBruijn64tab).toArray)) }
def laid9 : List (String × DataW Unit) := [("math/bits.deBruijn32tab", Rows.laid_math_bits_deBruijn32tab), ("math/bits.deBruijn64tab", Rows.laid_math_bits_deBruijn64tab), ("internal/strconv.uint64pow10", Rows.laid_internal_strconv_uint64pow10), ("unicode/utf8.acceptRanges", Rows.laid_unicode_utf8_acceptRanges), ("strconv.ErrRange", Rows.laid_strconv_ErrRange), ("strconv.ErrSyntax", Rows.laid_strconv_ErrSyntax), ("unicode.White_Space", Rows.laid_unicode_White_Space), ("strings.asciiSpace", Rows.laid_strings_asciiSpace), ("unicode/utf8.first", Rows.laid_unicode_utf8_first)]
set_option maxRecDepth 100000 in
theorem laid_met9 (os : Os) (args : Array Value) : laidMet Tryz.prog laid9 ((laidWorld9 os).forCall (fun _ _ => 0) ⟨#[], args, []⟩).memory :=
  laidMet_of_run3 10 (by as_aux_lemma => kernel_rfl) (by as_aux_lemma => kernel_rfl) (by as_aux_lemma => kernel_rfl)
theorem nSyn : Tryz.prog.globalNamed "strconv.ErrSyntax" = some 4 := by kernel_rfl
theorem nRng : Tryz.prog.globalNamed "strconv.ErrRange" = some 5 := by kernel_rfl
theorem tySyn : (Tryz.prog.globals[4]?).map (·.type) = some 122 := by kernel_rfl
theorem tyRng : (Tryz.prog.globals[5]?).map (·.type) = some 122 := by kernel_rfl
theorem uErr : ∃ m, Tryz.prog.underlying 122 = some (.interface m) := ⟨_, Tryz.underlying122⟩
theorem nAsp : Tryz.prog.globalNamed "strings.asciiSpace" = some 0 := by kernel_rfl
theorem tyAsp : (Tryz.prog.globals[0]?).map (·.type) = some 186 := by kernel_rfl
theorem uAsp : Tryz.prog.underlying 186 = some (.array 256 5) := by kernel_rfl
theorem cAsp : Tryz.prog.cellsOf 186 = 256 := by kernel_rfl
theorem asp_tab : (Rows.laid_strings_asciiSpace : DataW Unit) = Lib.tabData .u8 Lib.asciiSpaceTab := by kernel_rfl
theorem iface_of_reads {W : World} {n : String} {g : Nat} {t : TypeId} {m : Array (String × TypeId)} {s : String} {d0 : DataW Unit} (hn : Tryz.prog.globalNamed n = some g) (ht : (Tryz.prog.globals[g]?).map (·.type) = some t) (hu : Tryz.prog.underlying t = some (.interface m))
    (h : VarReads Tryz.prog W n (.iface s d0)) : ∃ te pe, W.cell? ⟨g, 0, none⟩ = some (.iface te pe) := by
  obtain ⟨g', t', cs, fuel, p, hg, hty, hv, hd⟩ := h
  obtain rfl := Option.some.inj (hn.symm.trans hg)
  obtain rfl := Option.some.inj (ht.symm.trans hty)
  obtain ⟨f1, u, v, hcs, _, _⟩ := iface_of_trod hu hd
  refine ⟨u, v, ?_⟩
  rw [World.var?_cell hn hv 0, ← Array.getElem?_toList, hcs]
  rfl
theorem asp_of_reads {W : World} (h : VarReads Tryz.prog W "strings.asciiSpace" Rows.laid_strings_asciiSpace) : Lib.TabIs Tryz.prog W "strings.asciiSpace" .u8 Lib.asciiSpaceTab := by
  obtain ⟨g', t', cs, fuel, p, hg, hty, hv, hd⟩ := h
  obtain rfl := Option.some.inj (nAsp.symm.trans hg)
  obtain rfl := Option.some.inj (tyAsp.symm.trans hty)
  rw [asp_tab] at hd
  unfold Lib.TabIs
  rw [hv, ← cells_of_tab uAsp uU8 cU8 cAsp hd]
theorem ev_of9 {W : World} (h : laidMet Tryz.prog laid9 W) (hs : W.ShapedOpen Tryz.prog) : Ev W := by
  have hb := bru_of_reads (laidMet.reads h (.tail _ (.head _)))
  have hp := pow_of_reads (laidMet.reads h (.tail _ (.tail _ (.head _))))
  obtain ⟨m, hm⟩ := Tryz.laysM145.s1_3 W hs
  exact ⟨⟨cell_below hb, hb⟩, ⟨cell_below hm, m, hm⟩, hp⟩
theorem es_of9 {W : World} (h : laidMet Tryz.prog laid9 W) : Es W := by
  have hr := iface_of_reads nRng tyRng uErr.choose_spec (laidMet.reads h (.tail _ (.tail _ (.tail _ (.tail _ (.head _))))) : VarReads Tryz.prog W "strconv.ErrRange" Rows.laid_strconv_ErrRange)
  have hs := iface_of_reads nSyn tySyn uErr.choose_spec (laidMet.reads h (.tail _ (.tail _ (.tail _ (.tail _ (.tail _ (.head _)))))) : VarReads Tryz.prog W "strconv.ErrSyntax" Rows.laid_strconv_ErrSyntax)
  exact ⟨hs, hr⟩
theorem asp_of9 {W : World} (h : laidMet Tryz.prog laid9 W) : Lib.TabIs Tryz.prog W "strings.asciiSpace" .u8 Lib.asciiSpaceTab :=
  asp_of_reads (laidMet.reads h (.tail _ (.tail _ (.tail _ (.tail _ (.tail _ (.tail _ (.tail _ (.head _)))))))))
theorem wf_u64 {z : Int} (h : (Lit.int .u64 z).wf = true) : 0 ≤ z ∧ z < 18446744073709551616 := by
  simp only [Lit.wf, Bool.and_eq_true, decide_eq_true_eq] at h
  exact ⟨h.1, by have h2 : z ≤ 18446744073709551615 := h.2; omega⟩
open Go.ChangeShapes Go.WideShapes Go.ChangeAt Go.RowKit Go.Deep
set_option maxRecDepth 100000 in
theorem open_smallV {H : Type} {enc : TypeId × Value → H} {W : World} {base : Nat} {v : Value} {d : DataW H} {ps : List MemPlace} (hval : Value.okWide Tryz.prog W .any base 50 v)
    (h : DataW.Trod enc Tryz.prog W 0 (fun _ => true) true 50 v d ps) : ∃ x : Sm, v = .agg #[.int .u8 x.key, .int .u8 x.ser, .int .u8 x.kind, .int .u8 x.more] ∧ SmOk x := by
  obtain ⟨f0, f1, f2, f3, hu, t0, t1, t2, t3, hone⟩ := small_fields
  obtain ⟨v0, v1, v2, v3, y0, y1, y2, y3, n, rfl, _, _, h0, h1, h2, h3⟩ := Joins.open_agg4 hu hone cells4 hval h
  rw [t0] at h0
  rw [t1] at h1
  rw [t2] at h2
  rw [t3] at h3
  obtain ⟨a, e0, _, w0⟩ := DataW.trod_int Tryz.underlying5 h0
  obtain ⟨b, e1, _, w1⟩ := DataW.trod_int Tryz.underlying5 h1
  obtain ⟨c, e2, _, w2⟩ := DataW.trod_int Tryz.underlying5 h2
  obtain ⟨e, e3, _, w3⟩ := DataW.trod_int Tryz.underlying5 h3
  simp only [List.cons.injEq, and_true] at e0 e1 e2 e3
  subst e0 e1 e2 e3
  have k0 := (fits_u8 a).1 w0
  have k1 := (fits_u8 b).1 w1
  have k2 := (fits_u8 c).1 w2
  have k3 := (fits_u8 e).1 w3
  exact ⟨⟨a, b, c, e⟩, rfl, ⟨k0.1, k0.2, k1.1, k1.2, k2.1, k2.2, k3.1, k3.2⟩⟩
end Go.Proofs.YtiooimdncocfdaaGreatDoor.Sk
