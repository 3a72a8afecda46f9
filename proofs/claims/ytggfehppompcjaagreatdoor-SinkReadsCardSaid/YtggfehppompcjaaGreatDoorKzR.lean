/- Chapter 38: what the card of SinkReads wants: its seven listed variables. -/
import Derived.Test.YtggfehppompcjaaGreatDoorKzG
import Derived.Test.YtggfehppompcjaaGreatDoorPuB
namespace Go.Proofs.YtggfehppompcjaaGreatDoor.Sk
open Go Go.Lib
noncomputable def low7 : Nat := (World.holding Tryz.prog default ⟨#[], #[], []⟩).heap.size
noncomputable def laidWorld7 (os : Os) : World :=
  let w0 := World.holding Tryz.prog os ⟨#[.cells #[.string ⟨#[118, 97, 108, 117, 101, 32, 111, 117, 116, 32, 111, 102, 32, 114, 97, 110, 103, 101]⟩] 262, .cells #[.string ⟨#[105, 110, 118, 97, 108, 105, 100, 32, 115, 121, 110, 116, 97, 120]⟩] 262], #[], []⟩
  { w0 with heap := (((((((w0.heap.modify
      3 (putCells #[.iface 260 (.pointer (some ⟨low7, 0, none⟩))])).modify
      2 (putCells #[.iface 260 (.pointer (some ⟨low7 + 1, 0, none⟩))])).modify
      1 (putCells (cellsOfData Rows.laid_internal_strconv_uint64pow10).toArray)).modify
      5 (putCells (cellsOfData Rows.laid_unicode_utf8_first).toArray)).modify
      6 (putCells (cellsOfData Rows.laid_unicode_utf8_acceptRanges).toArray)).modify
      7 (putCells (cellsOfData Rows.laid_math_bits_deBruijn32tab).toArray)).modify
      8 (putCells (cellsOfData Rows.laid_math_bits_deBruijn64tab).toArray)) }
def laid7 : List (String × DataW Unit) := [("math/bits.deBruijn32tab", Rows.laid_math_bits_deBruijn32tab), ("math/bits.deBruijn64tab", Rows.laid_math_bits_deBruijn64tab), ("internal/strconv.uint64pow10", Rows.laid_internal_strconv_uint64pow10), ("unicode/utf8.acceptRanges", Rows.laid_unicode_utf8_acceptRanges), ("strconv.ErrRange", Rows.laid_strconv_ErrRange), ("strconv.ErrSyntax", Rows.laid_strconv_ErrSyntax), ("unicode/utf8.first", Rows.laid_unicode_utf8_first)]
set_option maxRecDepth 100000 in
theorem laid_met7 (os : Os) (args : Array Value) : laidMet Tryz.prog laid7 ((laidWorld7 os).forCall (fun _ _ => 0) ⟨#[], args, []⟩).memory :=
  laidMet_of_run3 10 (by as_aux_lemma => kernel_rfl) (by as_aux_lemma => kernel_rfl) (by as_aux_lemma => kernel_rfl)
theorem nSyn : Tryz.prog.globalNamed "strconv.ErrSyntax" = some 2 := by kernel_rfl
theorem nRng : Tryz.prog.globalNamed "strconv.ErrRange" = some 3 := by kernel_rfl
theorem tySyn : (Tryz.prog.globals[2]?).map (·.type) = some 125 := by kernel_rfl
theorem tyRng : (Tryz.prog.globals[3]?).map (·.type) = some 125 := by kernel_rfl
theorem uErr : ∃ m, Tryz.prog.underlying 125 = some (.interface m) := ⟨_, Tryz.underlying125⟩
theorem iface_of_reads {W : World} {n : String} {g : Nat} {t : TypeId} {m : Array (String × TypeId)} {s : String} {d0 : DataW Unit} (hn : Tryz.prog.globalNamed n = some g) (ht : (Tryz.prog.globals[g]?).map (·.type) = some t) (hu : Tryz.prog.underlying t = some (.interface m))
    (h : VarReads Tryz.prog W n (.iface s d0)) : ∃ te pe, W.cell? ⟨g, 0, none⟩ = some (.iface te pe) := by
  obtain ⟨g', t', cs, fuel, p, hg, hty, hv, hd⟩ := h
  obtain rfl := Option.some.inj (hn.symm.trans hg)
  obtain rfl := Option.some.inj (ht.symm.trans hty)
  obtain ⟨f1, u, v, hcs, _, _⟩ := iface_of_trod hu hd
  refine ⟨u, v, ?_⟩
  rw [World.var?_cell hn hv 0, ← Array.getElem?_toList, hcs]
  rfl
theorem ev_of7 {W : World} (h : laidMet Tryz.prog laid7 W) (hs : W.ShapedOpen Tryz.prog) : Ev W := ev_of_reads (laidMet.reads h (.tail _ (.head _))) (laidMet.reads h (.tail _ (.tail _ (.head _)))) hs
theorem es_of7 {W : World} (h : laidMet Tryz.prog laid7 W) : Es W := by
  have hr := iface_of_reads nRng tyRng uErr.choose_spec (laidMet.reads h (.tail _ (.tail _ (.tail _ (.tail _ (.head _))))) : VarReads Tryz.prog W "strconv.ErrRange" Rows.laid_strconv_ErrRange)
  have hs := iface_of_reads nSyn tySyn uErr.choose_spec (laidMet.reads h (.tail _ (.tail _ (.tail _ (.tail _ (.tail _ (.head _)))))) : VarReads Tryz.prog W "strconv.ErrSyntax" Rows.laid_strconv_ErrSyntax)
  exact ⟨hs, hr⟩
end Go.Proofs.YtggfehppompcjaaGreatDoor.Sk
