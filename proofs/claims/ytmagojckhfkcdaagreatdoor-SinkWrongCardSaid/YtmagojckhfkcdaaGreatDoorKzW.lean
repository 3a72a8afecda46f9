/- Chapter 38: what the card of SinkWrong wants: its eight listed variables, a slice of small entries and a small entry opened. -/
import Derived.Test.YtmagojckhfkcdaaGreatDoorKzF
import Derived.Test.YtmagojckhfkcdaaGreatDoorPuB
import Derived.Test.YtmagojckhfkcdaaGreatDoorLaid
import Derived.Lib.LaidCaseMet
import Derived.Lib.SmallJoins
namespace Go.Proofs.YtmagojckhfkcdaaGreatDoor.Sk
open Go
noncomputable def low8 : Nat := (World.holding Tryz.prog default ⟨#[], #[], []⟩).heap.size
noncomputable def laidWorld8 (os : Os) : World :=
  let w0 := World.holding Tryz.prog os ⟨#[.cells Lib.caseCells5 196, .cells #[.string ⟨#[118, 97, 108, 117, 101, 32, 111, 117, 116, 32, 111, 102, 32, 114, 97, 110, 103, 101]⟩] 192, .cells #[.string ⟨#[105, 110, 118, 97, 108, 105, 100, 32, 115, 121, 110, 116, 97, 120]⟩] 192], #[], []⟩
  { w0 with heap := ((((((((w0.heap.modify 0 (putCells #[.slice (some ⟨low8, 0, none⟩) 336 336])).modify
      3 (putCells #[.iface 190 (.pointer (some ⟨low8 + 1, 0, none⟩))])).modify
      2 (putCells #[.iface 190 (.pointer (some ⟨low8 + 2, 0, none⟩))])).modify
      1 (putCells (cellsOfData Rows.laid_internal_strconv_uint64pow10).toArray)).modify
      5 (putCells (Lib.firstTab.map fun z => Value.int .u8 z).toArray)).modify
      6 (putCells (cellsOfData Rows.laid_unicode_utf8_acceptRanges).toArray)).modify
      7 (putCells (cellsOfData Rows.laid_math_bits_deBruijn32tab).toArray)).modify
      8 (putCells (cellsOfData Rows.laid_math_bits_deBruijn64tab).toArray)) }

theorem laidVars_swap {P : Program} {w : World} {x y : String × DataW Unit} : ∀ {l : List (String × DataW Unit)} {ps : List MemPlace}, DataW.LaidVars P w (l ++ [x, y]) ps → ∃ qs, DataW.LaidVars P w (l ++ [y, x]) qs ∧ qs.Perm ps
  | [], ps, h => by
    obtain ⟨g, t, cs, fuel, p, q, h1, h2, h3, h4, ⟨g', t', cs', fuel', p', q', k1, k2, k3, k4, k5, rfl⟩, rfl⟩ := h
    have k5' : q' = [] := k5
    subst k5'
    refine ⟨_, ⟨g', t', cs', fuel', p', _, k1, k2, k3, k4, ⟨g, t, cs, fuel, p, [], h1, h2, h3, h4, rfl, rfl⟩, rfl⟩, ?_⟩
    simp only [List.append_nil]
    exact List.perm_append_comm
  | z :: r, ps, h => by
    obtain ⟨g, t, cs, fuel, p, q, h1, h2, h3, h4, h5, rfl⟩ := h
    obtain ⟨qs, hq, hp⟩ := laidVars_swap (l := r) h5
    exact ⟨_, ⟨g, t, cs, fuel, p, qs, h1, h2, h3, h4, hq, rfl⟩, hp.append_left _⟩
theorem laidMet_swap {P : Program} {w : World} {x y : String × DataW Unit} {l : List (String × DataW Unit)} (h : laidMet P (l ++ [x, y]) w) : laidMet P (l ++ [y, x]) w := by
  obtain ⟨ps, h1, h2, h3⟩ := h
  obtain ⟨qs, hq, hp⟩ := laidVars_swap h1
  exact ⟨qs, hq, hp.nodup_iff.2 h2, fun b off hm => h3 b off (hp.mem_iff.1 hm)⟩

def laid6 : List (String × DataW Unit) := [("math/bits.deBruijn32tab", Rows.laid_math_bits_deBruijn32tab), ("math/bits.deBruijn64tab", Rows.laid_math_bits_deBruijn64tab), ("internal/strconv.uint64pow10", Rows.laid_internal_strconv_uint64pow10), ("unicode/utf8.acceptRanges", Rows.laid_unicode_utf8_acceptRanges), ("strconv.ErrRange", Rows.laid_strconv_ErrRange), ("strconv.ErrSyntax", Rows.laid_strconv_ErrSyntax)]
def laid8 : List (String × DataW Unit) := laid6 ++ [("unicode.CaseRanges", Rows.laid_unicode_CaseRanges), ("unicode/utf8.first", Rows.laid_unicode_utf8_first)]
set_option maxRecDepth 100000 in
theorem laid_met8 (os : Os) (args : Array Value) : laidMet Tryz.prog laid8 ((laidWorld8 os).forCall (fun _ _ => 0) ⟨#[], args, []⟩).memory := by
  refine laidMet_swap ?_
  have h := laidMet_with_case (ρ := Tryz.lays203_ren) { Tryz.lays203 with } Tryz.lays203.t206 ⟨by kernel_rfl, by kernel_rfl, by kernel_rfl, by kernel_rfl, by kernel_rfl, by kernel_rfl⟩
    (w := ((laidWorld8 os).forCall (fun _ _ => 0) ⟨#[], args, []⟩).memory) (l := laid6 ++ [("unicode/utf8.first", Lib.firstData)])
    10 (by kernel_rfl) (by kernel_rfl) (by kernel_rfl) low8 196 (of_decide_eq_true (by kernel_rfl)) (by kernel_rfl) (by kernel_rfl) (by kernel_rfl)
  rw [← Pinned.caseRanges_eq, ← Pinned.utf8First_eq, List.append_assoc] at h
  exact h
end Go.Proofs.YtmagojckhfkcdaaGreatDoor.Sk
namespace Go.Proofs.YtmagojckhfkcdaaGreatDoor.Sk
open Go Go.Lib
theorem nSyn : Tryz.prog.globalNamed "strconv.ErrSyntax" = some 2 := by kernel_rfl
theorem nRng : Tryz.prog.globalNamed "strconv.ErrRange" = some 3 := by kernel_rfl
theorem tySyn : (Tryz.prog.globals[2]?).map (·.type) = some 96 := by kernel_rfl
theorem tyRng : (Tryz.prog.globals[3]?).map (·.type) = some 96 := by kernel_rfl
theorem uErr : ∃ m, Tryz.prog.underlying 96 = some (.interface m) := ⟨_, Tryz.underlying96⟩
theorem iface_of_reads {W : World} {n : String} {g : Nat} {t : TypeId} {m : Array (String × TypeId)} {s : String} {d0 : DataW Unit} (hn : Tryz.prog.globalNamed n = some g) (ht : (Tryz.prog.globals[g]?).map (·.type) = some t) (hu : Tryz.prog.underlying t = some (.interface m))
    (h : VarReads Tryz.prog W n (.iface s d0)) : ∃ te pe, W.cell? ⟨g, 0, none⟩ = some (.iface te pe) := by
  obtain ⟨g', t', cs, fuel, p, hg, hty, hv, hd⟩ := h
  obtain rfl := Option.some.inj (hn.symm.trans hg)
  obtain rfl := Option.some.inj (ht.symm.trans hty)
  obtain ⟨f1, u, v, hcs, _, _⟩ := iface_of_trod hu hd
  refine ⟨u, v, ?_⟩
  rw [World.var?_cell hn hv 0, ← Array.getElem?_toList, hcs]
  rfl
theorem ev_of8 {W : World} (h : laidMet Tryz.prog laid8 W) (hs : W.ShapedOpen Tryz.prog) : Ev W := ev_of_reads (laidMet.reads h (List.mem_append.2 (.inl (.tail _ (.head _))))) (laidMet.reads h (List.mem_append.2 (.inl (.tail _ (.tail _ (.head _)))))) hs
theorem es_of8 {W : World} (h : laidMet Tryz.prog laid8 W) : Es W := by
  have hs := iface_of_reads nSyn tySyn uErr.choose_spec (laidMet.reads h (List.mem_append.2 (.inl (.tail _ (.tail _ (.tail _ (.tail _ (.tail _ (.head _)))))))) : VarReads Tryz.prog W "strconv.ErrSyntax" Rows.laid_strconv_ErrSyntax)
  have hr := iface_of_reads nRng tyRng uErr.choose_spec (laidMet.reads h (List.mem_append.2 (.inl (.tail _ (.tail _ (.tail _ (.tail _ (.head _))))))) : VarReads Tryz.prog W "strconv.ErrRange" Rows.laid_strconv_ErrRange)
  exact ⟨hs, hr⟩
open Go.ChangeShapes Go.WideShapes Go.ChangeAt Go.RowKit Go.Deep
set_option maxRecDepth 100000 in
theorem open_smallV {H : Type} {enc : TypeId × Value → H} {W : World} {base : Nat} {v : Value} {d : DataW H} {ps : List MemPlace} (hval : Value.okWide Tryz.prog W .any base 24 v)
    (h : DataW.Trod enc Tryz.prog W 0 (fun _ => true) true 24 v d ps) : ∃ x : Sm, v = .agg #[.int .u8 x.key, .int .u8 x.ser, .int .u8 x.kind, .int .u8 x.more] ∧ SmOk x := by
  obtain ⟨f0, f1, f2, f3, hu, t0, t1, t2, t3, hone⟩ := small_fields
  obtain ⟨v0, v1, v2, v3, y0, y1, y2, y3, n, rfl, _, _, h0, h1, h2, h3⟩ := Joins.open_agg4 hu hone cells4 hval h
  rw [t0] at h0
  rw [t1] at h1
  rw [t2] at h2
  rw [t3] at h3
  obtain ⟨a, e0, _, w0⟩ := DataW.trod_int Tryz.underlying5 h0
  obtain ⟨b, e1, _, w1⟩ := DataW.trod_int Tryz.underlying5 h1
  obtain ⟨c, e2, _, w2⟩ := DataW.trod_int Tryz.underlying5 h2
  obtain ⟨e, e3, _, w3⟩ := DataW.trod_int Tryz.underlying5 h3
  simp only [List.cons.injEq, and_true] at e0 e1 e2 e3
  subst e0 e1 e2 e3
  have k0 := (fits_u8 a).1 w0
  have k1 := (fits_u8 b).1 w1
  have k2 := (fits_u8 c).1 w2
  have k3 := (fits_u8 e).1 w3
  exact ⟨⟨a, b, c, e⟩, rfl, ⟨k0.1, k0.2, k1.1, k1.2, k2.1, k2.2, k3.1, k3.2⟩⟩
end Go.Proofs.YtmagojckhfkcdaaGreatDoor.Sk
