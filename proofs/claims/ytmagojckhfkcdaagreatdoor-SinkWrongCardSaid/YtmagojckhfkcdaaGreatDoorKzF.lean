/- Chapter 38: what a law over small entries asks of its card: five listed variables, a slice of small entries opened. -/
import Derived.Test.YtmagojckhfkcdaaGreatDoorKyP
import Derived.Test.YtmagojckhfkcdaaGreatDoorKzG
namespace Go.Proofs.YtmagojckhfkcdaaGreatDoor.Sk
open Go
noncomputable def laidWorld (os : Os) : World :=
  let w0 := World.holding Tryz.prog os ⟨#[], #[], []⟩
  { w0 with heap := (((((w0.heap.modify 1 (putCells (cellsOfData Rows.laid_internal_strconv_uint64pow10).toArray)).modify
      5 (putCells (cellsOfData Rows.laid_unicode_utf8_first).toArray)).modify
      6 (putCells (cellsOfData Rows.laid_unicode_utf8_acceptRanges).toArray)).modify
      7 (putCells (cellsOfData Rows.laid_math_bits_deBruijn32tab).toArray)).modify
      8 (putCells (cellsOfData Rows.laid_math_bits_deBruijn64tab).toArray)) }
def laid5 : List (String × DataW Unit) := [("math/bits.deBruijn32tab", Rows.laid_math_bits_deBruijn32tab), ("math/bits.deBruijn64tab", Rows.laid_math_bits_deBruijn64tab), ("internal/strconv.uint64pow10", Rows.laid_internal_strconv_uint64pow10), ("unicode/utf8.acceptRanges", Rows.laid_unicode_utf8_acceptRanges), ("unicode/utf8.first", Rows.laid_unicode_utf8_first)]
set_option maxRecDepth 100000 in
theorem laid_met (os : Os) (args : Array Value) : laidMet Tryz.prog laid5 ((laidWorld os).forCall (fun _ _ => 0) ⟨#[], args, []⟩).memory :=
  laidMet_of_run' 10 (by kernel_rfl) (by kernel_rfl)
end Go.Proofs.YtmagojckhfkcdaaGreatDoor.Sk
namespace Go.Proofs.YtmagojckhfkcdaaGreatDoor.Sk
open Go Go.Lib
theorem ev_of {W : World} (h : laidMet Tryz.prog laid5 W) (hs : W.ShapedOpen Tryz.prog) : Ev W := ev_of_reads (laidMet.reads h (.tail _ (.head _))) (laidMet.reads h (.tail _ (.tail _ (.head _)))) hs
end Go.Proofs.YtmagojckhfkcdaaGreatDoor.Sk
namespace Go.Proofs.YtmagojckhfkcdaaGreatDoor.Sk
open Go.ChangeShapes Go.WideShapes Go.ChangeAt Go.RowKit Go.Deep
theorem cells4 : Tryz.prog.cellsOf 24 = 4 := by kernel_rfl
theorem small_fields : ∃ f0 f1 f2 f3 : Field, Tryz.prog.underlying 24 = some (.struct #[f0, f1, f2, f3]) ∧ f0.type = 5 ∧ f1.type = 5 ∧ f2.type = 5 ∧ f3.type = 5 ∧ oneCellFields Tryz.prog #[f0, f1, f2, f3] = true :=
  ⟨_, _, _, _, Tryz.underlying24, rfl, rfl, rfl, rfl, by kernel_rfl⟩
theorem RdF.take {w : World} {a : Option Addr} {xs : List Value} (h : RdF w a xs) (n : Nat) : RdF w a (xs.take n) := by
  intro hx
  obtain ⟨b, off, e, hl, hc⟩ := h (by intro e; subst e; simp at hx)
  refine ⟨b, off, e, hl, fun j u hu => hc j u ?_⟩
  rw [List.getElem?_take] at hu
  split at hu
  · exact hu
  · cases hu
theorem sFlat_take (l : List Sm) (n : Nat) : sFlat (l.take n) = (sFlat l).take (n * 4) := by
  induction n generalizing l with
  | zero => simp [sFlat]
  | succ n ih =>
    cases l with
    | nil => simp [sFlat]
    | cons x r =>
      rw [List.take_succ_cons, show (n + 1) * 4 = 4 + n * 4 by omega]
      show smB x ++ sFlat (r.take n) = (smB x ++ sFlat r).take (4 + n * 4)
      have h7 : (smB x).length = 4 := rfl
      rw [List.take_append, List.take_of_length_le (l := smB x) (by omega), show 4 + n * 4 - (smB x).length = n * 4 by omega, ih r]
set_option maxRecDepth 100000 in
theorem open_small {H : Type} {enc : TypeId × Value → H} {W : World} {base : Nat} {v : Value} {d : DataW H} {ps : List MemPlace} (hval : Value.okWide Tryz.prog W .any base 22 v)
    (h : DataW.Trod enc Tryz.prog W 0 (fun _ => true) true 22 v d ps) : ∃ a cap l, v = .slice a (List.length l) cap ∧ RdF W a (sFlat l) ∧ (a = none → l = [] ∧ cap = 0) ∧ (∀ x ∈ l, SmOk x) ∧ l.length ≤ cap ∧ cap ≤ maxLen := by
  obtain ⟨a, len, cap, rfl⟩ := okWide_slice Tryz.underlying22 hval
  obtain ⟨fuel, hf⟩ := h
  obtain ⟨f0, f1, f2, f3, hu, t0, t1, t2, t3, hone⟩ := small_fields
  rcases open_fields Tryz.underlying22 hu hone cells4 hf with hcs | ⟨a', len', cap', m, hcs, hl, hm, hmm, hall⟩
  · have hcs : [Value.slice a len cap] = [.slice none 0 0] := hcs
    cases hcs
    exact ⟨none, 0, [], rfl, fun h => absurd rfl h, fun _ => ⟨rfl, rfl⟩, (fun x hx => by cases hx), Nat.le_refl _, Nat.zero_le _⟩
  · have hcs : [Value.slice a len cap] = [.slice (some a') len' cap'] := hcs
    cases hcs
    simp only [if_true] at hmm
    subst hmm
    have hint : ∀ i, i < len → ∀ j f, (#[f0, f1, f2, f3] : Array Field)[j]? = some f → f.type = 5 → ∃ z : Int, W.cell? (a'.add (i * 4 + j)) = some (.int .u8 z) ∧ 0 ≤ z ∧ z ≤ 255 := by
      intro i hi j f hj ht
      obtain ⟨v, y, n, hc, hy⟩ := hall i (by omega) j f hj
      rw [ht] at hy
      obtain ⟨z, e, _, hw⟩ := DataW.trod_int Tryz.underlying5 hy
      simp only [List.cons.injEq, and_true] at e
      subst e
      have := (fits_u8 z).1 hw
      exact ⟨z, hc, by omega, by omega⟩
    have h3 : ∀ i, i < len → ∃ r : Sm, W.cell? (a'.add (i * 4)) = some (.int .u8 r.key) ∧ W.cell? (a'.add (i * 4 + 1)) = some (.int .u8 r.ser) ∧ W.cell? (a'.add (i * 4 + 2)) = some (.int .u8 r.kind) ∧ W.cell? (a'.add (i * 4 + 3)) = some (.int .u8 r.more) ∧ SmOk r := by
      intro i hi
      obtain ⟨x, hx, x1, x2⟩ := hint i hi 0 f0 rfl t0
      obtain ⟨y, hy, y1, y2⟩ := hint i hi 1 f1 rfl t1
      obtain ⟨z, hz, z1, z2⟩ := hint i hi 2 f2 rfl t2
      obtain ⟨u, hu, u1, u2⟩ := hint i hi 3 f3 rfl t3
      exact ⟨⟨x, y, z, u⟩, hx, hy, hz, hu, ⟨x1, x2, y1, y2, z1, z2, u1, u2⟩⟩
    haveI : Inhabited Sm := ⟨zeroSm⟩
    obtain ⟨g, hg⟩ := choose_lt h3
    obtain ⟨b, off, spot⟩ := a'
    refine ⟨some ⟨b, off, spot⟩, m, (List.range len).map g, by simp, fun hne => ?_, (fun e => by cases e), fun x hx => ?_, by simpa using hl, hm⟩
    · have h0 : 0 < len := by
        rcases Nat.eq_zero_or_pos len with e | e
        · subst e; exact absurd rfl hne
        · exact e
      have hspot : spot = none := by simpa [Addr.add] using World.cell?_spot (hg 0 h0).1
      subst hspot
      refine ⟨b, off, rfl, cell_below (g := b) (o := off) (by simpa [Addr.add] using (hg 0 h0).1), fun j u hu => ?_⟩
      have hj := (List.getElem?_eq_some_iff.1 hu).1
      rw [sFlat_length, List.length_map, List.length_range] at hj
      have hm4 := Nat.mod_lt j (show 4 > 0 by decide)
      have hi : j / 4 < len := by omega
      obtain ⟨c0, c1, c2, c3, _⟩ := hg (j / 4) hi
      rw [add_at] at c0 c1 c2 c3
      have hgx : ((List.range len).map g)[j / 4]? = some (g (j / 4)) := by rw [List.getElem?_map, List.getElem?_range hi]; rfl
      have hat := fun v hv => (flat_at smB 4 (fun _ => rfl) (j := j % 4) (v := v) hgx hv)
      rw [show j / 4 * 4 + j % 4 = j by omega] at hat
      have hsel : ∀ v, (smB (g (j / 4)))[j % 4]? = some v → v = u := fun v hv => Option.some.inj ((hat v hv).symm.trans hu)
      rcases (show j % 4 = 0 ∨ j % 4 = 1 ∨ j % 4 = 2 ∨ j % 4 = 3 by omega) with e | e | e | e
      · have := hsel (.int .u8 (g (j / 4)).key) (by rw [e]; rfl)
        subst this
        rw [show off + j = off + j / 4 * 4 by omega]; exact c0
      · have := hsel (.int .u8 (g (j / 4)).ser) (by rw [e]; rfl)
        subst this
        rw [show off + j = off + (j / 4 * 4 + 1) by omega]; exact c1
      · have := hsel (.int .u8 (g (j / 4)).kind) (by rw [e]; rfl)
        subst this
        rw [show off + j = off + (j / 4 * 4 + 2) by omega]; exact c2
      · have := hsel (.int .u8 (g (j / 4)).more) (by rw [e]; rfl)
        subst this
        rw [show off + j = off + (j / 4 * 4 + 3) by omega]; exact c3
    · obtain ⟨i, hi, rfl⟩ := List.mem_map.1 hx
      exact (hg i (List.mem_range.1 hi)).2.2.2.2
end Go.Proofs.YtmagojckhfkcdaaGreatDoor.Sk
