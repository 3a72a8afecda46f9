/- Chapter 38: what the card of SinkChecks wants: five listed variables, a slice of items opened, its bulk. -/
import Derived.Test.YtggfehppompcjaaGreatDoorKzG
import Derived.Test.YtggfehppompcjaaGreatDoorKJc
import Derived.Deep.Slices
namespace Go.Proofs.YtggfehppompcjaaGreatDoor.Sk
open Go
noncomputable def laidWorld (os : Os) : World :=
  let w0 := World.holding Tryz.prog os ⟨#[], #[], []⟩
  { w0 with heap := (((((w0.heap.modify 1 (putCells (cellsOfData Rows.laid_internal_strconv_uint64pow10).toArray)).modify
      5 (putCells (cellsOfData Rows.laid_unicode_utf8_first).toArray)).modify
      6 (putCells (cellsOfData Rows.laid_unicode_utf8_acceptRanges).toArray)).modify
      7 (putCells (cellsOfData Rows.laid_math_bits_deBruijn32tab).toArray)).modify
      8 (putCells (cellsOfData Rows.laid_math_bits_deBruijn64tab).toArray)) }
def laid5 : List (String × DataW Unit) := [("math/bits.deBruijn32tab", Rows.laid_math_bits_deBruijn32tab), ("math/bits.deBruijn64tab", Rows.laid_math_bits_deBruijn64tab), ("internal/strconv.uint64pow10", Rows.laid_internal_strconv_uint64pow10), ("unicode/utf8.acceptRanges", Rows.laid_unicode_utf8_acceptRanges), ("unicode/utf8.first", Rows.laid_unicode_utf8_first)]
set_option maxRecDepth 100000 in
theorem laid_met (os : Os) (args : Array Value) : laidMet Tryz.prog laid5 ((laidWorld os).forCall (fun _ _ => 0) ⟨#[], args, []⟩).memory :=
  laidMet_of_run' 10 (by kernel_rfl) (by kernel_rfl)
end Go.Proofs.YtggfehppompcjaaGreatDoor.Sk
namespace Go.Proofs.YtggfehppompcjaaGreatDoor.Sk
open Go Go.Lib
theorem ev_of {W : World} (h : laidMet Tryz.prog laid5 W) (hs : W.ShapedOpen Tryz.prog) : Ev W := ev_of_reads (laidMet.reads h (.tail _ (.head _))) (laidMet.reads h (.tail _ (.tail _ (.head _)))) hs
end Go.Proofs.YtggfehppompcjaaGreatDoor.Sk
namespace Go.Proofs.YtggfehppompcjaaGreatDoor.Sk
open Go.ChangeShapes Go.WideShapes Go.ChangeAt Go.RowKit Go.Deep
/-! the bulk of what is read -/
theorem bulk_one {H : Type} (d : DataW H) : 1 ≤ Rows.uptoBulk d := by
  cases d with
  | lit l => cases l <;> simp [Rows.uptoBulk]
  | nil => simp [Rows.uptoBulk]
  | ptr d => simp [Rows.uptoBulk]
  | slice elems spare => simp [Rows.uptoBulk]
  | agg parts => simp [Rows.uptoBulk]
  | iface t d => simp [Rows.uptoBulk]
  | map entries => simp [Rows.uptoBulk]
  | held h => simp [Rows.uptoBulk]
theorem bulk_part {H : Type} {d : DataW H} {l : List (DataW H)} (h : d ∈ l) : Rows.uptoBulk d ≤ Rows.uptoBulkAll l := by
  induction l with
  | nil => cases h
  | cons x r ih =>
    simp only [Rows.uptoBulkAll]
    cases List.mem_cons.1 h with
    | inl e => subst e; omega
    | inr e => have := ih e; omega
theorem bulk_len {H : Type} (l : List (DataW H)) : l.length ≤ Rows.uptoBulkAll l := by
  induction l with
  | nil => simp [Rows.uptoBulkAll]
  | cons x r ih =>
    have := bulk_one x
    simp only [Rows.uptoBulkAll, List.length_cons]
    omega
theorem bulk_elem {H : Type} {d : DataW H} {l s : List (DataW H)} (h : d ∈ l) : Rows.uptoBulk d ≤ Rows.uptoBulk (.slice l s) := by
  have := bulk_part h
  simp only [Rows.uptoBulk]
  omega
theorem bulk_slice {H : Type} (l s : List (DataW H)) : l.length ≤ Rows.uptoBulk (.slice l s) := by
  have := bulk_len l
  simp only [Rows.uptoBulk]
  omega
theorem bulk_agg {H : Type} {d : DataW H} {l : List (DataW H)} (h : d ∈ l) : Rows.uptoBulk d ≤ Rows.uptoBulk (.agg l) := by
  have := bulk_part h
  simp only [Rows.uptoBulk]
  omega
theorem bulk_str {H : Type} (b : List UInt8) : b.length ≤ Rows.uptoBulk (DataW.lit (H := H) (.string b)) := by
  simp [Rows.uptoBulk]
theorem item_fields : ∃ f0 f1 : Field, Tryz.prog.underlying 44 = some (.struct #[f0, f1]) ∧ f0.type = 9 ∧ f1.type = 38 ∧ f0.offset = 0 ∧ f1.offset = 1 := ⟨_, _, Tryz.underlying44, rfl, rfl, rfl, rfl⟩
theorem entry_fields : ∃ f0 f1 f2 f3 f4 f5 : Field, Tryz.prog.underlying 38 = some (.struct #[f0, f1, f2, f3, f4, f5]) ∧ (f0.type = 35 ∧ f0.offset = 0) ∧ (f1.type = 4 ∧ f1.offset = 1) ∧ (f2.type = 36 ∧ f2.offset = 2) ∧ (f3.type = 4 ∧ f3.offset = 3) ∧ (f4.type = 3 ∧ f4.offset = 4) ∧ f5.type = 3 ∧ f5.offset = 5 :=
  ⟨_, _, _, _, _, _, Tryz.underlying38, ⟨rfl, rfl⟩, ⟨rfl, rfl⟩, ⟨rfl, rfl⟩, ⟨rfl, rfl⟩, ⟨rfl, rfl⟩, rfl, rfl⟩
theorem label_fields : ∃ f0 f1 : Field, Tryz.prog.underlying 95 = some (.struct #[f0, f1]) ∧ f0.type = 9 ∧ f1.type = 9 ∧ f0.offset = 0 ∧ f1.offset = 1 := ⟨_, _, Tryz.underlying95, rfl, rfl, rfl, rfl⟩
theorem cellsItem : Tryz.prog.cellsOf 44 = 7 := by kernel_rfl
theorem cellsEntry : Tryz.prog.cellsOf 38 = 6 := by kernel_rfl
theorem cellsLabel : Tryz.prog.cellsOf 95 = 2 := by kernel_rfl
theorem cellsStr : Tryz.prog.cellsOf 9 = 1 := by kernel_rfl
theorem cellsLabels : Tryz.prog.cellsOf 35 = 1 := by kernel_rfl
theorem cellsBool : Tryz.prog.cellsOf 4 = 1 := by kernel_rfl
theorem cellsU64 : Tryz.prog.cellsOf 36 = 1 := by kernel_rfl
theorem cellsInt : Tryz.prog.cellsOf 3 = 1 := by kernel_rfl
theorem wf_u64' {z : Int} (h : (Lit.int .u64 z).wf = true) : 0 ≤ z ∧ z < 18446744073709551616 := by
  simp only [Lit.wf, Bool.and_eq_true, decide_eq_true_eq] at h
  exact ⟨h.1, by have h2 : z ≤ 18446744073709551615 := h.2; omega⟩
section
variable {H : Type} {enc : TypeId × Value → H} {W : World}
set_option maxRecDepth 100000 in
/-- a label opened -/
theorem open_label {n : Nat} {cs : List Value} {y : DataW H × List MemPlace} (h : DataW.trod enc Tryz.prog W 0 (fun _ => true) true n 95 cs = some y) :
    ∃ x : Lab, cs = [.string x.1, .string x.2] ∧ x.1.size ≤ Rows.uptoBulk y.1 ∧ x.2.size ≤ Rows.uptoBulk y.1 := by
  obtain ⟨f0, f1, hu, t0, t1, o0, o1⟩ := label_fields
  obtain ⟨xs, n', _, hy, hl, hlen, hf⟩ := DataW.trod_struct hu h
  rw [cellsLabel] at hl
  match cs, hl with
  | [c0, c1], _ =>
    match xs, hlen with
    | [y0, y1], _ =>
      have h0 := hf 0 f0 rfl
      have h1 := hf 1 f1 rfl
      rw [t0, o0, cellsStr] at h0
      rw [t1, o1, cellsStr] at h1
      obtain ⟨s, r0, e0, _⟩ := DataW.trod_string (x := y0) Tryz.underlying9 h0
      obtain ⟨s', r1, e1, _⟩ := DataW.trod_string (x := y1) Tryz.underlying9 h1
      simp at r0 r1
      subst r0 r1
      refine ⟨(s, s'), rfl, ?_, ?_⟩
      · rw [hy]
        refine Nat.le_trans ?_ (bulk_agg (d := y0.1) (by simp))
        rw [e0]
        have := bulk_str (H := H) s.data.toList
        simpa using this
      · rw [hy]
        refine Nat.le_trans ?_ (bulk_agg (d := y1.1) (by simp))
        rw [e1]
        have := bulk_str (H := H) s'.data.toList
        simpa using this
set_option maxRecDepth 100000 in
/-- labels opened -/
theorem open_labels {n : Nat} {c : Value} {y : DataW H × List MemPlace} (h : DataW.trod enc Tryz.prog W 0 (fun _ => true) true n 35 [c] = some y) :
    ∃ (la : Option Addr) (lc : Nat) (lab : List Lab), c = .slice la lab.length lc ∧ RdL W la lab ∧ lab.length ≤ Rows.uptoBulk y.1 ∧ ∀ x ∈ lab, x.1.size ≤ Rows.uptoBulk y.1 ∧ x.2.size ≤ Rows.uptoBulk y.1 := by
  rcases open_slice Tryz.underlying35 h with ⟨hcs, _⟩ | ⟨a', len, cap, m, n, D, Pl, hcs, _, hl, hm, hmm, hx, hi⟩
  · have hcs : c = .slice none 0 0 := by simpa using hcs
    exact ⟨none, 0, [], hcs, RdL.nil _ _, Nat.zero_le _, fun x hx => by cases hx⟩
  · have hcs : c = .slice (some a') len cap := by simpa using hcs
    simp only [if_true] at hmm
    subst hmm
    have hd : y.1 = .slice ((List.range len).map D) ((List.range (m - len)).map fun j => D (len + j)) := congrArg Prod.fst hx
    have h3 : ∀ i, i < len → ∃ r : Lab, W.cell? (a'.add (i * 2 + 0)) = some (.string r.1) ∧ W.cell? (a'.add (i * 2 + 1)) = some (.string r.2) ∧ r.1.size ≤ Rows.uptoBulk y.1 ∧ r.2.size ≤ Rows.uptoBulk y.1 := by
      intro i hil
      obtain ⟨cs', hc, ht⟩ := hi i (by omega)
      rw [cellsLabel] at hc
      obtain ⟨x, rfl, h1, h2⟩ := open_label ht
      obtain ⟨_, _, hat⟩ := World.cells?_some hc
      have hle : Rows.uptoBulk (D i) ≤ Rows.uptoBulk y.1 := by
        rw [hd]
        exact bulk_elem (List.mem_map_of_mem (List.mem_range.2 hil))
      refine ⟨x, ?_, ?_, Nat.le_trans h1 hle, Nat.le_trans h2 hle⟩
      · have := hat 0 (by decide)
        rw [← Go.Deep.add_add, this]
        rfl
      · have := hat 1 (by decide)
        rw [← Go.Deep.add_add, this]
        rfl
    haveI : Inhabited Lab := ⟨(⟨#[]⟩, ⟨#[]⟩)⟩
    obtain ⟨g, hg⟩ := choose_lt h3
    obtain ⟨b, off, spot⟩ := a'
    refine ⟨some ⟨b, off, spot⟩, m, (List.range len).map g, by simpa using hcs, fun hne => ?_, ?_, fun x hx => ?_⟩
    · have h0 : 0 < len := by
        rcases Nat.eq_zero_or_pos len with e | e
        · subst e; exact absurd rfl hne
        · exact e
      have hspot : spot = none := by simpa [Addr.add] using World.cell?_spot (hg 0 h0).1
      subst hspot
      refine ⟨b, off, rfl, cell_below (g := b) (o := off) (by simpa [Addr.add] using (hg 0 h0).1), fun i x hi => ?_⟩
      have hil : i < len := by have := (List.getElem?_eq_some_iff.1 hi).1; simpa using this
      rw [List.getElem?_map, List.getElem?_range hil] at hi
      obtain rfl : g i = x := Option.some.inj hi
      obtain ⟨c0, c1, _⟩ := hg i hil
      rw [add_at] at c0 c1
      exact ⟨c0, by rw [Nat.add_assoc]; exact c1⟩
    · rw [hd]
      have := bulk_slice ((List.range len).map D) ((List.range (m - len)).map fun j => D (len + j))
      simpa using this
    · obtain ⟨i, hi, rfl⟩ := List.mem_map.1 hx
      exact (hg i (List.mem_range.1 hi)).2.2
set_option maxRecDepth 100000 in
/-- an entry opened -/
theorem open_entry {n : Nat} {cs : List Value} {y : DataW H × List MemPlace} (h : DataW.trod enc Tryz.prog W 0 (fun _ => true) true n 38 cs = some y) :
    ∃ (la : Option Addr) (lc : Nat) (e : Ent), cs = [.slice la e.lab.length lc, .bool e.mark, .int .u64 e.bits, .bool e.st, .int .i64 e.time, .int .i64 e.stamp] ∧ RdL W la e.lab ∧ e.lab.length ≤ Rows.uptoBulk y.1 ∧ (∀ x ∈ e.lab, x.1.size ≤ Rows.uptoBulk y.1 ∧ x.2.size ≤ Rows.uptoBulk y.1) ∧ EntIn e := by
  obtain ⟨f0, f1, f2, f3, f4, f5, hu, ⟨t0, o0⟩, ⟨t1, o1⟩, ⟨t2, o2⟩, ⟨t3, o3⟩, ⟨t4, o4⟩, t5, o5⟩ := entry_fields
  obtain ⟨xs, n', _, hy, hl, hlen, hf⟩ := DataW.trod_struct hu h
  rw [cellsEntry] at hl
  match cs, hl with
  | [c0, c1, c2, c3, c4, c5], _ =>
    have hx : ∀ j, j < 6 → ∃ y, xs[j]? = some y := fun j hj => ⟨_, List.getElem?_eq_getElem (by rw [hlen]; exact hj)⟩
    obtain ⟨y0, e0⟩ := hx 0 (by omega)
    obtain ⟨y1, e1⟩ := hx 1 (by omega)
    obtain ⟨y2, e2⟩ := hx 2 (by omega)
    obtain ⟨y3, e3⟩ := hx 3 (by omega)
    obtain ⟨y4, e4⟩ := hx 4 (by omega)
    obtain ⟨y5, e5⟩ := hx 5 (by omega)
    have h0 := (hf 0 f0 rfl).trans e0
    have h1 := (hf 1 f1 rfl).trans e1
    have h2 := (hf 2 f2 rfl).trans e2
    have h3 := (hf 3 f3 rfl).trans e3
    have h4 := (hf 4 f4 rfl).trans e4
    have h5 := (hf 5 f5 rfl).trans e5
    rw [t0, o0, cellsLabels] at h0
    rw [t1, o1, cellsBool] at h1
    rw [t2, o2, cellsU64] at h2
    rw [t3, o3, cellsBool] at h3
    rw [t4, o4, cellsInt] at h4
    rw [t5, o5, cellsInt] at h5
    obtain ⟨la, lc, lab, r0, hr, hn, hz⟩ := open_labels (c := c0) h0
    have hle : Rows.uptoBulk y0.1 ≤ Rows.uptoBulk y.1 := by
      rw [hy]
      exact bulk_agg (List.mem_map_of_mem (List.mem_of_getElem? e0))
    obtain ⟨b1, r1, _⟩ := DataW.trod_bool Tryz.underlying4 h1
    obtain ⟨b2, r2, _, w2⟩ := DataW.trod_int Tryz.underlying36 h2
    obtain ⟨b3, r3, _⟩ := DataW.trod_bool Tryz.underlying4 h3
    obtain ⟨b4, r4, _, w4⟩ := DataW.trod_int Tryz.underlying3 h4
    obtain ⟨b5, r5, _, w5⟩ := DataW.trod_int Tryz.underlying3 h5
    simp at r1 r2 r3 r4 r5
    subst r0 r1 r2 r3 r4 r5
    have k2 := wf_u64' w2
    have k4 := wf_int w4
    have k5 := wf_int w5
    exact ⟨la, lc, ⟨lab, b1, b2, b3, b4, b5⟩, rfl, hr, Nat.le_trans hn hle, fun x hx => ⟨Nat.le_trans (hz x hx).1 hle, Nat.le_trans (hz x hx).2 hle⟩, ⟨k2.1, k2.2, k4.1, k4.2, k5.1, k5.2⟩⟩
set_option maxRecDepth 100000 in
/-- an item opened -/
theorem open_item {n : Nat} {cs : List Value} {y : DataW H × List MemPlace} (h : DataW.trod enc Tryz.prog W 0 (fun _ => true) true n 44 cs = some y) :
    ∃ x : SI, cs = iB x ∧ RdL W x.la x.e.lab ∧ x.e.lab.length ≤ Rows.uptoBulk y.1 ∧ (∀ z ∈ x.e.lab, z.1.size ≤ Rows.uptoBulk y.1 ∧ z.2.size ≤ Rows.uptoBulk y.1) ∧ EntIn x.e ∧ x.key.size ≤ Rows.uptoBulk y.1 := by
  obtain ⟨f0, f1, hu, t0, t1, o0, o1⟩ := item_fields
  obtain ⟨xs, n', _, hy, hl, hlen, hf⟩ := DataW.trod_struct hu h
  rw [cellsItem] at hl
  match cs, hl with
  | [c0, c1, c2, c3, c4, c5, c6], _ =>
    match xs, hlen with
    | [y0, y1], _ =>
      have h0 := hf 0 f0 rfl
      have h1 := hf 1 f1 rfl
      rw [t0, o0, cellsStr] at h0
      rw [t1, o1, cellsEntry] at h1
      obtain ⟨s, r0, e0, _⟩ := DataW.trod_string (x := y0) Tryz.underlying9 h0
      obtain ⟨la, lc, e, r1, hr, hn, hz, hi⟩ := open_entry (y := y1) h1
      have hle : Rows.uptoBulk y1.1 ≤ Rows.uptoBulk y.1 := by
        rw [hy]
        exact bulk_agg (by simp)
      simp at r0 r1
      obtain ⟨q1, q2, q3, q4, q5, q6⟩ := r1
      subst r0 q1 q2 q3 q4 q5 q6
      refine ⟨⟨s, la, lc, e⟩, rfl, hr, Nat.le_trans hn hle, fun x hx => ⟨Nat.le_trans (hz x hx).1 hle, Nat.le_trans (hz x hx).2 hle⟩, hi, ?_⟩
      rw [hy]
      refine Nat.le_trans ?_ (bulk_agg (d := y0.1) (by simp))
      rw [e0]
      have := bulk_str (H := H) s.data.toList
      simpa using this
set_option maxRecDepth 100000 in
theorem open_items {base : Nat} {v : Value} {d : DataW H} {ps : List MemPlace} (hval : Value.okWide Tryz.prog W .any base 22 v)
    (h : DataW.Trod enc Tryz.prog W 0 (fun _ => true) true 22 v d ps) (hb : Rows.uptoBulk d ≤ 1048576) : ∃ a cap l, v = .slice a (List.length l) cap ∧ RdJ W a l ∧ CkOk l ∧ l.length ≤ 1100000 := by
  obtain ⟨a, len, cap, rfl⟩ := okWide_slice Tryz.underlying22 hval
  obtain ⟨fuel, hf⟩ := h
  rcases open_slice Tryz.underlying22 hf with ⟨hcs, _⟩ | ⟨a', len', cap', m, n, D, Pl, hcs, _, hl, hm, hmm, hx, hi⟩
  · have hcs : [Value.slice a len cap] = [.slice none 0 0] := hcs
    cases hcs
    exact ⟨none, 0, [], rfl, ⟨fun h => absurd rfl h, fun x hx => by cases hx⟩, ⟨(fun x hx => by cases hx), (fun x hx => by cases hx), (fun x hx => by cases hx), (fun x hx => by cases hx)⟩, Nat.zero_le _⟩
  · have hcs : [Value.slice a len cap] = [.slice (some a') len' cap'] := hcs
    cases hcs
    simp only [if_true] at hmm
    subst hmm
    have hd : d = .slice ((List.range len).map D) ((List.range (m - len)).map fun j => D (len + j)) := congrArg Prod.fst hx
    have hel : ∀ i, i < len → Rows.uptoBulk (D i) ≤ 1048576 := fun i hi => by
      refine Nat.le_trans ?_ hb
      rw [hd]
      exact bulk_elem (List.mem_map_of_mem (List.mem_range.2 hi))
    have hlen : len ≤ 1048576 := by
      refine Nat.le_trans ?_ hb
      rw [hd]
      have := bulk_slice ((List.range len).map D) ((List.range (m - len)).map fun j => D (len + j))
      simpa using this
    have h3 : ∀ i, i < len → ∃ x : SI, (∀ (j : Nat) (u : Value), (iB x)[j]? = some u → W.cell? (a'.add (i * 7 + j)) = some u) ∧ RdL W x.la x.e.lab ∧ LabZ x.e.lab ∧ x.e.lab.length ≤ 1000000000 ∧ EntIn x.e ∧ x.key.size ≤ 1100000 := by
      intro i hil
      obtain ⟨cs', hc, ht⟩ := hi i (by omega)
      rw [cellsItem] at hc
      obtain ⟨x, rfl, h1, h2, h3, h4, h5⟩ := open_item ht
      obtain ⟨_, hcl, hat⟩ := World.cells?_some hc
      have hle : Rows.uptoBulk (D i, Pl i).1 ≤ 1048576 := hel i hil
      refine ⟨x, fun j u hu => ?_, h1, fun z hz => ?_, by omega, h4, by omega⟩
      rotate_left
      · obtain ⟨z1, z2⟩ := h3 z hz
        exact ⟨by omega, by omega⟩
      have hj := (List.getElem?_eq_some_iff.1 hu).1
      have hj7 : j < 7 := hj
      have := hat j hj7
      rw [← Go.Deep.add_add, this]
      exact hu
    haveI : Inhabited SI := ⟨⟨⟨#[]⟩, none, 0, ⟨[], false, 0, false, 0, 0⟩⟩⟩
    obtain ⟨g, hg⟩ := choose_lt h3
    obtain ⟨b, off, spot⟩ := a'
    have hmem : ∀ x ∈ (List.range len).map g, ∃ i, i < len ∧ x = g i := fun x hx => by
      obtain ⟨i, hi, rfl⟩ := List.mem_map.1 hx
      exact ⟨i, List.mem_range.1 hi, rfl⟩
    refine ⟨some ⟨b, off, spot⟩, m, (List.range len).map g, by simp, ⟨fun hne => ?_, fun x hx => ?_⟩, ⟨fun x hx => ?_, fun x hx => ?_, fun x hx => ?_, fun x hx => ?_⟩, by simp; omega⟩
    · have h0 : 0 < len := by
        rcases Nat.eq_zero_or_pos len with e | e
        · subst e; exact absurd rfl hne
        · exact e
      have hc0 := (hg 0 h0).1 0 _ rfl
      have hspot : spot = none := by simpa [Addr.add] using World.cell?_spot hc0
      subst hspot
      refine ⟨b, off, rfl, cell_below (g := b) (o := off) (by simpa [Addr.add] using hc0), fun j u hu => ?_⟩
      have hj := (List.getElem?_eq_some_iff.1 hu).1
      rw [iFlat_length, List.length_map, List.length_range] at hj
      have hm7 := Nat.mod_lt j (show 7 > 0 by decide)
      have hi : j / 7 < len := by omega
      have hgx : ((List.range len).map g)[j / 7]? = some (g (j / 7)) := by rw [List.getElem?_map, List.getElem?_range hi]; rfl
      have hlt : j % 7 < (iB (g (j / 7))).length := hm7
      have hat := flat_at iB 7 (fun _ => rfl) (j := j % 7) hgx (List.getElem?_eq_getElem hlt)
      rw [show j / 7 * 7 + j % 7 = j by omega] at hat
      have hu' := Option.some.inj (hat.symm.trans hu)
      have hc := (hg (j / 7) hi).1 (j % 7) _ (List.getElem?_eq_getElem hlt)
      rw [add_at, hu', show off + (j / 7 * 7 + j % 7) = off + j by omega] at hc
      exact hc
    · obtain ⟨i, hi, rfl⟩ := hmem x hx
      exact (hg i hi).2.1
    · obtain ⟨i, hi, rfl⟩ := hmem x hx
      exact (hg i hi).2.2.2.2.2
    · obtain ⟨i, hi, rfl⟩ := hmem x hx
      exact (hg i hi).2.2.2.1
    · obtain ⟨i, hi, rfl⟩ := hmem x hx
      exact (hg i hi).2.2.1
    · obtain ⟨i, hi, rfl⟩ := hmem x hx
      exact (hg i hi).2.2.2.2.1
end
end Go.Proofs.YtggfehppompcjaaGreatDoor.Sk
