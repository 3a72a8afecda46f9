/- slices.Insert of one element: the walk. -/
import Derived.Test.YtmagojckhfkcdaaGreatDoorKiR
import Derived.Lib.AppendZeros
namespace Go.Proofs.YtmagojckhfkcdaaGreatDoor.Sk
open Go Go.RowKit Go.Shelf
theorem insI_open {W : World} {base n cap g : Nat} {xs : List Value} (h : W.ownsRow base 40 7 (.slice (some ⟨g, 0, none⟩) n cap) n xs) :
    ∃ R : List Value, W.heap[g]? = some (.cells (xs ++ R).toArray 40 (0, 0)) ∧ xs.length = n * 7 ∧ xs.length + R.length = cap * 7 ∧ base ≤ g ∧ n ≤ cap ∧ cap ≤ maxLen := by
  have hx := h.1
  rcases h.2 with ⟨e, h0⟩ | ⟨g', cap', cur, e, hb, hg, hc, hm, hs, ht⟩
  · cases e
  · cases e
    refine ⟨cur.toList.drop (n * 7), ?_, hx, ?_, hb, hc, hm⟩
    · rw [← ht, hg]
      congr 1
      rw [List.take_append_drop, Array.toArray_toList]
    · have h1 : cur.toList.length = cap * 7 := by rw [Array.length_toList]; exact hs
      rw [List.length_drop, h1, hx]
      omega
theorem insI_shut {W : World} {base n cap g : Nat} {xs R : List Value} (hg : W.heap[g]? = some (.cells (xs ++ R).toArray 40 (0, 0))) (hx : xs.length = n * 7) (hs : xs.length + R.length = cap * 7) (hb : base ≤ g) (hc : n ≤ cap) (hm : cap ≤ maxLen) :
    W.ownsRow base 40 7 (.slice (some ⟨g, 0, none⟩) n cap) n xs := by
  refine ⟨hx, .inr ⟨g, cap, (xs ++ R).toArray, rfl, hb, hg, hc, hm, by simp; omega, ?_⟩⟩
  simp only []
  rw [← hx, List.take_left' rfl]
/-- what Insert leaves as it was: all blocks but the slice's own -/
def KeepI (w : World) (a : Option Addr) (w' : World) : Prop := ∀ q, q < w.heap.size → (∀ g, a = some ⟨g, 0, none⟩ → q ≠ g) → w'.heap[q]? = w.heap[q]?
def insIPost (w : World) (a : Option Addr) (w0 : World) (base n : Nat) (xs : List Value) (e : Ending) (w' : World) : Prop :=
  ∃ v, e = .returned v ∧ w'.ownsRow base 40 7 v n xs ∧ Below base w0 w' ∧ KeepI w a w'
theorem KeepI.grown {w w' : World} {a : Option Addr} {n c : Nat} (h : w.grownBy w' (Value.slice a n c).ownBlock) (ha : ∀ p, a = some p → p = ⟨p.block, 0, none⟩) : KeepI w a w' := fun q hq hne =>
  Fr.block (fr_grown (X := fun k => (Value.slice a n c).ownBlock = some k) h (fun _ hk => hk)) q hq (fun e => by
    cases a with
    | none => simp [Value.ownBlock] at e
    | some p =>
      have e1 : p.block = q := by simpa [Value.ownBlock] using e
      exact hne p.block (by rw [← ha p rfl]) e1.symm)
theorem insI_szR (W : World) : (Go.sizeOf 40).run Tryz.prog W = .ok 7 W := by
  obtain ⟨i0, hi0, h0, h1, h2⟩ := info_parts infoIt
  simp [sizeOf, typeInfo, hi0, h1]
theorem insI_szI : (Tryz.prog.info? 40).map (·.size) = some 7 := by
  obtain ⟨i0, hi0, h0, h1, h2⟩ := info_parts infoIt
  rw [hi0]; simp [h1]
theorem insI_over (w : World) (g vb o : Nat) (C : Array Value) (X : List Value) (hX : X.length = 7) (hvg : vb ≠ g) (hg : w.heap[g]? = some (.cells C 40 (0, 0))) (hC : C.size ≠ 0) (hv : w.heap[vb]? = some (.cells X.toArray 40 (0, 0))) (lb cb : Nat) :
    (callFunc 41 #[.slice (some ⟨vb, 0, none⟩) 1 1, .slice (some ⟨g, o, none⟩) lb cb]).run Tryz.prog w = .ok (.value (.bool false)) w := by
  rw [run_callFunc_extern Tryz.func41 (by kernel_rfl) (by kernel_rfl) (by kernel_rfl) (e := Extern.SlicesOverlaps.overlaps #[28, 28] #[4]) (by kernel_rfl),
    Lib.run_overlaps_apart w 28 4 40 Tryz.underlying28 7 insI_szR ⟨vb, 0, none⟩ ⟨g, o, none⟩ 1 1 lb cb hvg 40 40 7 C.size (by simp [World.shape?, hv, hX]) (by simp [World.shape?, hg]) hC (by simp [World.frozen?, hv]) (by simp [World.frozen?, hv])]
  rfl
theorem insI_cell {W : World} {g : Nat} {L : List Value} {T : TypeId} (h : W.heap[g]? = some (.cells L.toArray T (0, 0))) {o j : Nat} {u : Value} (hu : L[o + j]? = some u) : W.cell? ((⟨g, o, none⟩ : Addr).add j) = some u := by
  rw [Addr.add_lit, cell_of_row W g (o + j) _ _ _ h, List.getElem?_toArray]
  exact hu
set_option maxRecDepth 100000 in
set_option maxHeartbeats 2000000 in
theorem insI_room (g n cap k : Nat) (P S X : List Value) (base : Nat) (w0 w : World) (hown : w.ownsRow base 40 7 (.slice (some ⟨g, 0, none⟩) n cap) n (P ++ S)) (hPl : P.length = k * 7) (hSl : S.length = (n - k) * 7) (hXl : X.length = 7) (h1P : ∀ v ∈ P, v.oneCell' = true) (h1S : ∀ v ∈ S, v.oneCell' = true) (h1X : ∀ v ∈ X, v.oneCell' = true) (hn : n ≤ 1000) (hk : k < n) (vb : Nat) (hvg : vb ≠ g) (hv' : w.heap[vb]? = some (.cells X.toArray 40 (0, 0))) (hb : Below base w0 w) (hcap : n + 1 ≤ cap) :
    Calls Tryz.prog 15 #[.slice (some ⟨g, 0, none⟩) n cap, .int .i64 (k : Int), .slice (some ⟨vb, 0, none⟩) 1 1] w (insIPost w (some ⟨g, 0, none⟩) w0 base (n + 1) (P ++ (X ++ S))) := by
  obtain ⟨R, hg, hx, hs, hbg, hnc, hm⟩ := insI_open hown
  have hz2 : ((k : Int) == (n : Int)) = false := beq_eq_false_iff_ne.2 (by omega)
  have hw1 : IntKind.i64.wrap ((n : Int) + 1) = (n : Int) + 1 := by rw [IntKind.wrap_i64]; omega
  have hw2 : IntKind.i64.wrap ((k : Int) + 1) = (k : Int) + 1 := by rw [IntKind.wrap_i64]; omega
  have hm63 : (cap : Int) ≤ 9223372036854775807 := by unfold maxLen at hm; omega
  have hb1 : (0 : Int) ≤ (k : Int) + 1 := by omega
  have htn : ((k : Int) + 1).toNat = k + 1 := by omega
  have hb2 : ¬ (cap = k + 1) := by omega
  have hb3 : (k : Int) ≤ (n : Int) + 1 := by omega
  have hb4 : ¬ (cap = k) := by omega
  have hin : k ≤ n := by omega
  rw [List.append_assoc] at hg
  rw [List.length_append] at hx hs
  have hR : 7 ≤ R.length := by omega
  have hC : (P ++ (S ++ R)).toArray.size ≠ 0 := by rw [List.size_toArray, List.length_append, List.length_append]; omega
  have hov := fun lb cb => insI_over w g vb ((k + 1) * 7) _ X hXl hvg hg hC hv' lb cb
  have hcs1 : ∀ j u, S[j]? = some u → w.cell? ((⟨g, k * 7, none⟩ : Addr).add j) = some u := fun j u hu => insI_cell hg (by rw [List.getElem?_append_right (by omega), show k * 7 + j - P.length = j by omega, List.getElem?_append_left (List.getElem?_eq_some_iff.1 hu).1]; exact hu)
  have HG := Lib.hid hg
  have HS1 := Lib.hid hcs1
  have HX := Lib.hid (And.intro hXl hv')
  have HL := Lib.hid (And.intro hPl (And.intro hSl (And.intro hs hR)))
  have H1 := Lib.hid (And.intro h1P (And.intro h1S h1X))
  have HB := Lib.hid (And.intro hb (And.intro hbg hm))
  clear hown hg hx hs hbg hm hb hC hcs1 hv' hXl hPl hSl hR h1P h1S h1X
  go_enter Tryz.func15, Tryz.ntmps15
  go_wp2_with (simp only [hov])
  go_region_law (refine step_copyN rfl _ _ 28 28 rfl 40 Tryz.underlying28 insI_szI (n - k) (cap - (k + 1)) (n + 1 - k) (cap - k) ⟨g, k * 7, none⟩ g ((k + 1) * 7) (by simp [Act.eval, Act.put]) (by simp [Act.eval, Act.put]) _ 40 HG.out S (n - k) (by simp only [Nat.min_def]; split <;> omega) HL.out.2.1 HS1.out (by have := HL.out; rw [List.length_append, List.length_append]; omega) H1.out.2.1 base w0 (HB.out.1.drew) HB.out.2.1 ?_; intro w4 hg4 hk4 hb4)
  have hsl : (splice (P ++ (S ++ R)) ((k + 1) * 7) S).length = (P ++ (S ++ R)).length := length_splice _ _ _ (by have := HL.out; rw [List.length_append, List.length_append]; omega)
  have hcs2 : ∀ j u, X[j]? = some u → w4.cell? ((⟨vb, 0, none⟩ : Addr).add j) = some u := fun j u hu => insI_cell (((hk4.out vb hvg).trans rfl).trans HX.out.2) (by rw [Nat.zero_add]; exact hu)
  have HC2 := Lib.hid (And.intro hsl hcs2)
  clear hsl hcs2
  go_wp2_with (refine wpList_copyN rfl _ _ 28 28 rfl 40 Tryz.underlying28 insI_szI (n + 1 - k) (cap - k) 1 1 ⟨vb, 0, none⟩ g (k * 7) (by simp [Act.eval]) (by simp [Act.eval]) _ 40 hg4.out X 1 (by simp only [Nat.min_def]; split <;> omega) HX.out.1 HC2.out.2 (by have := HL.out; rw [HC2.out.1, HX.out.1, List.length_append, List.length_append]; omega) H1.out.2.2 base w0 hb4 HB.out.2.1 ?_; intro w5 hg5 hk5 hb5)
  go_ret
  have hsp := splice_in P S R X HX.out.1 HL.out.2.2.2
  rw [show P.length + 7 = (k + 1) * 7 by have := HL.out.1; omega, show P.length = k * 7 from HL.out.1] at hsp
  have hg6 := hg5.out
  rw [hsp, ← List.append_assoc X, ← List.append_assoc P] at hg6
  have hlen : (P ++ (X ++ S)).length = (n + 1) * 7 := by have := HL.out; rw [List.length_append, List.length_append, HX.out.1]; omega
  refine ⟨_, rfl, ?_, hb5, fun q _ hne => (hk5.out q (hne g rfl)).trans ((hk4.out q (hne g rfl)).trans rfl)⟩
  exact insI_shut hg6 hlen (by have := HL.out; rw [hlen, List.length_drop]; omega) HB.out.2.1 hcap HB.out.2.2
theorem insI_zero (n : Nat) : (Builtin.zeroCells (Value.agg #[.string ⟨#[]⟩, .slice none 0 0, .bool false, .int .u64 0, .bool false, .int .i64 0, .int .i64 0]).cells n).toList.length = n * 7 := by
  simp [Builtin.zeroCells, Value.cells]
set_option maxRecDepth 100000 in
set_option maxHeartbeats 2000000 in
theorem insI_grow (g n cap k : Nat) (P S X : List Value) (base : Nat) (w0 w : World) (hown : w.ownsRow base 40 7 (.slice (some ⟨g, 0, none⟩) n cap) n (P ++ S)) (hPl : P.length = k * 7) (hSl : S.length = (n - k) * 7) (hXl : X.length = 7) (h1P : ∀ v ∈ P, v.oneCell' = true) (h1S : ∀ v ∈ S, v.oneCell' = true) (h1X : ∀ v ∈ X, v.oneCell' = true) (hn : n ≤ 1000) (hk : k < n) (vb : Nat) (hv' : w.heap[vb]? = some (.cells X.toArray 40 (0, 0))) (hb : Below base w0 w) (hcap : cap < n + 1) :
    Calls Tryz.prog 15 #[.slice (some ⟨g, 0, none⟩) n cap, .int .i64 (k : Int), .slice (some ⟨vb, 0, none⟩) 1 1] w (insIPost w (some ⟨g, 0, none⟩) w0 base (n + 1) (P ++ (X ++ S))) := by
  obtain ⟨R, hg, hx, hs, hbg, hnc, hm⟩ := insI_open hown
  have hgw : g < w.heap.size := (Array.getElem?_eq_some_iff.1 hg).1
  have hvw : vb < w.heap.size := (Array.getElem?_eq_some_iff.1 hv').1
  have hz2 : ((k : Int) == (n : Int)) = false := beq_eq_false_iff_ne.2 (by omega)
  have hw1 : IntKind.i64.wrap ((n : Int) + 1) = (n : Int) + 1 := by rw [IntKind.wrap_i64]; omega
  have hw2 : IntKind.i64.wrap ((k : Int) + 1) = (k : Int) + 1 := by rw [IntKind.wrap_i64]; omega
  have hw3 : IntKind.i64.wrap ((n : Int) + 1 - (k : Int)) = (n : Int) + 1 - (k : Int) := by rw [IntKind.wrap_i64]; omega
  have hb1 : (0 : Int) ≤ (k : Int) + 1 := by omega
  have htn : ((k : Int) + 1).toNat = k + 1 := by omega
  have hb3 : (k : Int) ≤ (n : Int) + 1 := by omega
  have hb4 : ¬ (cap = k) := by omega
  have hin : k ≤ n := by omega
  rw [List.append_assoc] at hg
  rw [List.length_append] at hx hs
  obtain ⟨i0, hi0, hz0, hzs, hzb⟩ := info_parts infoIt
  have hold : (Builtin.firstCells i0.size k (.slice (some ⟨g, 0, none⟩) k cap)).run Tryz.prog w.drew = .ok P.toArray w.drew := by
    rw [hzs]
    exact run_firstCells_some w.drew 7 k ⟨g, 0, none⟩ k cap P hPl (fun j v hj => insI_cell (W := w.drew) hg (by rw [Nat.zero_add, List.getElem?_append_left (List.getElem?_eq_some_iff.1 hj).1]; exact hj))
  obtain ⟨Gc, hGc⟩ : ∃ Gc, Gc = grownCap w (n + 1) cap 40 := ⟨_, rfl⟩
  obtain ⟨Z, hZ⟩ : ∃ Z, Z = (Builtin.zeroCells (Value.agg #[.string ⟨#[]⟩, .slice none 0 0, .bool false, .int .u64 0, .bool false, .int .i64 0, .int .i64 0]).cells (n + 1 - k)).toList ++ (Builtin.zeroCells (Value.agg #[.string ⟨#[]⟩, .slice none 0 0, .bool false, .int .u64 0, .bool false, .int .i64 0, .int .i64 0]).cells (Gc - (n + 1))).toList := ⟨_, rfl⟩
  have hGn : n + 1 ≤ Gc := by rw [hGc]; exact grownCap_ge w _ _ _
  have hGm : Gc ≤ maxLen := by rw [hGc]; exact grownCap_le_maxLen w (n + 1) cap _ (by unfold maxLen; omega)
  have hZl : Z.length = (n + 1 - k) * 7 + (Gc - (n + 1)) * 7 := by rw [hZ, List.length_append, insI_zero, insI_zero]
  have hkk : (n : Int) + 1 - (k : Int) = ((n + 1 - k : Nat) : Int) := by omega
  have hik : k + (n + 1 - k) = n + 1 := by omega
  have hrz : ∀ ty, (Builtin.append_ #[28, 3] ty #[.slice (some ⟨g, 0, none⟩) k cap, .int .i64 ((n + 1 - k : Nat) : Int)]).run Tryz.prog w = .ok (.slice (some ⟨w.heap.size, 0, none⟩) (n + 1) Gc) (w.drew.alloc (.cells (P ++ Z).toArray 40)) := fun ty => by
    have h := Lib.run_append_grow_zeros w 28 3 ty 40 i0 _ .i64 .i64 Tryz.underlying28 Tryz.underlying3 hi0 hz0 (some ⟨g, 0, none⟩) k cap P hold (n + 1 - k) (by omega) (by omega) (by omega) (by omega) (by rw [hzb]; omega) (by rw [hzb, hik]; exact growslice_fits hcap (by omega))
    rw [hik] at h
    have hrow : P.toArray ++ Builtin.zeroCells (Value.agg #[.string ⟨#[]⟩, .slice none 0 0, .bool false, .int .u64 0, .bool false, .int .i64 0, .int .i64 0]).cells (n + 1 - k) ++ Builtin.zeroCells (Value.agg #[.string ⟨#[]⟩, .slice none 0 0, .bool false, .int .u64 0, .bool false, .int .i64 0, .int .i64 0]).cells (Gc - (n + 1)) = (P ++ Z).toArray := by
      rw [hZ]
      apply Array.ext'
      simp
    rw [h, ← hGc, hrow]
  have hbase : base ≤ w.heap.size := by omega
  have hGi : ¬ (Gc = k) := by omega
  have hGk : ¬ (Gc = k + 1) := by omega
  have hG63 : (Gc : Int) ≤ 9223372036854775807 := by unfold maxLen at hGm; omega
  have hgN : g ≠ w.heap.size := by omega
  have hvN : vb ≠ w.heap.size := by omega
  have HN : Hid ((w.alloc (.cells (P ++ Z).toArray 40)).heap[w.heap.size]? = some (.cells (P ++ Z).toArray 40 (0, 0))) := Lib.hid (heap_alloc_new w _)
  have hvn : (w.alloc (.cells (P ++ Z).toArray 40)).heap[vb]? = some (.cells X.toArray 40 (0, 0)) := (Below.heap_alloc w _ vb hvw).trans hv'
  have hgn : (w.alloc (.cells (P ++ Z).toArray 40)).heap[g]? = some (.cells (P ++ (S ++ R)).toArray 40 (0, 0)) := (Below.heap_alloc w _ g hgw).trans hg
  have HV2 : Hid (∀ j u, X[j]? = some u → (w.alloc (.cells (P ++ Z).toArray 40)).cell? ((⟨vb, 0, none⟩ : Addr).add j) = some u) := Lib.hid fun j u hu => insI_cell hvn (by rw [Nat.zero_add]; exact hu)
  have HGN := Lib.hid hgn
  have HX := Lib.hid (And.intro hXl hv')
  have HL := Lib.hid (And.intro hPl (And.intro hSl (And.intro hs (And.intro hZl hx))))
  have H1 := Lib.hid (And.intro h1P (And.intro h1S h1X))
  have HB := Lib.hid (And.intro ((hb.alloc hbase (.cells (P ++ Z).toArray 40)).drew) (And.intro hbase hGm))
  clear hown hg hx hs hbg hm hb hv' hXl hPl hSl h1P h1S h1X hold hZ hZl hgn hvn hGc hi0 hz0 hzs hzb
  go_enter Tryz.func15, Tryz.ntmps15
  go_wp2_with (first
    | (at_builtin; refine Lib.wpList_append_run _ rfl _ _ _ _ rfl (.slice (some ⟨g, 0, none⟩) k cap) (.int .i64 ((n + 1 - k : Nat) : Int)) (by simp [Act.eval]) (by simp [Act.eval]) _ _ (hrz _) ?_)
    | (refine wpList_copyN rfl _ _ 28 28 rfl 40 Tryz.underlying28 insI_szI (n + 1 - k) (Gc - k) 1 1 ⟨vb, 0, none⟩ w.heap.size (k * 7) (by simp [Act.eval]) (by simp [Act.eval]) _ 40 HN.out X 1 (by simp only [Nat.min_def]; split <;> omega) HX.out.1 HV2.out (by have := HL.out; rw [HX.out.1, List.length_append]; omega) H1.out.2.2 base w0 HB.out.1 HB.out.2.1 ?_; intro w4 hg4 hk4 hb4))
  have hcs : ∀ j u, S[j]? = some u → w4.cell? ((⟨g, k * 7, none⟩ : Addr).add j) = some u := fun j u hu => insI_cell (((hk4.out g hgN).trans rfl).trans HGN.out) (by have := HL.out.1; rw [List.getElem?_append_right (by omega), show k * 7 + j - P.length = j by omega, List.getElem?_append_left (List.getElem?_eq_some_iff.1 hu).1]; exact hu)
  have hsl : (splice (P ++ Z) (k * 7) X).length = (P ++ Z).length := length_splice _ _ _ (by have := HL.out; rw [HX.out.1, List.length_append]; omega)
  have HC2 := Lib.hid (And.intro hsl hcs)
  clear hsl hcs
  go_region_law (refine step_copyN rfl _ _ 28 28 rfl 40 Tryz.underlying28 insI_szI (n - k) (Gc - (k + 1)) (n - k) (cap - k) ⟨g, k * 7, none⟩ w.heap.size ((k + 1) * 7) (by simp [Act.eval, Act.put]) (by simp [Act.eval, Act.put]) _ 40 hg4.out S (n - k) (by simp only [Nat.min_def]; split <;> omega) HL.out.2.1 HC2.out.2 (by have := HL.out; rw [HC2.out.1, List.length_append]; omega) H1.out.2.1 base w0 hb4.drew HB.out.2.1 ?_; intro w5 hg5 hk5 hb5)
  go_wp2
  go_ret
  have hsp := splice_new P S Z X HX.out.1 (by have := HL.out; omega)
  rw [show P.length + 7 = (k + 1) * 7 by have := HL.out.1; omega, show P.length = k * 7 from HL.out.1] at hsp
  have hg6 := hg5.out
  rw [hsp, ← List.append_assoc X, ← List.append_assoc P] at hg6
  have hlen : (P ++ (X ++ S)).length = (n + 1) * 7 := by have := HL.out; rw [List.length_append, List.length_append, HX.out.1]; omega
  refine ⟨_, rfl, ?_, hb5, fun q hq _ => (hk5.out q (by omega)).trans (((hk4.out q (by omega)).trans rfl).trans (Below.heap_alloc w _ q hq))⟩
  exact insI_shut hg6 hlen (by have := HL.out; rw [hlen, List.length_drop]; omega) HB.out.2.1 hGn HB.out.2.2
set_option maxRecDepth 100000 in
set_option maxHeartbeats 2000000 in
theorem insI_end (a : Option Addr) (n cap : Nat) (xs X : List Value) (base : Nat) (w0 w : World) (hown : w.ownsRow base 40 7 (.slice a n cap) n xs) (hXl : X.length = 7) (h1X : ∀ v ∈ X, v.oneCell' = true) (hn : n ≤ 1000) (vb : Nat) (hv : w.heap[vb]? = some (.cells X.toArray 40 (0, 0))) (hb : Below base w0 w) (hbase : base ≤ w.heap.size) (_hnc : n ≤ cap) :
    Calls Tryz.prog 15 #[.slice a n cap, .int .i64 (n : Int), .slice (some ⟨vb, 0, none⟩) 1 1] w (insIPost w a w0 base (n + 1) (xs ++ X)) := by
  have hnews : ∀ j u, X[j]? = some u → w.cell? ((⟨vb, 0, none⟩ : Addr).add j) = some u := fun j u hu => insI_cell hv (by rw [Nat.zero_add]; exact hu)
  have HA : Hid (∀ p, a = some p → p = ⟨p.block, 0, none⟩) := Lib.hid (fun p e => by
    subst e
    rcases hown.2 with ⟨e, _⟩ | ⟨g, cap', cur, e, _⟩
    · cases e
    · cases e; rfl)
  have HO := Lib.hid (And.intro hown (And.intro hb (And.intro hnews (And.intro hXl h1X))))
  have hnil : a = none → n = 0 ∧ cap = 0 := fun e => by
    subst e
    rcases hown.2 with ⟨e, h0⟩ | ⟨g, cap', cur, e, _⟩
    · cases e; exact ⟨rfl, rfl⟩
    · cases e
  clear hown hb hv hnews hXl h1X
  cases a with
  | none =>
    obtain ⟨rfl, rfl⟩ := hnil rfl
    clear hnil
    go_enter Tryz.func15, Tryz.ntmps15
    go_wp2_with (at_builtin; refine wpList_app rfl _ _ 28 40 7 80 _ rfl Tryz.underlying28 infoIt rfl (by decide) (by decide) base _ 0 xs rfl HO.out.1 ⟨vb, 0, none⟩ 1 1 X rfl (by rw [HO.out.2.2.2.1]) HO.out.2.2.1 HO.out.2.2.2.2 (by omega) hbase ?_; intro v2 w2 hown2 hgrow _ hbel)
    go_ret
    exact ⟨v2, rfl, hown2, hbel _ HO.out.2.1, KeepI.grown hgrow HA.out⟩
  | some ad =>
    clear hnil
    go_enter Tryz.func15, Tryz.ntmps15
    go_wp2_with (at_builtin; refine wpList_app rfl _ _ 28 40 7 80 _ rfl Tryz.underlying28 infoIt rfl (by decide) (by decide) base _ n xs rfl HO.out.1 ⟨vb, 0, none⟩ 1 1 X rfl (by rw [HO.out.2.2.2.1]) HO.out.2.2.1 HO.out.2.2.2.2 (by omega) hbase ?_; intro v2 w2 hown2 hgrow _ hbel)
    all_goals
      go_ret
      exact ⟨v2, rfl, hown2, hbel _ HO.out.2.1, KeepI.grown hgrow HA.out⟩
theorem insI_calls (a : Option Addr) (n cap k : Nat) (P S X : List Value) (base : Nat) (w0 w : World) (hown : w.ownsRow base 40 7 (.slice a n cap) n (P ++ S)) (hPl : P.length = k * 7) (hSl : S.length = (n - k) * 7) (hXl : X.length = 7) (h1P : ∀ v ∈ P, v.oneCell' = true) (h1S : ∀ v ∈ S, v.oneCell' = true) (h1X : ∀ v ∈ X, v.oneCell' = true) (hn : n ≤ 1000) (hk : k ≤ n) (vb : Nat) (hvg : ∀ g, a = some ⟨g, 0, none⟩ → vb ≠ g) (hv : w.heap[vb]? = some (.cells X.toArray 40 (0, 0))) (hb : Below base w0 w) (hbase : base ≤ w.heap.size) :
    Calls Tryz.prog 15 #[.slice a n cap, .int .i64 (k : Int), .slice (some ⟨vb, 0, none⟩) 1 1] w (insIPost w a w0 base (n + 1) (P ++ (X ++ S))) := by
  have hcap : n ≤ cap := by
    rcases hown.2 with ⟨e, h0⟩ | ⟨g, cap', cur, e, _, _, h1, _⟩
    · cases e; omega
    · cases e; exact h1
  by_cases h : k = n
  · subst h
    have hS : S = [] := List.eq_nil_of_length_eq_zero (by rw [hSl, Nat.sub_self, Nat.zero_mul])
    subst hS
    have := insI_end a k cap (P ++ []) X base w0 w hown hXl h1X hn vb hv hb hbase hcap
    rw [List.append_nil] at this ⊢
    exact this
  · obtain ⟨g, rfl, _⟩ := own_at0 hown (by intro e; have := hown.1; rw [e] at this; simp at this; omega)
    rcases Nat.lt_or_ge cap (n + 1) with hc | hc
    · exact insI_grow g n cap k P S X base w0 w hown hPl hSl hXl h1P h1S h1X hn (by omega) vb hv hb hc
    · exact insI_room g n cap k P S X base w0 w hown hPl hSl hXl h1P h1S h1X hn (by omega) vb (hvg g rfl) hv hb hc
end Go.Proofs.YtmagojckhfkcdaaGreatDoor.Sk
