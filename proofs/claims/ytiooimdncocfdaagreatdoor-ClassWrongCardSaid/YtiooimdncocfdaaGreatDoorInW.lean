/- slices.Insert of one range: the walk. -/
import Derived.Test.YtiooimdncocfdaaGreatDoorInR
import Derived.Test.YtiooimdncocfdaaGreatDoorInB
import Derived.Lib.AppendZeros
namespace Go.Proofs.YtiooimdncocfdaaGreatDoor
open Go.RowKit Go.Shelf
def insL (l : Rs.S) (k : Nat) (x : Rs.R) : Rs.S := l.take k ++ [x] ++ l.drop k
theorem ins_len {l : Rs.S} {k : Nat} (x : Rs.R) (h : k ≤ l.length) : (insL l k x).length = l.length + 1 := by
  unfold insL
  simp only [List.length_append, List.length_take, List.length_drop, List.length_singleton]
  omega
theorem ins_flat (l : Rs.S) (k : Nat) (x : Rs.R) : rFlat (insL l k x) = rFlat (l.take k) ++ (rFlat [x] ++ rFlat (l.drop k)) := by
  unfold insL
  rw [rFlat_append, rFlat_append, List.append_assoc]
theorem row_open {W : World} {base n cap g : Nat} {xs : List Value} (h : W.ownsRow base 27 2 (.slice (some ⟨g, 0, none⟩) n cap) n xs) :
    ∃ R : List Value, W.heap[g]? = some (.cells (xs ++ R).toArray 27 (0, 0)) ∧ xs.length = n * 2 ∧ xs.length + R.length = cap * 2 ∧ base ≤ g ∧ n ≤ cap ∧ cap ≤ maxLen := by
  have hx := h.1
  rcases h.2 with ⟨e, h0⟩ | ⟨g', cap', cur, e, hb, hg, hc, hm, hs, ht⟩
  · cases e
  · cases e
    refine ⟨cur.toList.drop (n * 2), ?_, hx, ?_, hb, hc, hm⟩
    · rw [← ht, hg]
      congr 1
      rw [List.take_append_drop, Array.toArray_toList]
    · have h1 : cur.toList.length = cap * 2 := by rw [Array.length_toList]; exact hs
      rw [List.length_drop, h1, hx]
      omega
theorem row_shut {W : World} {base n cap g : Nat} {xs R : List Value} (hg : W.heap[g]? = some (.cells (xs ++ R).toArray 27 (0, 0))) (hx : xs.length = n * 2) (hs : xs.length + R.length = cap * 2) (hb : base ≤ g) (hc : n ≤ cap) (hm : cap ≤ maxLen) :
    W.ownsRow base 27 2 (.slice (some ⟨g, 0, none⟩) n cap) n xs := by
  refine ⟨hx, .inr ⟨g, cap, (xs ++ R).toArray, rfl, hb, hg, hc, hm, by simp; omega, ?_⟩⟩
  simp only []
  rw [← hx, List.take_left' rfl]
def InsPost (w0 : World) (base : Nat) (l : Rs.S) (k : Nat) (x : Rs.R) (e : Ending) (w' : World) : Prop :=
  ∃ v, e = .returned v ∧ w'.ownsRow base 27 2 v (l.length + 1) (rFlat (insL l k x)) ∧ Below base w0 w'
set_option maxRecDepth 100000 in
set_option maxHeartbeats 2000000 in
theorem insert_end (g n cap : Nat) (l : Rs.S) (x : Rs.R) (base : Nat) (w0 w : World) (hown : w.ownsRow base 27 2 (.slice (some ⟨g, 0, none⟩) n cap) n (rFlat l)) (hl : l.length = n) (hn : n ≤ 1000) (vb : Nat) (hv : Sl w (some ⟨vb, 0, none⟩) 1 [x]) (hb : Below base w0 w) (hbase : base ≤ w.heap.size) (_hnc : n ≤ cap) :
    Calls Tryz.prog 17 #[.slice (some ⟨g, 0, none⟩) n cap, .int .i64 (n : Int), .slice (some ⟨vb, 0, none⟩) 1 1] w (InsPost w0 base l n x) := by
  have HO := Lib.hid (And.intro hown (And.intro hv hb))
  have hE : Hid (rFlat (insL l n x) = rFlat l ++ rFlat [x]) := Lib.hid (by rw [ins_flat, ← hl, List.take_length, List.drop_length]; simp [rFlat])
  have HL := Lib.hid hl
  clear hown hv hb hl
  go_enter Tryz.func17, Tryz.ntmps17
  go_wp2_with (at_builtin; refine wpList_append_R rfl _ _ 24 27 rfl Tryz.underlying24 Tryz.info27 base _ n (rFlat l) rfl HO.out.1 (some ⟨vb, 0, none⟩) [x] 1 rfl HO.out.2.1 (by simp; omega) hbase ?_; rintro v2 w2 hown2 - hb2)
  all_goals
    go_ret
    exact ⟨v2, rfl, by rw [hE.out, HL.out]; exact hown2, hb2 _ HO.out.2.2⟩
theorem size_R (W : World) : (Go.sizeOf 27).run Tryz.prog W = .ok 2 W := by
  obtain ⟨i0, hi0, h0, h1, h2⟩ := info_parts Tryz.info27
  simp [sizeOf, typeInfo, hi0, h1]
theorem size_I : (Tryz.prog.info? 27).map (·.size) = some 2 := by
  obtain ⟨i0, hi0, h0, h1, h2⟩ := info_parts Tryz.info27
  rw [hi0]; simp [h1]
theorem over_run (w : World) (g vb o : Nat) (C : Array Value) (x1 x2 : Value) (hvg : vb ≠ g) (hg : w.heap[g]? = some (.cells C 27 (0, 0))) (hC : C.size ≠ 0) (hv : w.heap[vb]? = some (.cells #[x1, x2] 27 (0, 0))) (lb cb : Nat) :
    (callFunc 69 #[.slice (some ⟨vb, 0, none⟩) 1 1, .slice (some ⟨g, o, none⟩) lb cb]).run Tryz.prog w = .ok (.value (.bool false)) w := by
  rw [run_callFunc_extern Tryz.func69 (by kernel_rfl) (by kernel_rfl) (by kernel_rfl) (e := Extern.SlicesOverlaps.overlaps #[24, 24] #[4]) (by kernel_rfl),
    Lib.run_overlaps_apart w 24 4 27 Tryz.underlying24 2 size_R ⟨vb, 0, none⟩ ⟨g, o, none⟩ 1 1 lb cb hvg 27 27 2 C.size (by simp [World.shape?, hv]) (by simp [World.shape?, hg]) hC (by simp [World.frozen?, hv]) (by simp [World.frozen?, hv])]
  rfl
theorem row_cell {W : World} {g : Nat} {L : List Value} {T : TypeId} (h : W.heap[g]? = some (.cells L.toArray T (0, 0))) {o j : Nat} {u : Value} (hu : L[o + j]? = some u) : W.cell? ((⟨g, o, none⟩ : Addr).add j) = some u := by
  rw [Addr.add_lit, cell_of_row W g (o + j) _ _ _ h, List.getElem?_toArray]
  exact hu
theorem flat_cell {l : Rs.S} : ∀ v ∈ rFlat l, v.oneCell' = true := by
  intro v hv
  unfold rFlat at hv
  obtain ⟨r, _, hr⟩ := List.mem_flatMap.1 hv
  unfold rCells at hr
  simp at hr
  rcases hr with rfl | rfl <;> rfl
theorem rFlat_take_drop (l : Rs.S) (k : Nat) : rFlat l = rFlat (l.take k) ++ rFlat (l.drop k) := by rw [← rFlat_append, List.take_append_drop]
set_option maxRecDepth 100000 in
set_option maxHeartbeats 2000000 in
theorem insert_room (g n cap k : Nat) (l : Rs.S) (x : Rs.R) (base : Nat) (w0 w : World) (hown : w.ownsRow base 27 2 (.slice (some ⟨g, 0, none⟩) n cap) n (rFlat l)) (hl : l.length = n) (hn : n ≤ 1000) (hk : k < n) (vb : Nat) (hvg : vb ≠ g) (hv : w.heap[vb]? = some (.cells #[.int .i64 x.1, .int .i64 x.2] 27 (0, 0))) (hb : Below base w0 w) (hcap : n + 1 ≤ cap) :
    Calls Tryz.prog 17 #[.slice (some ⟨g, 0, none⟩) n cap, .int .i64 (k : Int), .slice (some ⟨vb, 0, none⟩) 1 1] w (InsPost w0 base l k x) := by
  obtain ⟨R, hg, hx, hs, hbg, hnc, hm⟩ := row_open hown
  have hz2 : ((k : Int) == (n : Int)) = false := beq_eq_false_iff_ne.2 (by omega)
  have hw1 : IntKind.i64.wrap ((n : Int) + 1) = (n : Int) + 1 := by rw [IntKind.wrap_i64]; omega
  have hw2 : IntKind.i64.wrap ((k : Int) + 1) = (k : Int) + 1 := by rw [IntKind.wrap_i64]; omega
  have hm63 : (cap : Int) ≤ 9223372036854775807 := by unfold maxLen at hm; omega
  have hb1 : (0 : Int) ≤ (k : Int) + 1 := by omega
  have htn : ((k : Int) + 1).toNat = k + 1 := by omega
  have hb2 : ¬ (cap = k + 1) := by omega
  have hb3 : (k : Int) ≤ (n : Int) + 1 := by omega
  have hb4 : ¬ (cap = k) := by omega
  have hin : k ≤ n := by omega
  have hE := ins_flat l k x
  have h1P : ∀ v ∈ rFlat (l.take k), v.oneCell' = true := flat_cell
  have h1S : ∀ v ∈ rFlat (l.drop k), v.oneCell' = true := flat_cell
  have h1X : ∀ v ∈ rFlat [x], v.oneCell' = true := flat_cell
  have hPl : (rFlat (l.take k)).length = k * 2 := by rw [rFlat_length, List.length_take]; omega
  have hSl : (rFlat (l.drop k)).length = (n - k) * 2 := by rw [rFlat_length, List.length_drop]; omega
  rw [rFlat_take_drop l k] at hg hx hs
  rw [List.append_assoc] at hg
  have hv' : w.heap[vb]? = some (.cells (rFlat [x]).toArray 27 (0, 0)) := hv
  have hXl : (rFlat [x]).length = 2 := rfl
  generalize rFlat (l.take k) = P at *
  generalize rFlat (l.drop k) = S at *
  generalize rFlat [x] = X at *
  rw [List.length_append] at hx hs
  have hR : 2 ≤ R.length := by omega
  have hC : (P ++ (S ++ R)).toArray.size ≠ 0 := by rw [List.size_toArray, List.length_append, List.length_append]; omega
  have hov := fun lb cb => over_run w g vb ((k + 1) * 2) _ (.int .i64 x.1) (.int .i64 x.2) hvg hg hC hv lb cb
  have hcs1 : ∀ j u, S[j]? = some u → w.cell? ((⟨g, k * 2, none⟩ : Addr).add j) = some u := fun j u hu => row_cell hg (by rw [List.getElem?_append_right (by omega), show k * 2 + j - P.length = j by omega, List.getElem?_append_left (List.getElem?_eq_some_iff.1 hu).1]; exact hu)
  have HG := Lib.hid hg
  have HS1 := Lib.hid hcs1
  have HX := Lib.hid (And.intro hXl hv')
  have HL := Lib.hid (And.intro hPl (And.intro hSl (And.intro hs hR)))
  have H1 := Lib.hid (And.intro h1P (And.intro h1S h1X))
  have HE := Lib.hid (And.intro hE hl)
  have HB := Lib.hid (And.intro hb (And.intro hbg hm))
  clear hown hg hx hs hbg hm hb hv hC hcs1 hv' hXl hPl hSl hR h1P h1S h1X hE hl
  go_enter Tryz.func17, Tryz.ntmps17
  go_wp2_with (simp only [hov])
  go_region_law (refine step_copy2 rfl _ _ 24 24 rfl 27 Tryz.underlying24 size_I (n - k) (cap - (k + 1)) (n + 1 - k) (cap - k) ⟨g, k * 2, none⟩ g ((k + 1) * 2) (by simp [Act.eval, Act.put]) (by simp [Act.eval, Act.put]) _ 27 HG.out S (n - k) (by simp only [Nat.min_def]; split <;> omega) HL.out.2.1 HS1.out (by have := HL.out; rw [List.length_append, List.length_append]; omega) H1.out.2.1 base w0 (HB.out.1.drew) HB.out.2.1 ?_; intro w4 hg4 hk4 hb4)
  have hsl : (splice (P ++ (S ++ R)) ((k + 1) * 2) S).length = (P ++ (S ++ R)).length := length_splice _ _ _ (by have := HL.out; rw [List.length_append, List.length_append]; omega)
  have hcs2 : ∀ j u, X[j]? = some u → w4.cell? ((⟨vb, 0, none⟩ : Addr).add j) = some u := fun j u hu => row_cell (((hk4.out vb hvg).trans rfl).trans HX.out.2) (by rw [Nat.zero_add]; exact hu)
  have HC2 := Lib.hid (And.intro hsl hcs2)
  clear hsl hcs2
  go_wp2_with (refine wpList_copy2 rfl _ _ 24 24 rfl 27 Tryz.underlying24 size_I (n + 1 - k) (cap - k) 1 1 ⟨vb, 0, none⟩ g (k * 2) (by simp [Act.eval]) (by simp [Act.eval]) _ 27 hg4.out X 1 (by simp only [Nat.min_def]; split <;> omega) HX.out.1 HC2.out.2 (by have := HL.out; rw [HC2.out.1, HX.out.1, List.length_append, List.length_append]; omega) H1.out.2.2 base w0 hb4 HB.out.2.1 ?_; intro w5 hg5 hk5 hb5)
  go_ret
  have hsp := splice_in P S R X HX.out.1 HL.out.2.2.2
  rw [show P.length + 2 = (k + 1) * 2 by have := HL.out.1; omega, show P.length = k * 2 from HL.out.1] at hsp
  have hg6 := hg5.out
  rw [hsp, ← List.append_assoc X, ← List.append_assoc P] at hg6
  have hlen : (P ++ (X ++ S)).length = (n + 1) * 2 := by have := HL.out; rw [List.length_append, List.length_append, HX.out.1]; omega
  refine ⟨_, rfl, ?_, hb5⟩
  rw [HE.out.1, HE.out.2]
  exact row_shut hg6 hlen (by have := HL.out; rw [hlen, List.length_drop]; omega) HB.out.2.1 hcap HB.out.2.2
theorem zero_len (n : Nat) : (Builtin.zeroCells (Value.agg #[.int .i64 0, .int .i64 0]).cells n).toList.length = n * 2 := by
  simp [Builtin.zeroCells, Value.cells]
set_option maxRecDepth 100000 in
set_option maxHeartbeats 2000000 in
theorem insert_grow (g n cap k : Nat) (l : Rs.S) (x : Rs.R) (base : Nat) (w0 w : World) (hown : w.ownsRow base 27 2 (.slice (some ⟨g, 0, none⟩) n cap) n (rFlat l)) (hl : l.length = n) (hn : n ≤ 1000) (hk : k < n) (vb : Nat) (hv : w.heap[vb]? = some (.cells #[.int .i64 x.1, .int .i64 x.2] 27 (0, 0))) (hb : Below base w0 w) (hcap : cap < n + 1) :
    Calls Tryz.prog 17 #[.slice (some ⟨g, 0, none⟩) n cap, .int .i64 (k : Int), .slice (some ⟨vb, 0, none⟩) 1 1] w (InsPost w0 base l k x) := by
  obtain ⟨R, hg, hx, hs, hbg, hnc, hm⟩ := row_open hown
  have hgw : g < w.heap.size := (Array.getElem?_eq_some_iff.1 hg).1
  have hvw : vb < w.heap.size := (Array.getElem?_eq_some_iff.1 hv).1
  have hz2 : ((k : Int) == (n : Int)) = false := beq_eq_false_iff_ne.2 (by omega)
  have hw1 : IntKind.i64.wrap ((n : Int) + 1) = (n : Int) + 1 := by rw [IntKind.wrap_i64]; omega
  have hw2 : IntKind.i64.wrap ((k : Int) + 1) = (k : Int) + 1 := by rw [IntKind.wrap_i64]; omega
  have hw3 : IntKind.i64.wrap ((n : Int) + 1 - (k : Int)) = (n : Int) + 1 - (k : Int) := by rw [IntKind.wrap_i64]; omega
  have hb1 : (0 : Int) ≤ (k : Int) + 1 := by omega
  have htn : ((k : Int) + 1).toNat = k + 1 := by omega
  have hb3 : (k : Int) ≤ (n : Int) + 1 := by omega
  have hb4 : ¬ (cap = k) := by omega
  have hin : k ≤ n := by omega
  have hE := ins_flat l k x
  have h1P : ∀ v ∈ rFlat (l.take k), v.oneCell' = true := flat_cell
  have h1S : ∀ v ∈ rFlat (l.drop k), v.oneCell' = true := flat_cell
  have h1X : ∀ v ∈ rFlat [x], v.oneCell' = true := flat_cell
  have hPl : (rFlat (l.take k)).length = k * 2 := by rw [rFlat_length, List.length_take]; omega
  have hSl : (rFlat (l.drop k)).length = (n - k) * 2 := by rw [rFlat_length, List.length_drop]; omega
  rw [rFlat_take_drop l k] at hg hx hs
  rw [List.append_assoc] at hg
  have hv' : w.heap[vb]? = some (.cells (rFlat [x]).toArray 27 (0, 0)) := hv
  have hXl : (rFlat [x]).length = 2 := rfl
  generalize rFlat (l.take k) = P at *
  generalize rFlat (l.drop k) = S at *
  generalize rFlat [x] = X at *
  rw [List.length_append] at hx hs
  obtain ⟨i0, hi0, hz0, hzs, hzb⟩ := info_parts Tryz.info27
  have hold : (Builtin.firstCells i0.size k (.slice (some ⟨g, 0, none⟩) k cap)).run Tryz.prog w.drew = .ok P.toArray w.drew := by
    rw [hzs]
    exact run_firstCells_some w.drew 2 k ⟨g, 0, none⟩ k cap P hPl (fun j v hj => row_cell (W := w.drew) hg (by rw [Nat.zero_add, List.getElem?_append_left (List.getElem?_eq_some_iff.1 hj).1]; exact hj))
  obtain ⟨Gc, hGc⟩ : ∃ Gc, Gc = grownCap w (n + 1) cap 27 := ⟨_, rfl⟩
  obtain ⟨Z, hZ⟩ : ∃ Z, Z = (Builtin.zeroCells (Value.agg #[.int .i64 0, .int .i64 0]).cells (n + 1 - k)).toList ++ (Builtin.zeroCells (Value.agg #[.int .i64 0, .int .i64 0]).cells (Gc - (n + 1))).toList := ⟨_, rfl⟩
  have hGn : n + 1 ≤ Gc := by rw [hGc]; exact grownCap_ge w _ _ _
  have hGm : Gc ≤ maxLen := by rw [hGc]; exact grownCap_le_maxLen w (n + 1) cap _ (by unfold maxLen; omega)
  have hZl : Z.length = (n + 1 - k) * 2 + (Gc - (n + 1)) * 2 := by rw [hZ, List.length_append, zero_len, zero_len]
  have hkk : (n : Int) + 1 - (k : Int) = ((n + 1 - k : Nat) : Int) := by omega
  have hik : k + (n + 1 - k) = n + 1 := by omega
  have hrz : ∀ ty, (Builtin.append_ #[24, 3] ty #[.slice (some ⟨g, 0, none⟩) k cap, .int .i64 ((n + 1 - k : Nat) : Int)]).run Tryz.prog w = .ok (.slice (some ⟨w.heap.size, 0, none⟩) (n + 1) Gc) (w.drew.alloc (.cells (P ++ Z).toArray 27)) := fun ty => by
    have h := Lib.run_append_grow_zeros w 24 3 ty 27 i0 _ .i64 .i64 Tryz.underlying24 Tryz.underlying3 hi0 hz0 (some ⟨g, 0, none⟩) k cap P hold (n + 1 - k) (by omega) (by omega) (by omega) (by omega) (by rw [hzb]; omega) (by rw [hzb, hik]; exact growslice_fits hcap (by omega))
    rw [hik] at h
    have hrow : P.toArray ++ Builtin.zeroCells (Value.agg #[.int .i64 0, .int .i64 0]).cells (n + 1 - k) ++ Builtin.zeroCells (Value.agg #[.int .i64 0, .int .i64 0]).cells (Gc - (n + 1)) = (P ++ Z).toArray := by
      rw [hZ]
      apply Array.ext'
      simp
    rw [h, ← hGc, hrow]
  have hbase : base ≤ w.heap.size := by omega
  have hGi : ¬ (Gc = k) := by omega
  have hGk : ¬ (Gc = k + 1) := by omega
  have hG63 : (Gc : Int) ≤ 9223372036854775807 := by unfold maxLen at hGm; omega
  have hgN : g ≠ w.heap.size := by omega
  have hvN : vb ≠ w.heap.size := by omega
  have HN : Hid ((w.alloc (.cells (P ++ Z).toArray 27)).heap[w.heap.size]? = some (.cells (P ++ Z).toArray 27 (0, 0))) := Lib.hid (heap_alloc_new w _)
  have hvn : (w.alloc (.cells (P ++ Z).toArray 27)).heap[vb]? = some (.cells X.toArray 27 (0, 0)) := (heap_alloc_old w _ vb hvw).trans hv'
  have hgn : (w.alloc (.cells (P ++ Z).toArray 27)).heap[g]? = some (.cells (P ++ (S ++ R)).toArray 27 (0, 0)) := (heap_alloc_old w _ g hgw).trans hg
  have HV2 : Hid (∀ j u, X[j]? = some u → (w.alloc (.cells (P ++ Z).toArray 27)).cell? ((⟨vb, 0, none⟩ : Addr).add j) = some u) := Lib.hid fun j u hu => row_cell hvn (by rw [Nat.zero_add]; exact hu)
  have HGN := Lib.hid hgn
  have HX := Lib.hid (And.intro hXl hv')
  have HL := Lib.hid (And.intro hPl (And.intro hSl (And.intro hs (And.intro hZl hx))))
  have H1 := Lib.hid (And.intro h1P (And.intro h1S h1X))
  have HE := Lib.hid (And.intro hE hl)
  have HB := Lib.hid (And.intro ((hb.alloc hbase (.cells (P ++ Z).toArray 27)).drew) (And.intro hbase hGm))
  clear hown hg hx hs hbg hm hb hv hv' hXl hPl hSl h1P h1S h1X hE hl hold hZ hZl hgn hvn hGc hi0 hz0 hzs hzb
  go_enter Tryz.func17, Tryz.ntmps17
  go_wp2_with (first
    | (at_builtin; refine Lib.wpList_append_run _ rfl _ _ _ _ rfl (.slice (some ⟨g, 0, none⟩) k cap) (.int .i64 ((n + 1 - k : Nat) : Int)) (by simp [Act.eval]) (by simp [Act.eval]) _ _ (hrz _) ?_)
    | (refine wpList_copy2 rfl _ _ 24 24 rfl 27 Tryz.underlying24 size_I (n + 1 - k) (Gc - k) 1 1 ⟨vb, 0, none⟩ w.heap.size (k * 2) (by simp [Act.eval]) (by simp [Act.eval]) _ 27 HN.out X 1 (by simp only [Nat.min_def]; split <;> omega) HX.out.1 HV2.out (by have := HL.out; rw [HX.out.1, List.length_append]; omega) H1.out.2.2 base w0 HB.out.1 HB.out.2.1 ?_; intro w4 hg4 hk4 hb4))
  have hcs : ∀ j u, S[j]? = some u → w4.cell? ((⟨g, k * 2, none⟩ : Addr).add j) = some u := fun j u hu => row_cell (((hk4.out g hgN).trans rfl).trans HGN.out) (by have := HL.out.1; rw [List.getElem?_append_right (by omega), show k * 2 + j - P.length = j by omega, List.getElem?_append_left (List.getElem?_eq_some_iff.1 hu).1]; exact hu)
  have hsl : (splice (P ++ Z) (k * 2) X).length = (P ++ Z).length := length_splice _ _ _ (by have := HL.out; rw [HX.out.1, List.length_append]; omega)
  have HC2 := Lib.hid (And.intro hsl hcs)
  clear hsl hcs
  go_region_law (refine step_copy2 rfl _ _ 24 24 rfl 27 Tryz.underlying24 size_I (n - k) (Gc - (k + 1)) (n - k) (cap - k) ⟨g, k * 2, none⟩ w.heap.size ((k + 1) * 2) (by simp [Act.eval, Act.put]) (by simp [Act.eval, Act.put]) _ 27 hg4.out S (n - k) (by simp only [Nat.min_def]; split <;> omega) HL.out.2.1 HC2.out.2 (by have := HL.out; rw [HC2.out.1, List.length_append]; omega) H1.out.2.1 base w0 hb4.drew HB.out.2.1 ?_; intro w5 hg5 hk5 hb5)
  go_wp2
  go_ret
  have hsp := splice_new P S Z X HX.out.1 (by have := HL.out; omega)
  rw [show P.length + 2 = (k + 1) * 2 by have := HL.out.1; omega, show P.length = k * 2 from HL.out.1] at hsp
  have hg6 := hg5.out
  rw [hsp, ← List.append_assoc X, ← List.append_assoc P] at hg6
  have hlen : (P ++ (X ++ S)).length = (n + 1) * 2 := by have := HL.out; rw [List.length_append, List.length_append, HX.out.1]; omega
  refine ⟨_, rfl, ?_, hb5⟩
  rw [HE.out.1, HE.out.2]
  exact row_shut hg6 hlen (by have := HL.out; rw [hlen, List.length_drop]; omega) HB.out.2.1 hGn HB.out.2.2
theorem insert_calls (g n cap k : Nat) (l : Rs.S) (x : Rs.R) (base : Nat) (w0 w : World) (hown : w.ownsRow base 27 2 (.slice (some ⟨g, 0, none⟩) n cap) n (rFlat l)) (hl : l.length = n) (hn : n ≤ 1000) (hk : k ≤ n) (vb : Nat) (hvg : vb ≠ g) (hv : w.heap[vb]? = some (.cells #[.int .i64 x.1, .int .i64 x.2] 27 (0, 0))) (hb : Below base w0 w) :
    Calls Tryz.prog 17 #[.slice (some ⟨g, 0, none⟩) n cap, .int .i64 (k : Int), .slice (some ⟨vb, 0, none⟩) 1 1] w (InsPost w0 base l k x) := by
  obtain ⟨R, hg, hx, hs, hbg, hnc, hm⟩ := row_open hown
  have hgw : g < w.heap.size := (Array.getElem?_eq_some_iff.1 hg).1
  have hvw : vb < w.heap.size := (Array.getElem?_eq_some_iff.1 hv).1
  by_cases h : k = n
  · subst h
    refine insert_end g k cap l x base w0 w hown hl hn vb ⟨fun _ => ⟨vb, 0, rfl, hvw, fun i r hr => ?_⟩, (fun e => by cases e), (fun p e => by cases e; exact ⟨rfl, hvw⟩)⟩ hb (by omega) hnc
    have hi : i = 0 := by
      have := (List.getElem?_eq_some_iff.1 hr).1
      simp at this
      exact this
    subst hi
    have hr' : x = r := by simpa using hr
    subst hr'
    exact ⟨cell_of_row w vb 0 _ _ _ hv, cell_of_row w vb 1 _ _ _ hv⟩
  · rcases Nat.lt_or_ge cap (n + 1) with hc | hc
    · exact insert_grow g n cap k l x base w0 w hown hl hn (by omega) vb hv hb hc
    · exact insert_room g n cap k l x base w0 w hown hl hn (by omega) vb hvg hv hb hc
end Go.Proofs.YtiooimdncocfdaaGreatDoor
