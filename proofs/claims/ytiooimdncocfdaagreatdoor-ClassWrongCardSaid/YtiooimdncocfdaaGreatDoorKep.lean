/- Equal and Clone at a slice that came in; what is as it was but for some blocks. -/
import Derived.Test.YtiooimdncocfdaaGreatDoorSlC
namespace Go.Proofs.YtiooimdncocfdaaGreatDoor
open Go.RowKit Go.Shelf
theorem RdR.lift {w w1 : World} {a : Option Addr} {l : Rs.S} (h : RdR w a l) (hb : Below w.heap.size w w1) : RdR w1 a l := by
  intro hl
  obtain ⟨b, off, e, h1, h2⟩ := h hl
  refine ⟨b, off, e, Nat.lt_of_lt_of_le h1 hb.size, fun i r hr => ?_⟩
  rw [hb.cell (p := ⟨b, off + i * 2, none⟩) h1, hb.cell (p := ⟨b, off + i * 2 + 1, none⟩) h1]
  exact h2 i r hr

set_option maxRecDepth 100000 in
set_option maxHeartbeats 2000000 in
theorem eqR_calls (a b : Option Addr) (ca cb : Nat) (l m : Rs.S) (w : World) (ha : RdR w a l) (hb : RdR w b m) (hn : l.length < 4611686018427387904) :
    Calls Tryz.prog 67 #[.slice a l.length ca, .slice b m.length cb] w fun e w' => e = .returned (.bool (decide (l = m))) ∧ ∃ n, w' = w.drewN n := by
  have HA := Lib.hid ha
  have HB := Lib.hid hb
  clear ha hb
  by_cases hl : l.length = m.length
  · have hneq : ((l.length : Int) != (m.length : Int)) = false := by simp; omega
    have hl1 : l.length ≤ m.length := by omega
    have hl2 : m.length ≤ l.length := by omega
    clear hl
    go_enter Tryz.func67, Tryz.ntmps67
    go_wp2
    go_loopw [13] (fun i wr => ∃ k n : Nat, k ≤ l.length ∧ i = .int .i64 k ∧ Hid (l.take k = m.take k) ∧ Hid (wr = w.drewN n)) (fun i _ => l.length - (intOf i).toNat)
    case atStart => exact ⟨0, 0, Nat.zero_le _, rfl, Lib.hid (by simp), Lib.hid rfl⟩
    case round =>
      obtain ⟨k, n, hk, rfl, HT, HW⟩ := hrel
      by_cases hlt : k < l.length
      · obtain ⟨ba, oa, rfl, _, hca⟩ := HA.out (by intro e; subst e; simp at hlt)
        obtain ⟨bb, ob, rfl, _, hcb⟩ := HB.out (by intro e; rw [e] at hl1; simp at hl1; rw [hl1] at hlt; simp at hlt)
        obtain ⟨x, hx⟩ : ∃ x, l[k]? = some x := ⟨_, List.getElem?_eq_getElem hlt⟩
        obtain ⟨y, hy⟩ : ∃ y, m[k]? = some y := ⟨_, List.getElem?_eq_getElem (by omega)⟩
        obtain ⟨c0, c1⟩ := hca k _ hx
        obtain ⟨d0, d1⟩ := hcb k _ hy
        rw [← show wr.cell? _ = w.cell? _ by rw [HW.out]; rfl] at c0 c1 d0 d1
        have hne := fun W => run_neq_R x y W
        have HX := Lib.hid (show _ ∧ _ from ⟨hx, hy⟩)
        have hlt2 : k < m.length := by omega
        clear hx hy hca hcb
        by_cases hxy : x = y
        · rw [show (!decide (x = y)) = false by simp [hxy]] at hne
          have HE := Lib.hid hxy
          clear hxy
          go_wp2_with fail
          go_big_quiet (fail)
          go_wp2
          go_roundw
          case rel => exact ⟨k + 1, n + nq, by omega, by go_num, Lib.hid (by rw [Rs.take_succ HX.out.1, Rs.take_succ HX.out.2, HT.out, HE.out]), Lib.hid (by rw [HW.out, World.drewN_drewN])⟩
          case measure => simp [intOf]; omega
        · rw [show (!decide (x = y)) = true by simp [hxy]] at hne
          have HE : Hid (decide (l = m) = false) := Lib.hid (by simp; intro e; subst e; have := HX.out.1.symm.trans HX.out.2; cases this; exact hxy rfl)
          clear hxy
          go_wp2_with fail
          go_big_quiet (fail)
          go_wp2
          go_ret
          exact ⟨by rw [HE.out]; rfl, n + nq, by rw [HW.out, World.drewN_drewN]⟩
      · have hkl : k = l.length := by omega
        have HE : Hid (decide (l = m) = true) := Lib.hid (by have := HT.out; rw [List.take_of_length_le (by omega), List.take_of_length_le (by omega)] at this; simpa using this)
        have hge : ¬ (k : Int) < (l.length : Int) := by omega
        clear hkl
        go_wp2
        go_ret
        exact ⟨by rw [HE.out]; rfl, n, HW.out⟩
  · have hneq : ((l.length : Int) != (m.length : Int)) = true := by simp; omega
    have HE : Hid (decide (l = m) = false) := Lib.hid (by simp; intro e; exact hl (by rw [e]))
    clear hl
    go_enter Tryz.func67, Tryz.ntmps67
    go_wp2
    go_ret
    exact ⟨by rw [HE.out]; rfl, 0, rfl⟩

set_option maxRecDepth 100000 in
set_option maxHeartbeats 1000000 in
theorem cloneR_calls (a : Option Addr) (cap : Nat) (l : Rs.S) (w : World) (hrd : RdR w a l) (hnil : a = none → l = [] ∧ cap = 0) (hn : l.length ≤ 1000000000000) :
    Calls Tryz.prog 16 #[.slice a l.length cap] w fun e w' => ∃ v, e = .returned v ∧ w'.ownsRow w.heap.size 27 2 v l.length (rFlat l) ∧ Below w.heap.size w w' := by
  by_cases hl : l = []
  · subst hl
    cases a with
    | none =>
      obtain ⟨_, rfl⟩ := hnil rfl
      exact clone_calls none 0 [] w hrd (fun _ => ⟨rfl, rfl⟩) (fun ad e => by cases e) hn
    | some ad =>
      have hq := fun wx : World => Lib.run_eql_slice_nil (P := Tryz.prog) wx 24 27 (some ad) 0 cap 0 0 Tryz.underlying24
      obtain ⟨i0, hi, hz0, hz1, hz2⟩ := info_parts Tryz.info27
      clear hrd hnil
      show Calls Tryz.prog 16 #[.slice (some ad) 0 cap] w _
      go_enter Tryz.func16, Tryz.ntmps16
      have hown0 : (w.alloc (.cells #[] 27)).ownsRow w.heap.size 27 2 (.slice (some ⟨w.heap.size, 0, none⟩) 0 0) 0 [] :=
        ⟨rfl, .inr ⟨w.heap.size, 0, #[], rfl, Nat.le_refl _, World.alloc_heap_new w _, Nat.le_refl _, Nat.zero_le _, rfl, rfl⟩⟩
      go_wp2_with (at_builtin; refine wpList_append_own _ rfl _ _ 24 rfl w.heap.size 27 i0 (.agg #[.int .i64 0, .int .i64 0]) 2 16 Tryz.underlying24 hi hz0 hz1 hz2 rfl (by decide) _ _ _ rfl hown0 ad 0 cap [] rfl rfl (fun j u hu => by simp at hu) (fun u hu => by simp at hu) (by unfold maxLen; omega) (by omega) (by simp) ?_; intro v' w1 hown' hgrow _)
      go_ret
      exact ⟨_, rfl, hown', (((Below.refl _ _).alloc (Nat.le_refl _) _).grown hgrow (by simp) (fun k e => by cases e; exact Nat.le_refl _))⟩
  · obtain ⟨b, off, rfl, _⟩ := hrd hl
    exact clone_calls _ cap l w hrd hnil (fun ad e => by cases e; rfl) hn

/-- All but the blocks of S is as it was. -/
structure KeptB (S : List Nat) (a w : World) : Prop where
  os : w.os = a.os
  tape : w.tape = a.tape
  output : w.output = a.output
  size : a.heap.size ≤ w.heap.size
  block : ∀ i, i < a.heap.size → i ∉ S → w.heap[i]? = a.heap[i]?
theorem setCell_size (W : World) (p : Addr) (u : Value) : (W.setCell p u).heap.size = W.heap.size := by simp [World.setCell]
theorem KeptB.refl (S : List Nat) (w : World) : KeptB S w w := ⟨rfl, rfl, rfl, Nat.le_refl _, fun _ _ _ => rfl⟩
theorem KeptB.set {S : List Nat} {a w : World} (h : KeptB S a w) (p : Addr) (hp : p.block ∈ S) (u : Value) : KeptB S a (w.setCell p u) :=
  ⟨h.os, h.tape, h.output, Nat.le_trans h.size (by show w.heap.size ≤ (w.heap.modify _ _).size; simp), fun i hi hn => by
    rw [Below.heap_setCell _ _ _ _ (fun e => hn (by rw [e]; exact hp))]
    exact h.block i hi hn⟩
theorem KeptB.toB {S : List Nat} {a w : World} {B : Nat} (h : KeptB S a w) (hS : ∀ i ∈ S, B ≤ i) (ha : B ≤ a.heap.size) : Below B a w :=
  ⟨h.os, h.tape, h.output, h.size, fun i hi => h.block i (by omega) (fun hm => by have := hS i hm; omega)⟩
theorem KeptB.sl {S : List Nat} {a w : World} {ad : Option Addr} {cap : Nat} {l : Rs.S} (h : KeptB S a w) (hs : Sl a ad cap l) (hn : ∀ p, ad = some p → p.block ∉ S) : Sl w ad cap l := by
  refine ⟨fun hl => ?_, hs.nil, fun p e => ⟨(hs.sp p e).1, Nat.lt_of_lt_of_le (hs.sp p e).2 h.size⟩⟩
  obtain ⟨b, off, e, h1, h2⟩ := hs.rd hl
  refine ⟨b, off, e, Nat.lt_of_lt_of_le h1 h.size, fun i r hr => ?_⟩
  have hb := h.block b h1 (hn _ e)
  have := h2 i r hr
  unfold World.cell? at this ⊢
  simp only at this ⊢
  rw [hb]
  exact this
/-- A block that holds room for n ranges, and may be written. -/
def Blk (w : World) (g n : Nat) : Prop := ∃ cur, w.heap[g]? = some (.cells cur 27 (0, 0)) ∧ n * 2 ≤ cur.size
theorem Blk.set {w : World} {g n : Nat} (h : Blk w g n) (g' j : Nat) (u : Value) : Blk (w.setCell ⟨g', j, none⟩ u) g n := by
  obtain ⟨cur, h1, h2⟩ := h
  by_cases hp : g = g'
  · subst hp
    exact ⟨cur.setIfInBounds j u, heap_setCell_same w g j _ _ u h1, by simpa using h2⟩
  · exact ⟨cur, by rw [Below.heap_setCell _ _ _ _ hp]; exact h1, h2⟩
theorem Blk.at {w : World} {g n j : Nat} (h : Blk w g n) (hj : j < n * 2) : ∃ u, w.cell? ⟨g, j, none⟩ = some u ∧ w.frozen? ⟨g, j, none⟩ = false := by
  obtain ⟨cur, h1, h2⟩ := h
  refine ⟨cur[j]'(by omega), ?_, by simp [World.frozen?, h1]⟩
  simp only [World.cell?, h1]
  rw [Array.getElem?_eq_getElem (by omega)]
  rfl
theorem Blk.of_own {w : World} {base g n cap : Nat} {xs : List Value} (h : w.ownsRow base 27 2 (.slice (some ⟨g, 0, none⟩) n cap) n xs) : Blk w g n := by
  obtain ⟨_, _, cur, hh, h1, _, h3, _⟩ := ownsRow_block h
  exact ⟨cur, hh, by rw [h3]; exact Nat.mul_le_mul_right _ h1⟩
end Go.Proofs.YtiooimdncocfdaaGreatDoor
