/- The law's own helpers: theirs, Equal and Clone at a slice that came in; spoil. -/
import Derived.Test.YtkjilodmmcefbaaGreatDoorLw1
namespace Go.Proofs.YtkjilodmmcefbaaGreatDoor
open Go.RowKit Go.Shelf
theorem RdR.lift {w w1 : World} {a : Option Addr} {l : Rs.S} (h : RdR w a l) (hb : Below w.heap.size w w1) : RdR w1 a l := by
  intro hl
  obtain ⟨b, off, e, h1, h2⟩ := h hl
  refine ⟨b, off, e, Nat.lt_of_lt_of_le h1 hb.size, fun i r hr => ?_⟩
  rw [hb.cell (p := ⟨b, off + i * 2, none⟩) h1, hb.cell (p := ⟨b, off + i * 2 + 1, none⟩) h1]
  exact h2 i r hr

set_option maxRecDepth 100000 in
set_option maxHeartbeats 2000000 in
theorem eqR_calls (a b : Option Addr) (ca cb : Nat) (l m : Rs.S) (w : World) (ha : RdR w a l) (hb : RdR w b m) (hn : l.length < 4611686018427387904) :
    Calls Tryz.prog 18 #[.slice a l.length ca, .slice b m.length cb] w fun e w' => e = .returned (.bool (decide (l = m))) ∧ ∃ n, w' = w.drewN n := by
  have HA := Lib.hid ha
  have HB := Lib.hid hb
  clear ha hb
  by_cases hl : l.length = m.length
  · have hneq : ((l.length : Int) != (m.length : Int)) = false := by simp; omega
    have hl1 : l.length ≤ m.length := by omega
    have hl2 : m.length ≤ l.length := by omega
    clear hl
    go_enter Tryz.func18, Tryz.ntmps18
    go_wp2
    go_loopw [13] (fun i wr => ∃ k n : Nat, k ≤ l.length ∧ i = .int .i64 k ∧ Hid (l.take k = m.take k) ∧ Hid (wr = w.drewN n)) (fun i _ => l.length - (intOf i).toNat)
    case atStart => exact ⟨0, 0, Nat.zero_le _, rfl, Lib.hid (by simp), Lib.hid rfl⟩
    case round =>
      obtain ⟨k, n, hk, rfl, HT, HW⟩ := hrel
      by_cases hlt : k < l.length
      · obtain ⟨ba, oa, rfl, _, hca⟩ := HA.out (by intro e; subst e; simp at hlt)
        obtain ⟨bb, ob, rfl, _, hcb⟩ := HB.out (by intro e; rw [e] at hl1; simp at hl1; rw [hl1] at hlt; simp at hlt)
        obtain ⟨x, hx⟩ : ∃ x, l[k]? = some x := ⟨_, List.getElem?_eq_getElem hlt⟩
        obtain ⟨y, hy⟩ : ∃ y, m[k]? = some y := ⟨_, List.getElem?_eq_getElem (by omega)⟩
        obtain ⟨c0, c1⟩ := hca k _ hx
        obtain ⟨d0, d1⟩ := hcb k _ hy
        rw [← show wr.cell? _ = w.cell? _ by rw [HW.out]; rfl] at c0 c1 d0 d1
        have hne := fun W => run_neq_R x y W
        have HX := Lib.hid (show _ ∧ _ from ⟨hx, hy⟩)
        have hlt2 : k < m.length := by omega
        clear hx hy hca hcb
        by_cases hxy : x = y
        · rw [show (!decide (x = y)) = false by simp [hxy]] at hne
          have HE := Lib.hid hxy
          clear hxy
          go_wp2_with fail
          go_big_quiet (fail)
          go_wp2
          go_roundw
          case rel => exact ⟨k + 1, n + nq, by omega, by go_num, Lib.hid (by rw [Rs.take_succ HX.out.1, Rs.take_succ HX.out.2, HT.out, HE.out]), Lib.hid (by rw [HW.out, World.drewN_drewN])⟩
          case measure => simp [intOf]; omega
        · rw [show (!decide (x = y)) = true by simp [hxy]] at hne
          have HE : Hid (decide (l = m) = false) := Lib.hid (by simp; intro e; subst e; have := HX.out.1.symm.trans HX.out.2; cases this; exact hxy rfl)
          clear hxy
          go_wp2_with fail
          go_big_quiet (fail)
          go_wp2
          go_ret
          exact ⟨by rw [HE.out]; rfl, n + nq, by rw [HW.out, World.drewN_drewN]⟩
      · have hkl : k = l.length := by omega
        have HE : Hid (decide (l = m) = true) := Lib.hid (by have := HT.out; rw [List.take_of_length_le (by omega), List.take_of_length_le (by omega)] at this; simpa using this)
        have hge : ¬ (k : Int) < (l.length : Int) := by omega
        clear hkl
        go_wp2
        go_ret
        exact ⟨by rw [HE.out]; rfl, n, HW.out⟩
  · have hneq : ((l.length : Int) != (m.length : Int)) = true := by simp; omega
    have HE : Hid (decide (l = m) = false) := Lib.hid (by simp; intro e; exact hl (by rw [e]))
    clear hl
    go_enter Tryz.func18, Tryz.ntmps18
    go_wp2
    go_ret
    exact ⟨by rw [HE.out]; rfl, 0, rfl⟩

set_option maxRecDepth 100000 in
set_option maxHeartbeats 1000000 in
theorem theirsR_calls (a : Option Addr) (cap : Nat) (l : Rs.S) (w : World) (h : RdR w a l) (hn : l.length ≤ 1000000000) :
    Calls Tryz.prog 46 #[.slice a l.length cap] w fun e w' => ∃ v, e = .returned v ∧ w'.ownsRow w.heap.size 59 2 v l.length (rFlat l) ∧ Below w.heap.size w w' := by
  have HSL := Lib.hid h
  clear h
  obtain ⟨i0, hi0, hz0, hz1, hz2⟩ := info_parts Tryz.info59
  go_enter Tryz.func46, Tryz.ntmps46
  go_wp2
  go_loopw [3, 5, 8] (fun v _ i wr => ∃ k : Nat, k ≤ l.length ∧ i = .int .i64 k ∧ wr.ownsRow w.heap.size 59 2 v k (rFlat (l.take k)) ∧ Below w.heap.size w wr) (fun _ _ i _ => l.length - (intOf i).toNat)
  case atStart => exact ⟨0, Nat.zero_le _, rfl, World.ownsRow_nil _ _ _ _, Below.refl _ _⟩
  case round =>
    obtain ⟨k, hk, rfl, hrow, hb⟩ := hrel
    have hbs := hb.size
    by_cases hlt : k < l.length
    · obtain ⟨b, off, rfl, hbl, hc⟩ := HSL.out (by intro e; subst e; simp at hlt)
      obtain ⟨r, hr⟩ : ∃ r, l[k]? = some r := ⟨_, List.getElem?_eq_getElem hlt⟩
      obtain ⟨c0, c1⟩ := hc k _ hr
      rw [← hb.cell (by exact hbl)] at c0 c1
      have hbw : b < wr.heap.size := by omega
      have hst := Rs.take_succ hr
      obtain ⟨lo, hi⟩ := r
      dsimp only at c0 c1
      have HR := Lib.hid (show _ ∧ _ ∧ _ from ⟨hrow, hst, hb⟩)
      clear hr hc hrow hst hb
      go_wp2_with (at_builtin; refine wpList_append_own _ rfl _ _ 58 rfl w.heap.size 59 i0 (.agg #[.int .i64 0, .int .i64 0]) 2 16 Tryz.underlying58 hi0 hz0 hz1 hz2 rfl (by decide) _ _ _ rfl ((HR.out.1.alloc (.cells #[.int .i64 lo, .int .i64 hi] 34)).alloc (.cells #[.int .i64 lo, .int .i64 hi] 59)) ⟨wr.heap.size + 1, 0, none⟩ 1 1 [.int .i64 lo, .int .i64 hi] rfl rfl (cells_new (wr.alloc (.cells #[.int .i64 lo, .int .i64 hi] 34)) #[.int .i64 lo, .int .i64 hi] _ _ (by simp)) (by intro u hu; simp at hu; rcases hu with rfl | rfl <;> rfl) (by unfold maxLen; omega) (by omega) (by simp; omega) ?_; intro v' w1 hown' hgrow _;
                                        have HB2 := Lib.hid (show Below w.heap.size w w1 from app_endG (HR.out.1.alloc _) (HR.out.2.2.alloc hbs _) (by simp; omega) hgrow);
                                        clear hgrow)
      go_roundw
      case rel => exact ⟨k + 1, by omega, by go_num, by rw [HR.out.2.1, rFlat_append]; exact hown', HB2.out⟩
      case measure => simp [intOf]; omega
    · obtain rfl : k = l.length := by omega
      rw [List.take_length] at hrow
      go_wp2
      go_ret
      exact ⟨_, rfl, hrow, hb⟩
set_option maxRecDepth 100000 in
set_option maxHeartbeats 1000000 in
theorem cloneR_calls (a : Option Addr) (cap : Nat) (l : Rs.S) (w : World) (hrd : RdR w a l) (hnil : a = none → l = [] ∧ cap = 0) (hn : l.length ≤ 1000000000000) :
    Calls Tryz.prog 39 #[.slice a l.length cap] w fun e w' => ∃ v, e = .returned v ∧ w'.ownsRow w.heap.size 34 2 v l.length (rFlat l) ∧ Below w.heap.size w w' := by
  by_cases hl : l = []
  · subst hl
    cases a with
    | none =>
      obtain ⟨_, rfl⟩ := hnil rfl
      exact clone_calls none 0 [] w hrd (fun _ => ⟨rfl, rfl⟩) (fun ad e => by cases e) hn
    | some ad =>
      have hq := fun wx : World => Lib.run_eql_slice_nil (P := Tryz.prog) wx 25 34 (some ad) 0 cap 0 0 Tryz.underlying25
      obtain ⟨i0, hi, hz0, hz1, hz2⟩ := info_parts Tryz.info34
      clear hrd hnil
      show Calls Tryz.prog 39 #[.slice (some ad) 0 cap] w _
      go_enter Tryz.func39, Tryz.ntmps39
      have hown0 : (w.alloc (.cells #[] 34)).ownsRow w.heap.size 34 2 (.slice (some ⟨w.heap.size, 0, none⟩) 0 0) 0 [] :=
        ⟨rfl, .inr ⟨w.heap.size, 0, #[], rfl, Nat.le_refl _, World.alloc_heap_new w _, Nat.le_refl _, Nat.zero_le _, rfl, rfl⟩⟩
      go_wp2_with (at_builtin; refine wpList_append_own _ rfl _ _ 25 rfl w.heap.size 34 i0 (.agg #[.int .i64 0, .int .i64 0]) 2 16 Tryz.underlying25 hi hz0 hz1 hz2 rfl (by decide) _ _ _ rfl hown0 ad 0 cap [] rfl rfl (fun j u hu => by simp at hu) (fun u hu => by simp at hu) (by unfold maxLen; omega) (by omega) (by simp) ?_; intro v' w1 hown' hgrow _)
      go_ret
      exact ⟨_, rfl, hown', (((Below.refl _ _).alloc (Nat.le_refl _) _).grown hgrow (by simp) (fun k e => by cases e; exact Nat.le_refl _))⟩
  · obtain ⟨b, off, rfl, _⟩ := hrd hl
    exact clone_calls _ cap l w hrd hnil (fun ad e => by cases e; rfl) hn

/-- All but the blocks of S is as it was. -/
structure KeptB (S : List Nat) (a w : World) : Prop where
  os : w.os = a.os
  tape : w.tape = a.tape
  output : w.output = a.output
  size : a.heap.size ≤ w.heap.size
  block : ∀ i, i < a.heap.size → i ∉ S → w.heap[i]? = a.heap[i]?
theorem setCell_size (W : World) (p : Addr) (u : Value) : (W.setCell p u).heap.size = W.heap.size := by simp [World.setCell]
theorem KeptB.refl (S : List Nat) (w : World) : KeptB S w w := ⟨rfl, rfl, rfl, Nat.le_refl _, fun _ _ _ => rfl⟩
theorem KeptB.set {S : List Nat} {a w : World} (h : KeptB S a w) (p : Addr) (hp : p.block ∈ S) (u : Value) : KeptB S a (w.setCell p u) :=
  ⟨h.os, h.tape, h.output, Nat.le_trans h.size (by show w.heap.size ≤ (w.heap.modify _ _).size; simp), fun i hi hn => by
    rw [Below.heap_setCell _ _ _ _ (fun e => hn (by rw [e]; exact hp))]
    exact h.block i hi hn⟩
theorem KeptB.toB {S : List Nat} {a w : World} {B : Nat} (h : KeptB S a w) (hS : ∀ i ∈ S, B ≤ i) (ha : B ≤ a.heap.size) : Below B a w :=
  ⟨h.os, h.tape, h.output, h.size, fun i hi => h.block i (by omega) (fun hm => by have := hS i hm; omega)⟩
theorem KeptB.sl {S : List Nat} {a w : World} {ad : Option Addr} {cap : Nat} {l : Rs.S} (h : KeptB S a w) (hs : Sl a ad cap l) (hn : ∀ p, ad = some p → p.block ∉ S) : Sl w ad cap l := by
  refine ⟨fun hl => ?_, hs.nil, fun p e => ⟨(hs.sp p e).1, Nat.lt_of_lt_of_le (hs.sp p e).2 h.size⟩⟩
  obtain ⟨b, off, e, h1, h2⟩ := hs.rd hl
  refine ⟨b, off, e, Nat.lt_of_lt_of_le h1 h.size, fun i r hr => ?_⟩
  have hb := h.block b h1 (hn _ e)
  have := h2 i r hr
  unfold World.cell? at this ⊢
  simp only at this ⊢
  rw [hb]
  exact this
/-- A block that holds room for n ranges, and may be written. -/
def Blk (w : World) (g n : Nat) : Prop := ∃ cur, w.heap[g]? = some (.cells cur 34 (0, 0)) ∧ n * 2 ≤ cur.size
theorem Blk.set {w : World} {g n : Nat} (h : Blk w g n) (g' j : Nat) (u : Value) : Blk (w.setCell ⟨g', j, none⟩ u) g n := by
  obtain ⟨cur, h1, h2⟩ := h
  by_cases hp : g = g'
  · subst hp
    exact ⟨cur.setIfInBounds j u, heap_setCell_same w g j _ _ u h1, by simpa using h2⟩
  · exact ⟨cur, by rw [Below.heap_setCell _ _ _ _ hp]; exact h1, h2⟩
theorem Blk.at {w : World} {g n j : Nat} (h : Blk w g n) (hj : j < n * 2) : ∃ u, w.cell? ⟨g, j, none⟩ = some u ∧ w.frozen? ⟨g, j, none⟩ = false := by
  obtain ⟨cur, h1, h2⟩ := h
  refine ⟨cur[j]'(by omega), ?_, by simp [World.frozen?, h1]⟩
  simp only [World.cell?, h1]
  rw [Array.getElem?_eq_getElem (by omega)]
  rfl
theorem Blk.of_own {w : World} {base g n cap : Nat} {xs : List Value} (h : w.ownsRow base 34 2 (.slice (some ⟨g, 0, none⟩) n cap) n xs) : Blk w g n := by
  obtain ⟨_, _, cur, hh, h1, _, h3, _⟩ := ownsRow_block h
  exact ⟨cur, hh, by rw [h3]; exact Nat.mul_le_mul_right _ h1⟩
def SpI (S : List Nat) (Ls : List (Option Addr × Nat × Rs.S)) (w : World) (m : Nat) (i : Value) (wr : World) : Prop :=
  ∃ k : Nat, k ≤ m ∧ i = .int .i64 k ∧ KeptB S w wr ∧ wr.heap.size = w.heap.size ∧ ∀ x ∈ Ls, x.2.2 ≠ [] → ∃ g, x.1 = some ⟨g, 0, none⟩ ∧ g ∈ S ∧ Blk wr g x.2.2.length
set_option maxRecDepth 100000 in
set_option maxHeartbeats 2000000 in
theorem spoil_calls (B c : Nat) (S : List Nat) (Ls : List (Option Addr × Nat × Rs.S)) (w : World) (hB : B < w.heap.size) (hBS : B ∉ S) (hn : Ls.length ≤ 1000) (hcell : ∀ (i : Nat) x, Ls[i]? = some x → w.cell? ⟨B, i, none⟩ = some (.slice x.1 x.2.2.length x.2.1)) (hln : ∀ x ∈ Ls, x.2.2.length ≤ 1000000000)
    (hbl : ∀ x ∈ Ls, x.2.2 ≠ [] → ∃ g, x.1 = some ⟨g, 0, none⟩ ∧ g ∈ S ∧ Blk w g x.2.2.length) :
    Calls Tryz.prog 47 #[.slice (some ⟨B, 0, none⟩) Ls.length c] w fun e w' => e = .returned (.tuple #[]) ∧ KeptB S w w' := by
  have HC := Lib.hid (show _ ∧ _ from ⟨hcell, hln⟩)
  have HBL := Lib.hid hbl
  clear hcell hbl hln
  go_enter Tryz.func47, Tryz.ntmps47
  go_wp2
  go_loopw [3, 4, 7] (fun _ _ i wr => SpI S Ls w Ls.length i wr) (fun _ _ i _ => Ls.length - (intOf i).toNat)
  case atStart => exact ⟨0, Nat.zero_le _, rfl, KeptB.refl _ _, rfl, HBL.out⟩
  case round =>
    obtain ⟨k, hk, rfl, hkp, hsz, hbl⟩ := hrel
    by_cases hlt : k < Ls.length
    · obtain ⟨x, hx⟩ : ∃ x, Ls[k]? = some x := ⟨_, List.getElem?_eq_getElem hlt⟩
      have c0 := HC.out.1 k x hx
      have hxm := List.mem_of_getElem? hx
      have hxl := HC.out.2 x hxm
      have hbk := hkp.block B hB hBS
      have c0' : wr.cell? ⟨B, k, none⟩ = some (.slice x.1 x.2.2.length x.2.1) := by
        unfold World.cell? at c0 ⊢
        simp only at c0 ⊢
        rw [hbk]; exact c0
      have hBw : B < wr.heap.size := by omega
      obtain ⟨ad, cp, l⟩ := x
      dsimp only at c0' hxl
      have HI0 : Hid (SpI S Ls w l.length (.int .i64 0) wr) := Lib.hid ⟨0, Nat.zero_le _, rfl, hkp, hsz, hbl⟩
      have HXM := Lib.hid hxm
      clear c0 hbk hx hkp hbl hxm hsz
      go_wp2
      go_loopw [4, 13] (fun _ i wr => SpI S Ls w l.length i wr) (fun _ i _ => l.length - (intOf i).toNat)
      case atStart => exact HI0.out
      case round =>
        clear HI0 c0' hBw
        obtain ⟨j, hj, rfl, hkp, hsz, hbl⟩ := hrel
        by_cases hjl : j < l.length
        · obtain ⟨g, rfl, hgS, hblk⟩ := hbl _ HXM.out (by intro e; simp only at e; subst e; simp at hjl)
          dsimp only at hblk
          obtain ⟨u0, d0, f0⟩ := hblk.at (j := j * 2) (by omega)
          obtain ⟨u1, d1, f1⟩ := hblk.at (j := j * 2 + 1) (by omega)
          have hgw : g < wr.heap.size := by
            obtain ⟨cur, h1, _⟩ := hblk
            exact (Array.getElem?_eq_some_iff.1 h1).1
          have HK := Lib.hid (show _ ∧ _ ∧ _ ∧ _ from ⟨hkp, hsz, hbl, hgS⟩)
          clear hkp hsz hbl hgS hblk
          go_wp2
          go_roundw
          case rel =>
            have HI : SpI S Ls w l.length (.int .i64 ((j : Int) + 1)) ((wr.setCell ⟨g, j * 2, none⟩ (.int .i64 (-9))).setCell ⟨g, j * 2 + 1, none⟩ (.int .i64 (-9))) := ⟨j + 1, by omega, by go_num, (HK.out.1.set ⟨g, j * 2, none⟩ HK.out.2.2.2 _).set ⟨g, j * 2 + 1, none⟩ HK.out.2.2.2 _, by rw [setCell_size, setCell_size]; exact HK.out.2.1, fun x hx hne => by
                obtain ⟨g', e, hS, hb⟩ := HK.out.2.2.1 x hx hne
                exact ⟨g', e, hS, (hb.set _ _ _).set _ _ _⟩⟩
            exact HI
          case measure => simp [intOf]; omega
        · have HI : Hid (SpI S Ls w Ls.length (.int .i64 ((k : Int) + 1)) wr) := Lib.hid ⟨k + 1, by omega, by go_num, hkp, hsz, hbl⟩
          clear hkp hsz hbl
          go_wp2
          go_roundw
          case rel => exact HI.out
          case measure => simp [intOf]; omega
    · have HK := Lib.hid hkp
      clear hkp hbl hsz
      go_wp2
      go_end0
      exact ⟨rfl, HK.out⟩
end Go.Proofs.YtkjilodmmcefbaaGreatDoor
