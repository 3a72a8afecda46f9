/- Texts of the claim, put together: Text. -/
import Derived.Test.YtimahlimmblgkaaGreatDoorPUpA
import Derived.Test.YtimahlimmblgkaaGreatDoorPBaC
import Derived.Test.YtimahlimmblgkaaGreatDoorPBlA
import Derived.Test.YtimahlimmblgkaaGreatDoorPSlC
namespace Go.Proofs.YtimahlimmblgkaaGreatDoor
open Go.RowKit Go.Shelf
namespace Rs
theorem markS_len (c : Int) (h0 : 0 ≤ c) (h1 : c ≤ 1114111) : (markS c).length ≤ 20 := by
  unfold markS
  split
  · simp
  · have := hx_len 15 c.toNat (Nat.lt_of_lt_of_le (show c.toNat < 1114112 by omega) (by decide))
    have e := hexT_eq 15 c.toNat (Nat.lt_of_lt_of_le (show c.toNat < 1114112 by omega) (by decide))
    have : (hexT 16 c.toNat).length ≤ 16 := by rw [← e]; simpa [Lib.toUpperA] using this
    simp; omega
theorem rangeT_len (r : R) (h : rg r) : (rangeT r).length ≤ 41 := by
  obtain ⟨a, b, c⟩ := h
  have h1 := markS_len r.1 (by omega) (by omega)
  have h2 := markS_len r.2 (by omega) (by omega)
  unfold rangeT
  split <;> simp <;> omega
theorem flat_len : ∀ (l : S), (∀ r ∈ l, rg r) → (l.flatMap rangeT).length ≤ 41 * l.length
  | [], _ => by simp
  | r :: l, h => by
    have h1 := rangeT_len r (h r (by simp))
    have h2 := flat_len l (fun q hq => h q (by simp [hq]))
    simp only [List.flatMap_cons, List.length_append, List.length_cons]
    omega
theorem flat_step {l : S} {k : Nat} {r : R} (hr : l[k]? = some r) : (l.take (k + 1)).flatMap rangeT = (l.take k).flatMap rangeT ++ rangeT r := by rw [take_succ hr]; simp
def textE (l : S) : List UInt8 := if right l then textS l else []
end Rs
set_option maxRecDepth 100000 in
set_option maxHeartbeats 4000000 in
theorem text_calls (a : Option Addr) (cap : Nat) (l : Rs.S) (w : World) (h : Sl w a cap l) (hn : l.length < 4611686018427387904) (hL : Lv w) :
    Calls Tryz.prog 103 #[.slice a l.length cap] w fun e w' => e = .returned (.tuple #[.string ⟨(Rs.textE l).toArray⟩, .int .i64 (Rs.err (Rs.right l))]) ∧ Below w.heap.size w w' := by
  have hr := right_calls a cap l w h.rd hn
  cases hp : Rs.right l
  · rw [hp] at hr
    have ht : Rs.textE l = [] := by simp [Rs.textE, hp]
    rw [ht]
    clear ht hL h
    go_enter Tryz.func103, Tryz.ntmps103
    go_wp2_with (go_at_call 100; refine hr.mono ?_; clear hr; rintro e w1 ⟨rfl, hb⟩)
    go_ret2
    exact ⟨rfl, hb⟩
  · rw [hp] at hr
    have ht : Rs.textE l = Rs.textS l := by simp [Rs.textE, hp]
    rw [ht]
    have hrg := Rs.right_rg hp
    have hlen := Rs.right_len hp
    by_cases h0 : l = []
    · subst h0
      have HT := Lib.hid ht
      clear ht hL h hp hrg hlen
      go_enter Tryz.func103, Tryz.ntmps103
      go_wp2_with (go_at_call 100; refine hr.mono ?_; clear hr; rintro e w1 ⟨rfl, hb⟩)
      go_ret2
      exact ⟨rfl, hb⟩
    · have hl0 : 0 < l.length := List.length_pos_iff.2 h0
      have HT := Lib.hid (show Rs.textS l = [91] ++ l.flatMap Rs.rangeT ++ [93] by simp [Rs.textS, h0])
      have HX := Lib.hid (show _ ∧ _ ∧ _ ∧ _ from ⟨h, hL, hrg, Rs.flat_len l hrg⟩)
      have hl0' : ((l.length : Int) == 0) = false := by simp; omega
      clear ht hL h hp hrg h0
      go_enter Tryz.func103, Tryz.ntmps103
      go_wp2_with (first
        | (go_at_call 100; refine hr.mono ?_; clear hr; rintro e w1 ⟨rfl, hb⟩)
        | (go_at_call 77; refine (wb_calls w1.heap.size [] 91 _ (Bd.new w1) (by simp)).mono ?_; rintro e w2 ⟨rfl, hbd, hb2, hk2⟩))
      have B2 : Below w.heap.size w w2 := (Bnew hb _).trans (hb2.mono hb.size)
      have hB0 := hb.size
      generalize w1.heap.size = B at *
      clear hk2 hb2 hb
      go_loopw [16] (fun i wr => ∃ k : Nat, k ≤ l.length ∧ i = .int .i64 k ∧ Bd wr B ([91] ++ (l.take k).flatMap Rs.rangeT) ∧ Below w.heap.size w wr) (fun i _ => l.length - (intOf i).toNat)
      case atStart => exact ⟨0, Nat.zero_le _, rfl, by simpa using hbd, B2⟩
      case round =>
        clear hbd B2
        obtain ⟨k, hk, rfl, hbd, hb⟩ := hrel
        obtain ⟨hsl, hL, hrg, hfl⟩ := HX.out
        have hLr := hL.below hb
        have hbs := hb.size
        by_cases hlt : k < l.length
        · obtain ⟨ba, off, rfl, hbl, hc⟩ := hsl.rd (by intro e; subst e; simp at hlt)
          obtain ⟨r, hr⟩ : ∃ r, l[k]? = some r := ⟨_, List.getElem?_eq_getElem hlt⟩
          obtain ⟨c0, c1⟩ := hc k _ hr
          rw [← hb.cell (by exact hbl)] at c0 c1
          have hrr : Rs.rg r := hrg _ (List.mem_of_getElem? hr)
          have hst := Lib.hid (Rs.flat_step hr)
          have hlt2 : ((l.take k).flatMap Rs.rangeT).length ≤ 45678674 := by
            have h1 := Rs.flat_len (l.take k) (fun q hq => hrg q (List.mem_of_mem_take hq))
            rw [List.length_take] at h1
            omega
          generalize (l.take k).flatMap Rs.rangeT = acc at *
          obtain ⟨lo, hi⟩ := r
          obtain ⟨o1, o2, o3⟩ := hrr
          dsimp only at c0 c1 o1 o2 o3
          have hml := Rs.markS_len lo (by omega) (by omega)
          have hmh := Rs.markS_len hi (by omega) (by omega)
          have hlo : lo ≤ 1114111 := by omega
          have hhi : 0 ≤ hi := by omega
          have hBwr := hbd.lt
          have HB := Lib.hid (show _ ∧ _ ∧ _ from ⟨hbd, hLr, hL⟩)
          clear hr hc hbd hsl hL hrg hfl hLr HX
          have hma := fun W hW => mark_calls lo o1 hlo W hW
          have hmb := fun W hW => mark_calls hi hhi o3 W hW
          have hadd : ∀ W, (Op.stringOp .add ⟨#[45]⟩ ⟨(Rs.markS hi).toArray⟩).run Tryz.prog W = .ok (.string ⟨([45] ++ Rs.markS hi).toArray⟩) W := fun W => run_string_add_lists W [45] (Rs.markS hi) (by simp) (by omega)
          have hro : Hid (Rs.rangeT (lo, hi) = Rs.markS lo ++ (if lo < hi then [45] ++ Rs.markS hi else [])) := Lib.hid rfl
          have hmh2 : ([45] ++ Rs.markS hi).length ≤ 21 := by simp; omega
          generalize Rs.markS lo = ml at *
          generalize [45] ++ Rs.markS hi = mh at *
          go_wp2_with fail
          refine (hma _ (HB.out.2.1.alloc _)).mono ?_
          rintro e w3 ⟨rfl, hb3⟩
          have g3 : w3.heap[wr.heap.size]? = some (.cells #[.int .i64 lo, .int .i64 hi] 84 (0, 0)) := (hb3.block _ (by simp)).trans (heap_alloc_new wr _)
          have bd3 := (HB.out.1.alloc (.cells #[.int .i64 lo, .int .i64 hi] 84)).below hb3
          have L3 := (HB.out.2.1.alloc (.cells #[.int .i64 lo, .int .i64 hi] 84)).below hb3
          have B3 : Below w.heap.size w w3 := (Bnew hb _).trans (hb3.mono (by simp; omega))
          have G3 := Lib.hid g3
          clear g3
          go_wp2_with fail
          refine (ws_calls B _ ml _ bd3 (by simp; omega) (by omega)).mono ?_
          rintro e w4 ⟨v4, rfl, bd4, hb4, hk4⟩
          have g4 := Lib.hid (ok_cells hk4 G3.out (by omega) (by decide))
          have B4 := B3.trans (hb4.mono hB0)
          have d0 : w4.cell? ⟨wr.heap.size, 0, none⟩ = some (.int .i64 lo) := (cell_of_row w4 wr.heap.size 0 _ _ _ g4.out).trans rfl
          have d1 : w4.cell? ⟨wr.heap.size, 1, none⟩ = some (.int .i64 hi) := (cell_of_row w4 wr.heap.size 1 _ _ _ g4.out).trans rfl
          have L4 := HB.out.2.2.below B4
          clear hk4 hb4 bd3 L3 G3
          by_cases hlh : lo < hi
          · rw [if_pos hlh] at hro
            go_wp2_with fail
            refine (hmb _ L4).mono ?_
            rintro e w5 ⟨rfl, hb5⟩
            have bd5 := bd4.below hb5
            have B5 := Bthen B4 hb5
            clear d0 d1
            go_wp2_with fail
            refine (ws_calls B _ mh _ bd5 (by simp; omega) (by omega)).mono ?_
            rintro e w6 ⟨v6, rfl, bd6, hb6, hk6⟩
            have B6 := B5.trans (hb6.mono hB0)
            clear hb5 hk6 hb6
            go_wp2
            go_roundw
            case rel => exact ⟨k + 1, by omega, by go_num, by rw [hst.out, hro.out]; simpa [List.append_assoc] using bd6, B6⟩
            case measure => simp [intOf]; omega
          · rw [if_neg hlh] at hro
            go_wp2
            go_roundw
            case rel => exact ⟨k + 1, by omega, by go_num, by rw [hst.out, hro.out]; simpa [List.append_assoc] using bd4, B4⟩
            case measure => simp [intOf]; omega
        · have hkk : l.take k = l := List.take_of_length_le (by omega)
          rw [hkk] at hbd
          have HB := Lib.hid hbd
          have hfl2 : (l.flatMap Rs.rangeT).length ≤ 45678674 := by omega
          have hBwr := hbd.lt
          clear hkk hbd hfl HX hsl hL hrg hLr
          generalize l.flatMap Rs.rangeT = acc at *
          go_wp2_with fail
          refine (wb_calls B _ 93 _ HB.out (by simp; omega)).mono ?_
          rintro e w3 ⟨rfl, bd3, hb3, hk3⟩
          have B3 := hb.trans (hb3.mono hB0)
          clear hb3 hk3
          go_wp2_with fail
          refine (bs_calls B _ _ bd3).mono ?_
          rintro e w4 ⟨rfl, hb4, hk4⟩
          have B4 := B3.trans (hb4.mono hB0)
          clear hb4 hk4
          go_wp2
          go_ret2
          exact ⟨by rw [HT.out]; rfl, B4⟩
end Go.Proofs.YtimahlimmblgkaaGreatDoor
