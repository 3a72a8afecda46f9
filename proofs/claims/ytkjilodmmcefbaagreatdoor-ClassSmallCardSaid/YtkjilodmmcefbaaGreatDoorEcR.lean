/- The reference's Escape. -/
import Derived.Test.YtkjilodmmcefbaaGreatDoorEsR
import Derived.Test.YtkjilodmmcefbaaGreatDoorEsA
import Derived.Test.YtkjilodmmcefbaaGreatDoorLw2
namespace Go.Proofs.YtkjilodmmcefbaaGreatDoor
open Go.RowKit Go.Shelf
set_option maxRecDepth 100000 in
set_option maxHeartbeats 1000000 in
theorem resc_short (s : ByteArray) (w : World) (h : s.size < 2 ∨ (2 ≤ s.size ∧ Rs.bt s.data.toList 0 ≠ 92)) :
    Calls Tryz.prog 42 #[.string s] w (EscPost s.data.toList w) := by
  have hlen : s.data.toList.length = s.size := by rw [Lib.size_eq]
  have hn : Rs.escS s.data.toList = none := by
    unfold Rs.escS
    rcases h with h | ⟨h, h'⟩
    · rw [if_pos (by omega)]
    · rw [if_neg (by omega), if_pos h']
  have e1 : Rs.escC s.data.toList = 0 := by simp [Rs.escC, hn]
  have e2 : Rs.escN s.data.toList = 0 := by simp [Rs.escN, hn]
  have e3 : Rs.escE s.data.toList = 61 := by simp [Rs.escE, hn]
  unfold EscPost
  rw [e1, e2, e3]
  clear e1 e2 e3 hn hlen
  rcases h with h | ⟨h, h'⟩
  · go_enter Tryz.func42, Tryz.ntmps42
    go_wp2
    go_ret3
    exact ⟨rfl, Below.refl _ _⟩
  · rw [Rs.esc_get (by omega)] at h'
    have h0 : 0 < s.size := by omega
    have h1 : ((((s[0]'(by omega)).toNat : Int)) != 92) = true := by simpa using h'
    clear h'
    go_enter Tryz.func42, Tryz.ntmps42
    go_wp2
    go_ret3
    exact ⟨rfl, Below.refl _ _⟩
theorem alloc_cell6 (w : World) (xs : Array Value) (T : TypeId) (i : Nat) (v : Value) {n : Nat} (h : xs[i]? = some v) : ((w.alloc (.cells xs T)).drewN n).cell? ⟨w.heap.size, i, none⟩ = some v := by
  show (w.alloc (.cells xs T)).cell? ⟨w.heap.size, i, none⟩ = some v
  simp only [World.cell?, World.alloc_heap_new]
  exact h
def sgs : List Int := [110, 116, 114, 102, 118, 97]
def EcI (B : Int) (w : World) (i : Value) (wr : World) : Prop := ∃ k : Nat, k ≤ 6 ∧ i = .int .i64 k ∧ (∀ j, j < k → sgs.getD j 0 ≠ B) ∧ ∃ n, wr = w.drewN n
set_option maxRecDepth 100000 in
set_option maxHeartbeats 2000000 in
theorem resc_sign (s : ByteArray) (w : World) (h2 : 2 ≤ s.size) (h0 : Rs.bt s.data.toList 0 = 92) (x : Int) (hx : Rs.sign (Rs.bt s.data.toList 1) = some x) :
    Calls Tryz.prog 42 #[.string s] w (EscPost s.data.toList w) := by
  have hlen : s.data.toList.length = s.size := by rw [Lib.size_eq]
  have hn : Rs.escS s.data.toList = some (x, 2) := by
    unfold Rs.escS
    rw [if_neg (by omega), if_neg (by simp [h0]), hx]
  have e1 : Rs.escC s.data.toList = x := by simp [Rs.escC, hn]
  have e2 : Rs.escN s.data.toList = 2 := by simp [Rs.escN, hn]
  have e3 : Rs.escE s.data.toList = 0 := by simp [Rs.escE, hn]
  unfold EscPost
  rw [e1, e2, e3]
  clear e1 e2 e3 hn hlen
  rw [Rs.esc_get (by omega)] at h0 hx
  have g0 : 0 < s.size := by omega
  have g1 : 1 < s.size := by omega
  have h1 : ((((s[0]'g0).toNat : Int)) != 92) = false := by simp; omega
  have HX := Lib.hid hx
  clear h0 hx
  go_enter Tryz.func42, Tryz.ntmps42
  go_wp2
  go_loopw [7] (fun i wr => EcI ((s[1]'g1).toNat : Int) (w.alloc (.cells #[.int .i64 10, .int .i64 9, .int .i64 13, .int .i64 12, .int .i64 11, .int .i64 7] 3)) i wr) (fun i _ => 6 - (intOf i).toNat)
  case atStart => exact ⟨0, by decide, rfl, fun j hj => by omega, 0, rfl⟩
  case round =>
    obtain ⟨k, hk, rfl, hno, n, rfl⟩ := hrel
    have HNO := Lib.hid hno
    clear hno
    have hb := (s[1]'g1).toNat_lt
    have i1 : ∀ W, (Instr.index 9 (.string s) (.int .i64 1)).run Tryz.prog W = .ok (.int .u8 ((s[1]'g1).toNat : Int)) W := fun W => by
      rw [run_index_string (h := Tryz.underlying9), dif_pos ⟨by decide, by omega⟩]; rfl
    by_cases h6 : k = 6
    · exfalso
      subst h6
      have n0 := HNO.out 0 (by decide)
      have n1 := HNO.out 1 (by decide)
      have n2 := HNO.out 2 (by decide)
      have n3 := HNO.out 3 (by decide)
      have n4 := HNO.out 4 (by decide)
      have n5 := HNO.out 5 (by decide)
      simp only [sgs, List.getD_cons_zero, List.getD_cons_succ] at n0 n1 n2 n3 n4 n5
      have := HX.out
      unfold Rs.sign at this
      simp only [if_neg (Ne.symm n0), if_neg (Ne.symm n1), if_neg (Ne.symm n2), if_neg (Ne.symm n3), if_neg (Ne.symm n4), if_neg (Ne.symm n5)] at this
      cases this
    · rcases (show k = 0 ∨ k = 1 ∨ k = 2 ∨ k = 3 ∨ k = 4 ∨ k = 5 by omega) with rfl | rfl | rfl | rfl | rfl | rfl
      · have ik : ∀ W, (Instr.index 9 (.string ⟨#[110, 116, 114, 102, 118, 97]⟩) (.int .i64 ((0 : Nat) : Int))).run Tryz.prog W = .ok (.int .u8 110) W := fun W => by
          rw [run_index_string (h := Tryz.underlying9), dif_pos ⟨by decide, by decide⟩]; rfl
        by_cases hm : ((s[1]'g1).toNat : Int) = 110
        · have hq : (((s[1]'g1).toNat : Int) == (((⟨#[110, 116, 114, 102, 118, 97]⟩ : ByteArray)[0]'(by decide)).toNat : Int)) = true := by rw [show (((⟨#[110, 116, 114, 102, 118, 97]⟩ : ByteArray)[0]'(by decide)).toNat : Int) = 110 from rfl]; simp; omega
          have HC : Hid (x = 10) := Lib.hid (by have := HX.out; rw [hm] at this; exact (Option.some.inj this).symm)
          have HB : Hid (Below w.heap.size w (w.alloc (.cells #[.int .i64 10, .int .i64 9, .int .i64 13, .int .i64 12, .int .i64 11, .int .i64 7] 3))) := Lib.hid (Bnew (Below.refl _ _) _)
          have hc : ((w.alloc (.cells #[.int .i64 10, .int .i64 9, .int .i64 13, .int .i64 12, .int .i64 11, .int .i64 7] 3)).drewN n).cell? ⟨w.heap.size, 0, none⟩ = some (.int .i64 10) := alloc_cell6 w _ _ 0 _ rfl
          clear hm
          go_wp2_with fail
          go_big_quiet (fail)
          go_wp2
          go_ret3
          refine ⟨by rw [HC.out]; rfl, ?_⟩
          first | exact below_drewN (below_drewN HB.out _) _ | exact below_drewN HB.out _ | exact HB.out
        · have hq : (((s[1]'g1).toNat : Int) == (((⟨#[110, 116, 114, 102, 118, 97]⟩ : ByteArray)[0]'(by decide)).toNat : Int)) = false := by rw [show (((⟨#[110, 116, 114, 102, 118, 97]⟩ : ByteArray)[0]'(by decide)).toNat : Int) = 110 from rfl]; simp; omega
          have HN : Hid (∀ j, j < 1 → sgs.getD j 0 ≠ ((s[1]'g1).toNat : Int)) := Lib.hid (fun j hj => by
            by_cases e : j = 0
            · subst e; exact fun e => hm e.symm
            · exact HNO.out j (by omega))
          clear hm
          go_wp2_with fail
          go_big_quiet (fail)
          go_wp2_with fail
          go_roundw
          case rel =>
            refine ⟨1, by decide, rfl, HN.out, ?_⟩
            first | exact ⟨_, World.drewN_drewN _ _ _⟩ | exact ⟨_, rfl⟩ | (rw [World.drewN_drewN]; exact ⟨_, rfl⟩)
          case measure => simp [intOf]
      · have ik : ∀ W, (Instr.index 9 (.string ⟨#[110, 116, 114, 102, 118, 97]⟩) (.int .i64 ((1 : Nat) : Int))).run Tryz.prog W = .ok (.int .u8 116) W := fun W => by
          rw [run_index_string (h := Tryz.underlying9), dif_pos ⟨by decide, by decide⟩]; rfl
        by_cases hm : ((s[1]'g1).toNat : Int) = 116
        · have hq : (((s[1]'g1).toNat : Int) == (((⟨#[110, 116, 114, 102, 118, 97]⟩ : ByteArray)[1]'(by decide)).toNat : Int)) = true := by rw [show (((⟨#[110, 116, 114, 102, 118, 97]⟩ : ByteArray)[1]'(by decide)).toNat : Int) = 116 from rfl]; simp; omega
          have HC : Hid (x = 9) := Lib.hid (by have := HX.out; rw [hm] at this; exact (Option.some.inj this).symm)
          have HB : Hid (Below w.heap.size w (w.alloc (.cells #[.int .i64 10, .int .i64 9, .int .i64 13, .int .i64 12, .int .i64 11, .int .i64 7] 3))) := Lib.hid (Bnew (Below.refl _ _) _)
          have hc : ((w.alloc (.cells #[.int .i64 10, .int .i64 9, .int .i64 13, .int .i64 12, .int .i64 11, .int .i64 7] 3)).drewN n).cell? ⟨w.heap.size, 1, none⟩ = some (.int .i64 9) := alloc_cell6 w _ _ 1 _ rfl
          clear hm
          go_wp2_with fail
          go_big_quiet (fail)
          go_wp2
          go_ret3
          refine ⟨by rw [HC.out]; rfl, ?_⟩
          first | exact below_drewN (below_drewN HB.out _) _ | exact below_drewN HB.out _ | exact HB.out
        · have hq : (((s[1]'g1).toNat : Int) == (((⟨#[110, 116, 114, 102, 118, 97]⟩ : ByteArray)[1]'(by decide)).toNat : Int)) = false := by rw [show (((⟨#[110, 116, 114, 102, 118, 97]⟩ : ByteArray)[1]'(by decide)).toNat : Int) = 116 from rfl]; simp; omega
          have HN : Hid (∀ j, j < 2 → sgs.getD j 0 ≠ ((s[1]'g1).toNat : Int)) := Lib.hid (fun j hj => by
            by_cases e : j = 1
            · subst e; exact fun e => hm e.symm
            · exact HNO.out j (by omega))
          clear hm
          go_wp2_with fail
          go_big_quiet (fail)
          go_wp2_with fail
          go_roundw
          case rel =>
            refine ⟨2, by decide, rfl, HN.out, ?_⟩
            first | exact ⟨_, World.drewN_drewN _ _ _⟩ | exact ⟨_, rfl⟩ | (rw [World.drewN_drewN]; exact ⟨_, rfl⟩)
          case measure => simp [intOf]
      · have ik : ∀ W, (Instr.index 9 (.string ⟨#[110, 116, 114, 102, 118, 97]⟩) (.int .i64 ((2 : Nat) : Int))).run Tryz.prog W = .ok (.int .u8 114) W := fun W => by
          rw [run_index_string (h := Tryz.underlying9), dif_pos ⟨by decide, by decide⟩]; rfl
        by_cases hm : ((s[1]'g1).toNat : Int) = 114
        · have hq : (((s[1]'g1).toNat : Int) == (((⟨#[110, 116, 114, 102, 118, 97]⟩ : ByteArray)[2]'(by decide)).toNat : Int)) = true := by rw [show (((⟨#[110, 116, 114, 102, 118, 97]⟩ : ByteArray)[2]'(by decide)).toNat : Int) = 114 from rfl]; simp; omega
          have HC : Hid (x = 13) := Lib.hid (by have := HX.out; rw [hm] at this; exact (Option.some.inj this).symm)
          have HB : Hid (Below w.heap.size w (w.alloc (.cells #[.int .i64 10, .int .i64 9, .int .i64 13, .int .i64 12, .int .i64 11, .int .i64 7] 3))) := Lib.hid (Bnew (Below.refl _ _) _)
          have hc : ((w.alloc (.cells #[.int .i64 10, .int .i64 9, .int .i64 13, .int .i64 12, .int .i64 11, .int .i64 7] 3)).drewN n).cell? ⟨w.heap.size, 2, none⟩ = some (.int .i64 13) := alloc_cell6 w _ _ 2 _ rfl
          clear hm
          go_wp2_with fail
          go_big_quiet (fail)
          go_wp2
          go_ret3
          refine ⟨by rw [HC.out]; rfl, ?_⟩
          first | exact below_drewN (below_drewN HB.out _) _ | exact below_drewN HB.out _ | exact HB.out
        · have hq : (((s[1]'g1).toNat : Int) == (((⟨#[110, 116, 114, 102, 118, 97]⟩ : ByteArray)[2]'(by decide)).toNat : Int)) = false := by rw [show (((⟨#[110, 116, 114, 102, 118, 97]⟩ : ByteArray)[2]'(by decide)).toNat : Int) = 114 from rfl]; simp; omega
          have HN : Hid (∀ j, j < 3 → sgs.getD j 0 ≠ ((s[1]'g1).toNat : Int)) := Lib.hid (fun j hj => by
            by_cases e : j = 2
            · subst e; exact fun e => hm e.symm
            · exact HNO.out j (by omega))
          clear hm
          go_wp2_with fail
          go_big_quiet (fail)
          go_wp2_with fail
          go_roundw
          case rel =>
            refine ⟨3, by decide, rfl, HN.out, ?_⟩
            first | exact ⟨_, World.drewN_drewN _ _ _⟩ | exact ⟨_, rfl⟩ | (rw [World.drewN_drewN]; exact ⟨_, rfl⟩)
          case measure => simp [intOf]
      · have ik : ∀ W, (Instr.index 9 (.string ⟨#[110, 116, 114, 102, 118, 97]⟩) (.int .i64 ((3 : Nat) : Int))).run Tryz.prog W = .ok (.int .u8 102) W := fun W => by
          rw [run_index_string (h := Tryz.underlying9), dif_pos ⟨by decide, by decide⟩]; rfl
        by_cases hm : ((s[1]'g1).toNat : Int) = 102
        · have hq : (((s[1]'g1).toNat : Int) == (((⟨#[110, 116, 114, 102, 118, 97]⟩ : ByteArray)[3]'(by decide)).toNat : Int)) = true := by rw [show (((⟨#[110, 116, 114, 102, 118, 97]⟩ : ByteArray)[3]'(by decide)).toNat : Int) = 102 from rfl]; simp; omega
          have HC : Hid (x = 12) := Lib.hid (by have := HX.out; rw [hm] at this; exact (Option.some.inj this).symm)
          have HB : Hid (Below w.heap.size w (w.alloc (.cells #[.int .i64 10, .int .i64 9, .int .i64 13, .int .i64 12, .int .i64 11, .int .i64 7] 3))) := Lib.hid (Bnew (Below.refl _ _) _)
          have hc : ((w.alloc (.cells #[.int .i64 10, .int .i64 9, .int .i64 13, .int .i64 12, .int .i64 11, .int .i64 7] 3)).drewN n).cell? ⟨w.heap.size, 3, none⟩ = some (.int .i64 12) := alloc_cell6 w _ _ 3 _ rfl
          clear hm
          go_wp2_with fail
          go_big_quiet (fail)
          go_wp2
          go_ret3
          refine ⟨by rw [HC.out]; rfl, ?_⟩
          first | exact below_drewN (below_drewN HB.out _) _ | exact below_drewN HB.out _ | exact HB.out
        · have hq : (((s[1]'g1).toNat : Int) == (((⟨#[110, 116, 114, 102, 118, 97]⟩ : ByteArray)[3]'(by decide)).toNat : Int)) = false := by rw [show (((⟨#[110, 116, 114, 102, 118, 97]⟩ : ByteArray)[3]'(by decide)).toNat : Int) = 102 from rfl]; simp; omega
          have HN : Hid (∀ j, j < 4 → sgs.getD j 0 ≠ ((s[1]'g1).toNat : Int)) := Lib.hid (fun j hj => by
            by_cases e : j = 3
            · subst e; exact fun e => hm e.symm
            · exact HNO.out j (by omega))
          clear hm
          go_wp2_with fail
          go_big_quiet (fail)
          go_wp2_with fail
          go_roundw
          case rel =>
            refine ⟨4, by decide, rfl, HN.out, ?_⟩
            first | exact ⟨_, World.drewN_drewN _ _ _⟩ | exact ⟨_, rfl⟩ | (rw [World.drewN_drewN]; exact ⟨_, rfl⟩)
          case measure => simp [intOf]
      · have ik : ∀ W, (Instr.index 9 (.string ⟨#[110, 116, 114, 102, 118, 97]⟩) (.int .i64 ((4 : Nat) : Int))).run Tryz.prog W = .ok (.int .u8 118) W := fun W => by
          rw [run_index_string (h := Tryz.underlying9), dif_pos ⟨by decide, by decide⟩]; rfl
        by_cases hm : ((s[1]'g1).toNat : Int) = 118
        · have hq : (((s[1]'g1).toNat : Int) == (((⟨#[110, 116, 114, 102, 118, 97]⟩ : ByteArray)[4]'(by decide)).toNat : Int)) = true := by rw [show (((⟨#[110, 116, 114, 102, 118, 97]⟩ : ByteArray)[4]'(by decide)).toNat : Int) = 118 from rfl]; simp; omega
          have HC : Hid (x = 11) := Lib.hid (by have := HX.out; rw [hm] at this; exact (Option.some.inj this).symm)
          have HB : Hid (Below w.heap.size w (w.alloc (.cells #[.int .i64 10, .int .i64 9, .int .i64 13, .int .i64 12, .int .i64 11, .int .i64 7] 3))) := Lib.hid (Bnew (Below.refl _ _) _)
          have hc : ((w.alloc (.cells #[.int .i64 10, .int .i64 9, .int .i64 13, .int .i64 12, .int .i64 11, .int .i64 7] 3)).drewN n).cell? ⟨w.heap.size, 4, none⟩ = some (.int .i64 11) := alloc_cell6 w _ _ 4 _ rfl
          clear hm
          go_wp2_with fail
          go_big_quiet (fail)
          go_wp2
          go_ret3
          refine ⟨by rw [HC.out]; rfl, ?_⟩
          first | exact below_drewN (below_drewN HB.out _) _ | exact below_drewN HB.out _ | exact HB.out
        · have hq : (((s[1]'g1).toNat : Int) == (((⟨#[110, 116, 114, 102, 118, 97]⟩ : ByteArray)[4]'(by decide)).toNat : Int)) = false := by rw [show (((⟨#[110, 116, 114, 102, 118, 97]⟩ : ByteArray)[4]'(by decide)).toNat : Int) = 118 from rfl]; simp; omega
          have HN : Hid (∀ j, j < 5 → sgs.getD j 0 ≠ ((s[1]'g1).toNat : Int)) := Lib.hid (fun j hj => by
            by_cases e : j = 4
            · subst e; exact fun e => hm e.symm
            · exact HNO.out j (by omega))
          clear hm
          go_wp2_with fail
          go_big_quiet (fail)
          go_wp2_with fail
          go_roundw
          case rel =>
            refine ⟨5, by decide, rfl, HN.out, ?_⟩
            first | exact ⟨_, World.drewN_drewN _ _ _⟩ | exact ⟨_, rfl⟩ | (rw [World.drewN_drewN]; exact ⟨_, rfl⟩)
          case measure => simp [intOf]
      · have ik : ∀ W, (Instr.index 9 (.string ⟨#[110, 116, 114, 102, 118, 97]⟩) (.int .i64 ((5 : Nat) : Int))).run Tryz.prog W = .ok (.int .u8 97) W := fun W => by
          rw [run_index_string (h := Tryz.underlying9), dif_pos ⟨by decide, by decide⟩]; rfl
        by_cases hm : ((s[1]'g1).toNat : Int) = 97
        · have hq : (((s[1]'g1).toNat : Int) == (((⟨#[110, 116, 114, 102, 118, 97]⟩ : ByteArray)[5]'(by decide)).toNat : Int)) = true := by rw [show (((⟨#[110, 116, 114, 102, 118, 97]⟩ : ByteArray)[5]'(by decide)).toNat : Int) = 97 from rfl]; simp; omega
          have HC : Hid (x = 7) := Lib.hid (by have := HX.out; rw [hm] at this; exact (Option.some.inj this).symm)
          have HB : Hid (Below w.heap.size w (w.alloc (.cells #[.int .i64 10, .int .i64 9, .int .i64 13, .int .i64 12, .int .i64 11, .int .i64 7] 3))) := Lib.hid (Bnew (Below.refl _ _) _)
          have hc : ((w.alloc (.cells #[.int .i64 10, .int .i64 9, .int .i64 13, .int .i64 12, .int .i64 11, .int .i64 7] 3)).drewN n).cell? ⟨w.heap.size, 5, none⟩ = some (.int .i64 7) := alloc_cell6 w _ _ 5 _ rfl
          clear hm
          go_wp2_with fail
          go_big_quiet (fail)
          go_wp2
          go_ret3
          refine ⟨by rw [HC.out]; rfl, ?_⟩
          first | exact below_drewN (below_drewN HB.out _) _ | exact below_drewN HB.out _ | exact HB.out
        · have hq : (((s[1]'g1).toNat : Int) == (((⟨#[110, 116, 114, 102, 118, 97]⟩ : ByteArray)[5]'(by decide)).toNat : Int)) = false := by rw [show (((⟨#[110, 116, 114, 102, 118, 97]⟩ : ByteArray)[5]'(by decide)).toNat : Int) = 97 from rfl]; simp; omega
          have HN : Hid (∀ j, j < 6 → sgs.getD j 0 ≠ ((s[1]'g1).toNat : Int)) := Lib.hid (fun j hj => by
            by_cases e : j = 5
            · subst e; exact fun e => hm e.symm
            · exact HNO.out j (by omega))
          clear hm
          go_wp2_with fail
          go_big_quiet (fail)
          go_wp2_with fail
          go_roundw
          case rel =>
            refine ⟨6, by decide, rfl, HN.out, ?_⟩
            first | exact ⟨_, World.drewN_drewN _ _ _⟩ | exact ⟨_, rfl⟩ | (rw [World.drewN_drewN]; exact ⟨_, rfl⟩)
          case measure => simp [intOf]
end Go.Proofs.YtkjilodmmcefbaaGreatDoor
