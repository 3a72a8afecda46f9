/- Texts of the claim, put together: KiA. -/
import Derived.Test.YtdgfldeeflmnmaaGreatDoorSKoA
import Derived.BigQuiet
import Derived.Deep.QuietTactic
namespace Go.Proofs.YtdgfldeeflmnmaaGreatDoor.Sk
open Go Go.RowKit
theorem run_neq_L (x y : Lab) (w : World) : (binOp .neq 79 (.agg #[.string x.1, .string x.2]) (.agg #[.string y.1, .string y.2])).run Tryz.prog w = .ok (.bool (!decide (x = y))) w := by
  rw [show decide (x = y) = (decide (x.1 = y.1) && decide (x.2 = y.2)) by
    obtain ⟨x1, x2⟩ := x
    obtain ⟨y1, y2⟩ := y
    rw [Bool.eq_iff_iff]; simp]
  go_simp
  have hb : ∀ a b : ByteArray, (a.toList = b.toList) = (a = b) := fun a b => propext ⟨fun h => by rw [ByteArray.toList_eq, ByteArray.toList_eq] at h; cases a; cases b; simpa [Array.toList_inj] using h, fun h => by rw [h]⟩
  simp only [hb]
  by_cases h1 : x.1 = y.1 <;> by_cases h2 : x.2 = y.2 <;> simp [h1, h2]
theorem take_succ_at {α : Type} {l : List α} {k : Nat} {x : α} (h : l[k]? = some x) : l.take (k + 1) = l.take k ++ [x] := by rw [List.take_add_one, h]; rfl
set_option maxRecDepth 100000 in
set_option maxHeartbeats 2000000 in
theorem sameL_calls (a b : Option Addr) (ca cb : Nat) (l m : List Lab) (w : World) (ha : RdL w a l) (hb : RdL w b m) (hn : l.length ≤ 1000000000) :
    Calls Tryz.prog 48 #[.slice a l.length ca, .slice b m.length cb] w fun e w' => e = .returned (.bool (decide (l = m))) ∧ ∃ n, w' = w.drewN n := by
  have HA := Lib.hid ha
  have HB := Lib.hid hb
  clear ha hb
  by_cases hl : l.length = m.length
  · have hneq : ((l.length : Int) != (m.length : Int)) = false := by simp; omega
    have hl1 : l.length ≤ m.length := by omega
    have hl2 : m.length ≤ l.length := by omega
    clear hl
    go_enter Tryz.func48, Tryz.ntmps48
    go_wp2
    go_loopw [5] (fun i wr => ∃ k n : Nat, k ≤ l.length ∧ i = .int .i64 k ∧ Hid (l.take k = m.take k) ∧ Hid (wr = w.drewN n)) (fun i _ => l.length - (intOf i).toNat)
    case atStart => exact ⟨0, 0, Nat.zero_le _, rfl, Lib.hid (by simp), Lib.hid rfl⟩
    case round =>
      obtain ⟨k, n, hk, rfl, HT, HW⟩ := hrel
      by_cases hlt : k < l.length
      · obtain ⟨ba, oa, rfl, hta, hca⟩ := HA.out (by intro e; subst e; simp at hlt)
        obtain ⟨bb, ob, rfl, htb, hcb⟩ := HB.out (by intro e; rw [e] at hl1; simp at hl1; rw [hl1] at hlt; simp at hlt)
        obtain ⟨x, hx⟩ : ∃ x, l[k]? = some x := ⟨_, List.getElem?_eq_getElem hlt⟩
        obtain ⟨y, hy⟩ : ∃ y, m[k]? = some y := ⟨_, List.getElem?_eq_getElem (by omega)⟩
        obtain ⟨c0, c1⟩ := hca k _ hx
        obtain ⟨d0, d1⟩ := hcb k _ hy
        rw [← show wr.cell? _ = w.cell? _ by rw [HW.out]; rfl] at c0 c1 d0 d1
        have hne := fun W => run_neq_L x y W
        have HX := Lib.hid (show _ ∧ _ from ⟨hx, hy⟩)
        have hlt2 : k < m.length := by omega
        clear hx hy hca hcb hta htb
        by_cases hxy : x = y
        · rw [show (!decide (x = y)) = false by simp [hxy]] at hne
          have HE := Lib.hid hxy
          clear hxy
          go_wp2_with fail
          go_big_quiet (fail)
          go_wp2
          go_roundw
          case rel => exact ⟨k + 1, n + nq, by omega, by go_num, Lib.hid (by rw [take_succ_at HX.out.1, take_succ_at HX.out.2, HT.out, HE.out]), Lib.hid (by rw [HW.out, World.drewN_drewN])⟩
          case measure => simp [intOf]; omega
        · rw [show (!decide (x = y)) = true by simp [hxy]] at hne
          have HE : Hid (decide (l = m) = false) := Lib.hid (by simp; intro e; subst e; have := HX.out.1.symm.trans HX.out.2; cases this; exact hxy rfl)
          clear hxy
          go_wp2_with fail
          go_big_quiet (fail)
          go_wp2
          go_ret
          exact ⟨by rw [HE.out]; rfl, n + nq, by rw [HW.out, World.drewN_drewN]⟩
      · have hkl : k = l.length := by omega
        have HE : Hid (decide (l = m) = true) := Lib.hid (by have := HT.out; rw [List.take_of_length_le (by omega), List.take_of_length_le (by omega)] at this; simpa using this)
        have hge : ¬ (k : Int) < (l.length : Int) := by omega
        clear hkl
        go_wp2
        go_ret
        exact ⟨by rw [HE.out]; rfl, n, HW.out⟩
  · have hneq : ((l.length : Int) != (m.length : Int)) = true := by simp; omega
    have HE : Hid (decide (l = m) = false) := Lib.hid (by simp; intro e; exact hl (by rw [e]))
    clear hl
    go_enter Tryz.func48, Tryz.ntmps48
    go_wp2
    go_ret
    exact ⟨by rw [HE.out]; rfl, 0, rfl⟩
theorem it_mk {x y : SI} (h : x.it = y.it) : y.key = x.key ∧ y.e = x.e := by
  obtain ⟨k, a, c, e⟩ := x
  obtain ⟨k', a', c', e'⟩ := y
  simp only [SI.it, It.mk.injEq] at h
  exact ⟨h.1.symm, h.2.symm⟩
theorem map_at {l m : List SI} (h : l.map SI.it = m.map SI.it) {k : Nat} {x : SI} (hx : l[k]? = some x) : ∃ y, m[k]? = some y ∧ y.key = x.key ∧ y.e = x.e := by
  have h1 : (l.map SI.it)[k]? = some x.it := by rw [List.getElem?_map, hx]; rfl
  rw [h, List.getElem?_map] at h1
  cases hy : m[k]? with
  | none => rw [hy] at h1; cases h1
  | some y =>
    rw [hy] at h1
    exact ⟨y, rfl, it_mk (by simpa using h1.symm)⟩
end Go.Proofs.YtdgfldeeflmnmaaGreatDoor.Sk
