/- Chapter 38: gaugerkit.SameLabels; items. -/
import Derived.Test.YtmagojckhfkcdaaGreatDoorKoA
import Derived.BigQuiet
import Derived.Deep.QuietTactic
namespace Go.Proofs.YtmagojckhfkcdaaGreatDoor.Sk
open Go Go.RowKit
theorem run_neq_L (x y : Lab) (w : World) : (binOp .neq 66 (.agg #[.string x.1, .string x.2]) (.agg #[.string y.1, .string y.2])).run Tryz.prog w = .ok (.bool (!decide (x = y))) w := by
  rw [show decide (x = y) = (decide (x.1 = y.1) && decide (x.2 = y.2)) by
    obtain ⟨x1, x2⟩ := x
    obtain ⟨y1, y2⟩ := y
    rw [Bool.eq_iff_iff]; simp]
  go_simp
  have hb : ∀ a b : ByteArray, (a.toList = b.toList) = (a = b) := fun a b => propext ⟨fun h => by rw [ByteArray.toList_eq, ByteArray.toList_eq] at h; cases a; cases b; simpa [Array.toList_inj] using h, fun h => by rw [h]⟩
  simp only [hb]
  by_cases h1 : x.1 = y.1 <;> by_cases h2 : x.2 = y.2 <;> simp [h1, h2]
theorem take_succ_at {α : Type} {l : List α} {k : Nat} {x : α} (h : l[k]? = some x) : l.take (k + 1) = l.take k ++ [x] := by rw [List.take_add_one, h]; rfl
set_option maxRecDepth 100000 in
set_option maxHeartbeats 2000000 in
theorem sameL_calls (a b : Option Addr) (ca cb : Nat) (l m : List Lab) (w : World) (ha : RdL w a l) (hb : RdL w b m) (hn : l.length ≤ 1000000000) :
    Calls Tryz.prog 39 #[.slice a l.length ca, .slice b m.length cb] w fun e w' => e = .returned (.bool (decide (l = m))) ∧ ∃ n, w' = w.drewN n := by
  have HA := Lib.hid ha
  have HB := Lib.hid hb
  clear ha hb
  by_cases hl : l.length = m.length
  · have hneq : ((l.length : Int) != (m.length : Int)) = false := by simp; omega
    have hl1 : l.length ≤ m.length := by omega
    have hl2 : m.length ≤ l.length := by omega
    clear hl
    go_enter Tryz.func39, Tryz.ntmps39
    go_wp2
    go_loopw [5] (fun i wr => ∃ k n : Nat, k ≤ l.length ∧ i = .int .i64 k ∧ Hid (l.take k = m.take k) ∧ Hid (wr = w.drewN n)) (fun i _ => l.length - (intOf i).toNat)
    case atStart => exact ⟨0, 0, Nat.zero_le _, rfl, Lib.hid (by simp), Lib.hid rfl⟩
    case round =>
      obtain ⟨k, n, hk, rfl, HT, HW⟩ := hrel
      by_cases hlt : k < l.length
      · obtain ⟨ba, oa, rfl, hta, hca⟩ := HA.out (by intro e; subst e; simp at hlt)
        obtain ⟨bb, ob, rfl, htb, hcb⟩ := HB.out (by intro e; rw [e] at hl1; simp at hl1; rw [hl1] at hlt; simp at hlt)
        obtain ⟨x, hx⟩ : ∃ x, l[k]? = some x := ⟨_, List.getElem?_eq_getElem hlt⟩
        obtain ⟨y, hy⟩ : ∃ y, m[k]? = some y := ⟨_, List.getElem?_eq_getElem (by omega)⟩
        obtain ⟨c0, c1⟩ := hca k _ hx
        obtain ⟨d0, d1⟩ := hcb k _ hy
        rw [← show wr.cell? _ = w.cell? _ by rw [HW.out]; rfl] at c0 c1 d0 d1
        have hne := fun W => run_neq_L x y W
        have HX := Lib.hid (show _ ∧ _ from ⟨hx, hy⟩)
        have hlt2 : k < m.length := by omega
        clear hx hy hca hcb hta htb
        by_cases hxy : x = y
        · rw [show (!decide (x = y)) = false by simp [hxy]] at hne
          have HE := Lib.hid hxy
          clear hxy
          go_wp2_with fail
          go_big_quiet (fail)
          go_wp2
          go_roundw
          case rel => exact ⟨k + 1, n + nq, by omega, by go_num, Lib.hid (by rw [take_succ_at HX.out.1, take_succ_at HX.out.2, HT.out, HE.out]), Lib.hid (by rw [HW.out, World.drewN_drewN])⟩
          case measure => simp [intOf]; omega
        · rw [show (!decide (x = y)) = true by simp [hxy]] at hne
          have HE : Hid (decide (l = m) = false) := Lib.hid (by simp; intro e; subst e; have := HX.out.1.symm.trans HX.out.2; cases this; exact hxy rfl)
          clear hxy
          go_wp2_with fail
          go_big_quiet (fail)
          go_wp2
          go_ret
          exact ⟨by rw [HE.out]; rfl, n + nq, by rw [HW.out, World.drewN_drewN]⟩
      · have hkl : k = l.length := by omega
        have HE : Hid (decide (l = m) = true) := Lib.hid (by have := HT.out; rw [List.take_of_length_le (by omega), List.take_of_length_le (by omega)] at this; simpa using this)
        have hge : ¬ (k : Int) < (l.length : Int) := by omega
        clear hkl
        go_wp2
        go_ret
        exact ⟨by rw [HE.out]; rfl, n, HW.out⟩
  · have hneq : ((l.length : Int) != (m.length : Int)) = true := by simp; omega
    have HE : Hid (decide (l = m) = false) := Lib.hid (by simp; intro e; exact hl (by rw [e]))
    clear hl
    go_enter Tryz.func39, Tryz.ntmps39
    go_wp2
    go_ret
    exact ⟨by rw [HE.out]; rfl, 0, rfl⟩
set_option maxRecDepth 100000 in
set_option maxHeartbeats 2000000 in
theorem item1_yes (key : ByteArray) (la lb : Option Addr) (ca cb : Nat) (e : Ent) (w : World) (ha : RdL w la e.lab) (hb : RdL w lb e.lab) (hn : e.lab.length ≤ 1000000000) :
    Calls Tryz.prog 38 #[.agg #[.string key, .slice la e.lab.length ca, .bool e.mark, .int .u64 e.bits, .bool e.st, .int .i64 e.time, .int .i64 e.stamp], .agg #[.string key, .slice lb e.lab.length cb, .bool e.mark, .int .u64 e.bits, .bool e.st, .int .i64 e.time, .int .i64 e.stamp]] w
      fun en w' => en = .returned (.bool true) ∧ Below w.heap.size w w' := by
  have H := Lib.hid (And.intro ha hb)
  clear ha hb
  go_enter Tryz.func38, Tryz.ntmps38
  have HB : Hid (Below w.heap.size w ((w.alloc (.cells #[.string key, .slice la e.lab.length ca, .bool e.mark, .int .u64 e.bits, .bool e.st, .int .i64 e.time, .int .i64 e.stamp] 40)).alloc (.cells #[.string key, .slice lb e.lab.length cb, .bool e.mark, .int .u64 e.bits, .bool e.st, .int .i64 e.time, .int .i64 e.stamp] 40))) := Lib.hid (((Below.refl _ _).alloc (Nat.le_refl _) _).alloc (by simp) _)
  go_wp2_with (go_at_call 39; refine (sameL_calls la lb ca cb e.lab e.lab _ (H.out.1.below HB.out (Nat.le_refl _)) (H.out.2.below HB.out (Nat.le_refl _)) hn).mono ?_; rintro en w1 ⟨rfl, n, rfl⟩; rw [decide_eq_true (rfl : e.lab = e.lab)])
  go_ret
  exact ⟨rfl, below_drewN HB.out n⟩
theorem it_mk {x y : SI} (h : x.it = y.it) : y.key = x.key ∧ y.e = x.e := by
  obtain ⟨k, a, c, e⟩ := x
  obtain ⟨k', a', c', e'⟩ := y
  simp only [SI.it, It.mk.injEq] at h
  exact ⟨h.1.symm, h.2.symm⟩
theorem map_at {l m : List SI} (h : l.map SI.it = m.map SI.it) {k : Nat} {x : SI} (hx : l[k]? = some x) : ∃ y, m[k]? = some y ∧ y.key = x.key ∧ y.e = x.e := by
  have h1 : (l.map SI.it)[k]? = some x.it := by rw [List.getElem?_map, hx]; rfl
  rw [h, List.getElem?_map] at h1
  cases hy : m[k]? with
  | none => rw [hy] at h1; cases h1
  | some y =>
    rw [hy] at h1
    exact ⟨y, rfl, it_mk (by simpa using h1.symm)⟩
set_option maxRecDepth 100000 in
set_option maxHeartbeats 2000000 in
theorem eqf_yes (a b : Option Addr) (ca cb : Nat) (l m : List SI) (w : World) (ha : RdI w a l) (hb : RdI w b m) (hn : ∀ x ∈ l, x.e.lab.length ≤ 1000000000) (hs : l.length ≤ 1000000000) (he : l.map SI.it = m.map SI.it) :
    Calls Tryz.prog 37 #[.slice a l.length ca, .slice b m.length cb, .func (Fn.func 38) #[] #[]] w
      fun e w' => e = .returned (.bool true) ∧ Below w.heap.size w w' := by
  have hlen : l.length = m.length := by have := congrArg List.length he; simpa using this
  have hneq : ((l.length : Int) != (m.length : Int)) = false := by simp; omega
  have hl1 : l.length ≤ m.length := by omega
  have hl2 : m.length ≤ l.length := by omega
  have H := Lib.hid (And.intro ha (And.intro hb (And.intro hn he)))
  clear ha hb hn he hlen
  go_enter Tryz.func37, Tryz.ntmps37
  go_wp2_with fail
  go_loopw [17] (fun i wr => ∃ k : Nat, k ≤ l.length ∧ i = .int .i64 k ∧ Below w.heap.size w wr) (fun i _ => l.length - (intOf i).toNat)
  case atStart => exact ⟨0, Nat.zero_le _, rfl, Below.refl _ _⟩
  case round =>
    obtain ⟨k, hk, rfl, hbr⟩ := hrel
    have hbs := hbr.size
    have HB := Lib.hid hbr
    clear hbr
    by_cases hlt : k < l.length
    · obtain ⟨x, hx⟩ : ∃ x, l[k]? = some x := ⟨_, List.getElem?_eq_getElem hlt⟩
      obtain ⟨y, hy, ek, ee⟩ := map_at H.out.2.2.2 hx
      obtain ⟨ba, oa, rfl, hla, hta, hca⟩ := (H.out.1.below HB.out (Nat.le_refl _)).at_ hx
      obtain ⟨bb, ob, rfl, hlb, htb, hcb⟩ := (H.out.2.1.below HB.out (Nat.le_refl _)).at_ hy
      have hxm := List.mem_of_getElem? hx
      have hym := List.mem_of_getElem? hy
      have hrx := ((H.out.1.lab x hxm).below HB.out (Nat.le_refl _)).rd
      have hry := ((H.out.2.1.lab y hym).below HB.out (Nat.le_refl _)).rd
      have hnx := H.out.2.2.1 x hxm
      obtain ⟨yk, ya, yc, ye⟩ := y
      dsimp only at ek ee
      subst ek ee
      have HX := Lib.hid (And.intro hrx (And.intro hry hnx))
      have c0 := hca 0 _ rfl
      rw [Nat.add_zero] at c0
      have c1 := hca 1 _ rfl
      have c2 := hca 2 _ rfl
      have c3 := hca 3 _ rfl
      have c4 := hca 4 _ rfl
      have c5 := hca 5 _ rfl
      have c6 := hca 6 _ rfl
      have d0 := hcb 0 _ rfl
      rw [Nat.add_zero] at d0
      have d1 := hcb 1 _ rfl
      have d2 := hcb 2 _ rfl
      have d3 := hcb 3 _ rfl
      have d4 := hcb 4 _ rfl
      have d5 := hcb 5 _ rfl
      have d6 := hcb 6 _ rfl
      have hlt2 : k < m.length := by omega
      obtain ⟨w0, hw0⟩ : ∃ q, q = wr := ⟨_, rfl⟩
      subst hw0
      clear hca hcb hx hy hxm hym hrx hry hnx hta htb
      go_wp2_with fail
      go_at_call 38
      have hb2 : Below w0.heap.size w0 ((w0.alloc (.cells (iB x).toArray 40)).alloc (.cells (iB ⟨x.key, ya, yc, x.e⟩).toArray 40)) := ((Below.refl _ _).alloc (Nat.le_refl _) _).alloc (by simp) _
      refine (item1_yes x.key x.la ya x.lc yc x.e _ (HX.out.1.below hb2 (Nat.le_refl _)) (HX.out.2.1.below hb2 (Nat.le_refl _)) HX.out.2.2).mono ?_
      rintro en w1 ⟨rfl, hb1⟩
      have HB1 : Hid (Below w.heap.size w w1) := Lib.hid ((HB.out.trans (hb2.mono hbs)).trans (hb1.mono (by simp; omega)))
      clear hb1 hb2 c0 c1 c2 c3 c4 c5 c6 d0 d1 d2 d3 d4 d5 d6
      go_wp2
      go_roundw
      case rel => exact ⟨k + 1, by omega, by go_num, HB1.out⟩
      case measure => simp [intOf]; omega
    · go_wp2
      go_ret
      exact ⟨rfl, HB.out⟩
set_option maxRecDepth 100000 in
theorem items_yes (a b : Option Addr) (ca cb : Nat) (l m : List SI) (w : World) (ha : RdI w a l) (hb : RdI w b m) (hn : ∀ x ∈ l, x.e.lab.length ≤ 1000000000) (hs : l.length ≤ 1000000000) (he : l.map SI.it = m.map SI.it) :
    Calls Tryz.prog 12 #[.slice a l.length ca, .slice b m.length cb] w fun e w' => e = .returned (.bool true) ∧ Below w.heap.size w w' := by
  have H := Lib.hid (eqf_yes a b ca cb l m w ha hb hn hs he)
  clear ha hb hn he
  go_enter Tryz.func12, Tryz.ntmps12
  go_wp2_with fail
  go_at_call 37
  refine H.out.mono ?_
  rintro en w1 ⟨rfl, hb1⟩
  have HB := Lib.hid hb1
  clear hb1
  go_wp2
  go_ret
  exact ⟨rfl, HB.out⟩
end Go.Proofs.YtmagojckhfkcdaaGreatDoor.Sk
