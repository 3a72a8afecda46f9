/- Texts of the claim, put together: KqT. -/
import Derived.Test.YtdgfldeeflmnmaaGreatDoorSKqB
import Derived.Test.YtdgfldeeflmnmaaGreatDoorSKiA
namespace Go.Proofs.YtdgfldeeflmnmaaGreatDoor.Sk
open Go Go.RowKit
theorem RdF.of_own {w : World} {base n cap k size : Nat} {T : TypeId} {a : Option Addr} {xs : List Value} (h : w.ownsRow base T size (.slice a n cap) k xs) : RdF w a xs := by
  intro hx
  obtain ⟨g, e, _, ht, hc⟩ := own_at0 h hx
  exact ⟨g, 0, e, ht.lt, fun j u hu => by rw [Nat.zero_add]; exact hc j u hu⟩
theorem RdF.fr {X : Nat → Prop} {w w' : World} {a : Option Addr} {xs : List Value} (h : RdF w a xs) (hf : Fr X w w') (hx : ∀ q, a = some q → ¬ X q.block) : RdF w' a xs := by
  intro hl
  obtain ⟨b, off, e, h1, h2⟩ := h hl
  exact ⟨b, off, e, Nat.lt_of_lt_of_le h1 hf.size, fun j u hu => (hf.cell h1 (hx _ e)).trans (h2 j u hu)⟩
set_option maxRecDepth 100000 in
set_option maxHeartbeats 2000000 in
theorem sameT_calls (a b : Option Addr) (ca cb : Nat) (l m : List B) (w : World) (ha : RdF w a (strF l)) (hb : RdF w b (strF m)) (hn : l.length ≤ 1000000000) :
    Calls Tryz.prog 113 #[.slice a l.length ca, .slice b m.length cb] w fun e w' => e = .returned (.bool (decide (l = m))) ∧ ∃ n, w' = w.drewN n := by
  have HA := Lib.hid ha
  have HB := Lib.hid hb
  clear ha hb
  by_cases hl : l.length = m.length
  · have hneq : ((l.length : Int) != (m.length : Int)) = false := by simp; omega
    have hl1 : l.length ≤ m.length := by omega
    have hl2 : m.length ≤ l.length := by omega
    clear hl
    go_enter Tryz.func113, Tryz.ntmps113
    go_wp2
    go_loopw [5] (fun i wr => ∃ k n : Nat, k ≤ l.length ∧ i = .int .i64 k ∧ Hid (l.take k = m.take k) ∧ Hid (wr = w.drewN n)) (fun i _ => l.length - (intOf i).toNat)
    case atStart => exact ⟨0, 0, Nat.zero_le _, rfl, Lib.hid (by simp), Lib.hid rfl⟩
    case round =>
      obtain ⟨k, n, hk, rfl, HT, HW⟩ := hrel
      by_cases hlt : k < l.length
      · obtain ⟨ba, oa, rfl, hta, hca⟩ := HA.out (by intro e; have := strF_length l; rw [e] at this; simp at this; omega)
        obtain ⟨bb, ob, rfl, htb, hcb⟩ := HB.out (by intro e; have := strF_length m; rw [e] at this; simp at this; omega)
        obtain ⟨x, hx⟩ : ∃ x, l[k]? = some x := ⟨_, List.getElem?_eq_getElem hlt⟩
        obtain ⟨y, hy⟩ : ∃ y, m[k]? = some y := ⟨_, List.getElem?_eq_getElem (by omega)⟩
        have c0 := hca k (encStr x) (by unfold strF; rw [List.getElem?_map, hx]; rfl)
        have d0 := hcb k (encStr y) (by unfold strF; rw [List.getElem?_map, hy]; rfl)
        rw [← show wr.cell? _ = w.cell? _ by rw [HW.out]; rfl] at c0 d0
        have HX := Lib.hid (show _ ∧ _ from ⟨hx, hy⟩)
        have hlt2 : k < m.length := by omega
        clear hx hy hca hcb hta htb
        obtain ⟨xs, hxs⟩ : ∃ q : ByteArray, q = ⟨x.toArray⟩ := ⟨_, rfl⟩
        obtain ⟨ys, hys⟩ : ∃ q : ByteArray, q = ⟨y.toArray⟩ := ⟨_, rfl⟩
        rw [show encStr x = Value.string xs by rw [hxs]] at c0
        rw [show encStr y = Value.string ys by rw [hys]] at d0
        have hxy' : (x = y) = (xs.toList = ys.toList) := by
          rw [hxs, hys, ByteArray.toList_eq, ByteArray.toList_eq]
        clear hxs hys
        by_cases hxy : x = y
        · have hb1 : (xs.toList == ys.toList) = true := beq_iff_eq.2 (by rw [← hxy']; exact hxy)
          clear hxy'
          have HE := Lib.hid hxy
          clear hxy
          go_wp2_with fail
          go_big_quiet (fail)
          go_wp2
          go_roundw
          case rel => exact ⟨k + 1, n + nq, by omega, by go_num, Lib.hid (by rw [take_succ_at HX.out.1, take_succ_at HX.out.2, HT.out, HE.out]), Lib.hid (by rw [HW.out, World.drewN_drewN])⟩
          case measure => simp [intOf]; omega
        · have hb1 : (xs.toList == ys.toList) = false := beq_eq_false_iff_ne.2 (by rw [ne_eq, ← hxy']; exact hxy)
          clear hxy'
          have HE : Hid (decide (l = m) = false) := Lib.hid (by simp; intro e; subst e; have := HX.out.1.symm.trans HX.out.2; cases this; exact hxy rfl)
          clear hxy
          go_wp2_with fail
          go_big_quiet (fail)
          go_wp2
          go_ret
          exact ⟨by rw [HE.out]; rfl, n + nq, by rw [HW.out, World.drewN_drewN]⟩
      · have hkl : k = l.length := by omega
        have HE : Hid (decide (l = m) = true) := Lib.hid (by have := HT.out; rw [List.take_of_length_le (by omega), List.take_of_length_le (by omega)] at this; simpa using this)
        have hge : ¬ (k : Int) < (l.length : Int) := by omega
        clear hkl
        go_wp2
        go_ret
        exact ⟨by rw [HE.out]; rfl, n, HW.out⟩
  · have hneq : ((l.length : Int) != (m.length : Int)) = true := by simp; omega
    have HE : Hid (decide (l = m) = false) := Lib.hid (by simp; intro e; exact hl (by rw [e]))
    clear hl
    go_enter Tryz.func113, Tryz.ntmps113
    go_wp2
    go_ret
    exact ⟨by rw [HE.out]; rfl, 0, rfl⟩
end Go.Proofs.YtdgfldeeflmnmaaGreatDoor.Sk
namespace Go.Proofs.YtdgfldeeflmnmaaGreatDoor.Sk
open Go Go.RowKit
/-- labels with their place -/
structure LL where
  la : Option Addr
  lc : Nat
  lab : List Lab
def llB (x : LL) : Value := .slice x.la x.lab.length x.lc
/-- the slice at a reads as lists of labels -/
structure RdLL (w : World) (a : Option Addr) (l : List LL) : Prop where
  rd : RdF w a (l.map llB)
  lab : ∀ x ∈ l, Ll w x.la x.lc x.lab
theorem RdLL.below {w w' : World} {a : Option Addr} {l : List LL} (h : RdLL w a l) (hb : Below w.heap.size w w') : RdLL w' a l :=
  ⟨h.rd.below hb, fun x hx => (h.lab x hx).below hb (Nat.le_refl _)⟩
theorem Ll.drewN {w : World} {a : Option Addr} {c : Nat} {l : List Lab} (h : Ll w a c l) (n : Nat) : Ll (w.drewN n) a c l := h.below (below_drewN (Below.refl _ _) n) (Nat.le_refl _)
set_option maxRecDepth 100000 in
set_option maxHeartbeats 2000000 in
theorem sameLL_calls (a b : Option Addr) (ca cb : Nat) (l m : List LL) (w : World) (ha : RdLL w a l) (hb : RdLL w b m) (hn : l.length ≤ 1000000000) (hx : ∀ x ∈ l, x.lab.length ≤ 1000000000) :
    Calls Tryz.prog 111 #[.slice a l.length ca, .slice b m.length cb] w fun e w' => e = .returned (.bool (decide (l.map LL.lab = m.map LL.lab))) ∧ ∃ n, w' = w.drewN n := by
  have HA := Lib.hid ha
  have HB := Lib.hid hb
  have HX := Lib.hid hx
  clear ha hb hx
  by_cases hl : l.length = m.length
  · have hneq : ((l.length : Int) != (m.length : Int)) = false := by simp; omega
    have hl1 : l.length ≤ m.length := by omega
    have hl2 : m.length ≤ l.length := by omega
    clear hl
    go_enter Tryz.func111, Tryz.ntmps111
    go_wp2
    go_loopw [5] (fun i wr => ∃ k n : Nat, k ≤ l.length ∧ i = .int .i64 k ∧ Hid ((l.take k).map LL.lab = (m.take k).map LL.lab) ∧ Hid (wr = w.drewN n)) (fun i _ => l.length - (intOf i).toNat)
    case atStart => exact ⟨0, 0, Nat.zero_le _, rfl, Lib.hid (by simp), Lib.hid rfl⟩
    case round =>
      obtain ⟨k, n, hk, rfl, HT, HW⟩ := hrel
      by_cases hlt : k < l.length
      · obtain ⟨x, hx⟩ : ∃ x, l[k]? = some x := ⟨_, List.getElem?_eq_getElem hlt⟩
        obtain ⟨y, hy⟩ : ∃ y, m[k]? = some y := ⟨_, List.getElem?_eq_getElem (by omega)⟩
        obtain ⟨ba, oa, rfl, hta, hca⟩ := HA.out.rd (by intro e; have := List.map_eq_nil_iff.1 e; rw [this] at hlt; simp at hlt)
        obtain ⟨bb, ob, rfl, htb, hcb⟩ := HB.out.rd (by intro e; have := List.map_eq_nil_iff.1 e; rw [this] at hl1; simp at hl1; rw [hl1] at hlt; simp at hlt)
        have c0 := hca k (llB x) (by rw [List.getElem?_map, hx]; rfl)
        have d0 := hcb k (llB y) (by rw [List.getElem?_map, hy]; rfl)
        rw [← show wr.cell? _ = w.cell? _ by rw [HW.out]; rfl] at c0 d0
        have hrx : Ll wr x.la x.lc x.lab := by rw [HW.out]; exact (HA.out.lab x (List.mem_of_getElem? hx)).drewN n
        have hry : Ll wr y.la y.lc y.lab := by rw [HW.out]; exact (HB.out.lab y (List.mem_of_getElem? hy)).drewN n
        have hcall := fun q => sameL_calls x.la y.la x.lc y.lc x.lab y.lab (wr.drewN q) (hrx.drewN q).rd (hry.drewN q).rd (HX.out x (List.mem_of_getElem? hx))
        have HC := Lib.hid hcall
        have HXY := Lib.hid (show _ ∧ _ from ⟨hx, hy⟩)
        have hlt2 : k < m.length := by omega
        unfold llB at c0 d0
        clear hx hy hca hcb hta htb hrx hry hcall
        obtain ⟨bv, hbv⟩ : ∃ bv, bv = decide (x.lab = y.lab) := ⟨_, rfl⟩
        rw [← hbv] at HC
        cases bv with
        | true =>
          have HE : Hid (x.lab = y.lab) := Lib.hid (by simpa using hbv.symm)
          clear hbv
          go_wp2_with fail
          go_big_quiet ((go_at_call 48; exact Calls.quiet_of (HC.out _)))
          go_wp2
          go_roundw
          case rel => exact ⟨k + 1, n + nq, by omega, by go_num, Lib.hid (by rw [take_succ_at HXY.out.1, take_succ_at HXY.out.2, List.map_append, List.map_append, HT.out]; simp [HE.out]), Lib.hid (by rw [HW.out, World.drewN_drewN])⟩
          case measure => simp [intOf]; omega
        | false =>
          have HE : Hid (decide (l.map LL.lab = m.map LL.lab) = false) := Lib.hid (by
            simp
            intro e
            have h1 : (l.map LL.lab)[k]? = some x.lab := by rw [List.getElem?_map, HXY.out.1]; rfl
            have h2 : (m.map LL.lab)[k]? = some y.lab := by rw [List.getElem?_map, HXY.out.2]; rfl
            rw [e, h2] at h1
            have := Option.some.inj h1
            simp [this] at hbv)
          clear hbv
          go_wp2_with fail
          go_big_quiet ((go_at_call 48; exact Calls.quiet_of (HC.out _)))
          go_wp2
          go_ret
          exact ⟨by rw [HE.out]; rfl, n + nq, by rw [HW.out, World.drewN_drewN]⟩
      · have hkl : k = l.length := by omega
        have HE : Hid (decide (l.map LL.lab = m.map LL.lab) = true) := Lib.hid (by have := HT.out; rw [List.take_of_length_le (by omega), List.take_of_length_le (by omega)] at this; simpa using this)
        have hge : ¬ (k : Int) < (l.length : Int) := by omega
        clear hkl
        go_wp2
        go_ret
        exact ⟨by rw [HE.out]; rfl, n, HW.out⟩
  · have hneq : ((l.length : Int) != (m.length : Int)) = true := by simp; omega
    have HE : Hid (decide (l.map LL.lab = m.map LL.lab) = false) := Lib.hid (by simp; intro e; have := congrArg List.length e; simp at this; exact hl this)
    clear hl
    go_enter Tryz.func111, Tryz.ntmps111
    go_wp2
    go_ret
    exact ⟨by rw [HE.out]; rfl, 0, rfl⟩
end Go.Proofs.YtdgfldeeflmnmaaGreatDoor.Sk
