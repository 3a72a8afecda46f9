/- Texts of the claim, put together: KRg. -/
import Derived.Test.YtdgfldeeflmnmaaGreatDoorSKRd
import Derived.Test.YtdgfldeeflmnmaaGreatDoorSKRe
namespace Go.Proofs.YtdgfldeeflmnmaaGreatDoor.Sk
open Go Go.RowKit
/-- a number that is nought just if two lists of labels are the same -/
def CmPost (l m : List Lab) (w : World) (e : Ending) (w' : World) : Prop := (∃ r : Int, e = .returned (.int .i64 r) ∧ ((r == 0) = decide (l = m))) ∧ ∃ n, w' = w.drewN n
theorem ba_ne {a b : ByteArray} (h : a ≠ b) : (a.toList == b.toList) = false := by
  rw [ByteArray.toList_eq, ByteArray.toList_eq, beq_eq_false_iff_ne]
  exact fun e => h (ByteArray.ext (Array.toList_inj.1 e))
theorem lab_ne {l m : List Lab} {k : Nat} {x y : Lab} (hx : l[k]? = some x) (hy : m[k]? = some y) (h : x ≠ y) : decide (l = m) = false :=
  decide_eq_false fun e => by rw [e, hy] at hx; exact h (Option.some.inj hx).symm
set_option maxRecDepth 100000 in
set_option maxHeartbeats 4000000 in
theorem rcompare_calls (a b : Option Addr) (ca cb : Nat) (l m : List Lab) (w : World) (ha : RdL w a l) (hb : RdL w b m) (hl : l.length ≤ 1000000000) (hm : m.length ≤ 1000000000)
    (zl : ∀ x ∈ l, x.1.size ≤ 4611686018427387904 ∧ x.2.size ≤ 4611686018427387904) (zm : ∀ x ∈ m, x.1.size ≤ 4611686018427387904 ∧ x.2.size ≤ 4611686018427387904) :
    Calls Tryz.prog 161 #[.slice a l.length ca, .slice b m.length cb] w (CmPost l m w) := by
  have HS := Lib.hid (And.intro ha (And.intro hb (And.intro zl zm)))
  clear ha hb zl zm
  go_enter Tryz.func161, Tryz.ntmps161
  go_wp2_with fail
  go_loopw [5] (fun i wr => ∃ k : Nat, k ≤ l.length ∧ k ≤ m.length ∧ i = .int .i64 k ∧ l.take k = m.take k ∧ ∃ n, wr = w.drewN n) (fun i _ => l.length - (intOf i).toNat)
  case atStart => exact ⟨0, Nat.zero_le _, Nat.zero_le _, rfl, rfl, 0, rfl⟩
  case round =>
    obtain ⟨k, hkl, hkm, rfl, he, n, hw⟩ := hrel
    obtain ⟨w1, hw1⟩ : ∃ q, q = wr := ⟨_, rfl⟩
    subst hw1
    have HE := Lib.hid (And.intro he hw)
    clear he
    by_cases hin : k < l.length ∧ k < m.length
    · obtain ⟨h1, h2⟩ := hin
      obtain ⟨b1, o1, rfl, t1, q1⟩ := HS.out.1 (by intro e; subst e; simp at h1)
      obtain ⟨b2, o2, rfl, t2, q2⟩ := HS.out.2.1 (by intro e; subst e; simp at h2)
      obtain ⟨x, hx⟩ : ∃ x, l[k]? = some x := ⟨_, List.getElem?_eq_getElem h1⟩
      obtain ⟨y, hy⟩ : ∃ y, m[k]? = some y := ⟨_, List.getElem?_eq_getElem h2⟩
      obtain ⟨c0, c1⟩ := q1 k x hx
      obtain ⟨e0, e1⟩ := q2 k y hy
      have hb : Below w.heap.size w w1 := by rw [hw]; exact below_drewN (Below.refl _ _) n
      rw [← hb.cell (by exact t1)] at c0 c1
      rw [← hb.cell (by exact t2)] at e0 e1
      obtain ⟨zx1, zx2⟩ := HS.out.2.2.1 x (List.mem_of_getElem? hx)
      obtain ⟨zy1, zy2⟩ := HS.out.2.2.2 y (List.mem_of_getElem? hy)
      obtain ⟨n1, v1⟩ := x
      obtain ⟨n2, v2⟩ := y
      dsimp only at c0 c1 e0 e1 zx1 zx2 zy1 zy2
      have hbl1 : b1 < w1.heap.size := by have := t1; have := hb.size; omega
      have hbl2 : b2 < w1.heap.size := by have := t2; have := hb.size; omega
      have HXY := Lib.hid (And.intro hx hy)
      have hL1 : ∀ wx, Calls Tryz.prog 181 #[.string n1, .string n2] wx (fun e w' => e = .returned (.bool (decide (d n1 < d n2))) ∧ ∃ n, w' = wx.drewN n) := fun wx => rless_calls n1 n2 wx zx1 zy1
      have hL2 : ∀ wx, Calls Tryz.prog 181 #[.string v1, .string v2] wx (fun e w' => e = .returned (.bool (decide (d v1 < d v2))) ∧ ∃ n, w' = wx.drewN n) := fun wx => rless_calls v1 v2 wx zx2 zy2
      have f1 : decide (k < l.length) = true := decide_eq_true h1
      have f2 : decide (k < m.length) = true := decide_eq_true h2
      clear q1 q2 t1 t2 hb hx hy zx1 zx2 zy1 zy2 hw
      by_cases p1 : d n1 < d n2
      · rw [decide_eq_true p1] at hL1
        have HL1 := Lib.hid hL1
        have HN : Hid (decide (l = m) = false) := Lib.hid (lab_ne HXY.out.1 HXY.out.2 (fun e => by injection e with e _; rw [e] at p1; exact List.lt_irrefl _ p1))
        clear p1 hL1 hL2
        go_wp2_with fail
        go_quiet ((go_at_call 181; exact Calls.quiet_of (HL1.out _)))
        go_wp2
        go_ret
        exact ⟨⟨-1, rfl, by rw [HN.out]; rfl⟩, _, by rw [HE.out.2]; exact World.drewN_drewN _ _ _⟩
      · rw [decide_eq_false p1] at hL1
        have HL1 := Lib.hid hL1
        clear p1 hL1
        by_cases en : n1 = n2
        · have q0 : (n1.toList == n2.toList) = true := by rw [en]; simp
          by_cases p2 : d v1 < d v2
          · rw [decide_eq_true p2] at hL2
            have HL2 := Lib.hid hL2
            have HN : Hid (decide (l = m) = false) := Lib.hid (lab_ne HXY.out.1 HXY.out.2 (fun e => by injection e with _ e; rw [e] at p2; exact List.lt_irrefl _ p2))
            clear p2 hL2 en
            go_wp2_with fail
            go_quiet ((go_at_call 181; first | with_reducible exact Calls.quiet_of (HL1.out _) | with_reducible exact Calls.quiet_of (HL2.out _)))
            go_wp2
            go_ret
            exact ⟨⟨-1, rfl, by rw [HN.out]; rfl⟩, _, by rw [HE.out.2]; exact World.drewN_drewN _ _ _⟩
          · rw [decide_eq_false p2] at hL2
            have HL2 := Lib.hid hL2
            clear p2 hL2
            by_cases ev : v1 = v2
            · have q1 : (v1.toList == v2.toList) = true := by rw [ev]; simp
              have HT : Hid (l.take (k + 1) = m.take (k + 1)) := Lib.hid (by rw [List.take_add_one, List.take_add_one, HE.out.1, HXY.out.1, HXY.out.2, en, ev])
              clear en ev
              go_wp2_with fail
              go_quiet ((go_at_call 181; first | with_reducible exact Calls.quiet_of (HL1.out _) | with_reducible exact Calls.quiet_of (HL2.out _)))
              go_wp2_with fail
              go_quiet (fail)
              go_wp2
              go_roundw
              case rel => exact ⟨k + 1, h1, h2, by go_num, HT.out, _, by rw [HE.out.2, World.drewN_drewN]⟩
              case measure => simp [intOf]; omega
            · have q1 : (v1.toList == v2.toList) = false := ba_ne ev
              have HN : Hid (decide (l = m) = false) := Lib.hid (lab_ne HXY.out.1 HXY.out.2 (fun e => by injection e with _ e; exact ev e))
              clear en ev
              go_wp2_with fail
              go_quiet ((go_at_call 181; first | with_reducible exact Calls.quiet_of (HL1.out _) | with_reducible exact Calls.quiet_of (HL2.out _)))
              go_wp2_with fail
              go_quiet (fail)
              go_wp2
              go_ret
              exact ⟨⟨1, rfl, by rw [HN.out]; rfl⟩, _, by rw [HE.out.2, World.drewN_drewN]; exact World.drewN_drewN _ _ _⟩
        · have q0 : (n1.toList == n2.toList) = false := ba_ne en
          have HN : Hid (decide (l = m) = false) := Lib.hid (lab_ne HXY.out.1 HXY.out.2 (fun e => by injection e with e _; exact en e))
          clear en hL2
          go_wp2_with fail
          go_quiet ((go_at_call 181; exact Calls.quiet_of (HL1.out _)))
          go_wp2_with fail
          go_quiet (fail)
          go_wp2
          go_ret
          exact ⟨⟨1, rfl, by rw [HN.out]; rfl⟩, _, by rw [HE.out.2, World.drewN_drewN]; exact World.drewN_drewN _ _ _⟩
    · have hend : Hid (decide (k < l.length) = false ∨ (decide (k < l.length) = true ∧ decide (k < m.length) = false)) := Lib.hid (by simp; omega)
      have HQ : Hid (decide (l = m) = decide (l.length = m.length)) := Lib.hid (by
        rw [decide_eq_decide]
        constructor
        · intro e; rw [e]
        · intro e
          have h := HE.out.1
          rw [List.take_of_length_le (by omega), List.take_of_length_le (by omega)] at h
          exact h)
      have HWN : Hid (∃ n, w1 = w.drewN n) := Lib.hid ⟨n, hw⟩
      clear hin hw
      rcases (show l.length < m.length ∨ m.length < l.length ∨ l.length = m.length by omega) with h | h | h
      · have g1 : decide (l.length < m.length) = true := decide_eq_true h
        have HN : Hid (decide (l.length = m.length) = false) := Lib.hid (decide_eq_false (by omega))
        clear h
        rcases hend.out with f1 | ⟨f1, f2⟩
        all_goals
          go_wp2
          go_ret
          exact ⟨⟨-1, rfl, by rw [HQ.out, HN.out]; rfl⟩, HWN.out⟩
      · have g1 : decide (l.length < m.length) = false := decide_eq_false (by omega)
        have g2 : decide (m.length < l.length) = true := decide_eq_true h
        have HN : Hid (decide (l.length = m.length) = false) := Lib.hid (decide_eq_false (by omega))
        clear h
        rcases hend.out with f1 | ⟨f1, f2⟩
        all_goals
          go_wp2
          go_ret
          exact ⟨⟨1, rfl, by rw [HQ.out, HN.out]; rfl⟩, HWN.out⟩
      · have g1 : decide (l.length < m.length) = false := decide_eq_false (by omega)
        have g2 : decide (m.length < l.length) = false := decide_eq_false (by omega)
        have HN : Hid (decide (l.length = m.length) = true) := Lib.hid (decide_eq_true h)
        clear h
        rcases hend.out with f1 | ⟨f1, f2⟩
        all_goals
          go_wp2
          go_ret
          exact ⟨⟨0, rfl, by rw [HQ.out, HN.out]; rfl⟩, HWN.out⟩
end Go.Proofs.YtdgfldeeflmnmaaGreatDoor.Sk
namespace Go.Proofs.YtdgfldeeflmnmaaGreatDoor.Sk
open Go Go.RowKit
/-- labels whose strings are not longer than any machine's -/
def LabZ (l : List Lab) : Prop := ∀ x ∈ l, x.1.size ≤ 4611686018427387904 ∧ x.2.size ≤ 4611686018427387904
set_option maxRecDepth 100000 in
set_option maxHeartbeats 4000000 in
theorem alike_calls (k1 k2 : ByteArray) (a b : Option Addr) (ca cb : Nat) (e f : Ent) (w : World) (ha : RdL w a e.lab) (hb : RdL w b f.lab) (hl : e.lab.length ≤ 1000000000) (hm : f.lab.length ≤ 1000000000) (zl : LabZ e.lab) (zm : LabZ f.lab) :
    Calls Tryz.prog 125 #[.agg #[.string k1, .slice a e.lab.length ca, .bool e.mark, .int .u64 e.bits, .bool e.st, .int .i64 e.time, .int .i64 e.stamp], .agg #[.string k2, .slice b f.lab.length cb, .bool f.mark, .int .u64 f.bits, .bool f.st, .int .i64 f.time, .int .i64 f.stamp]] w
      (TdPost (.bool (decide (k1 = k2 ∧ e.lab = f.lab))) w) := by
  have HS := Lib.hid (And.intro ha (And.intro hb (And.intro zl zm)))
  obtain ⟨w2, hw2⟩ : ∃ q, q = (w.alloc (.cells #[.string k1, .slice a e.lab.length ca, .bool e.mark, .int .u64 e.bits, .bool e.st, .int .i64 e.time, .int .i64 e.stamp] 70)).alloc (.cells #[.string k2, .slice b f.lab.length cb, .bool f.mark, .int .u64 f.bits, .bool f.st, .int .i64 f.time, .int .i64 f.stamp] 70) := ⟨_, rfl⟩
  have hb2 : Below w.heap.size w w2 := by rw [hw2]; exact ((Below.refl _ _).alloc (Nat.le_refl _) _).alloc (by simp) _
  have HB2 := Lib.hid hb2
  clear ha hb zl zm hb2
  by_cases hk : k1 = k2
  · have hq : (k1.toList == k2.toList) = true := by rw [hk]; simp
    have HD : Hid (decide (k1 = k2 ∧ e.lab = f.lab) = decide (e.lab = f.lab)) := Lib.hid (by rw [decide_eq_decide]; exact ⟨fun h => h.2, fun h => ⟨hk, h⟩⟩)
    have hcall := rcompare_calls a b ca cb e.lab f.lab w2 (HS.out.1.below HB2.out (Nat.le_refl _)) (HS.out.2.1.below HB2.out (Nat.le_refl _)) hl hm HS.out.2.2.1 HS.out.2.2.2
    rw [hw2] at hcall
    have HC := Lib.hid hcall
    clear hk hcall
    go_enter Tryz.func125, Tryz.ntmps125
    go_wp2_with fail
    go_at_call 161
    refine HC.out.mono ?_
    rintro en w3 ⟨⟨r, rfl, hr⟩, n, hw3⟩
    rw [← hw2] at hw3
    have HR := Lib.hid (And.intro hr (show Below w.heap.size w w3 by rw [hw3]; exact below_drewN HB2.out n))
    clear hr hw3 hw2
    go_wp2
    go_ret
    exact ⟨ret_bool (by rw [HD.out, ← HR.out.1]), HR.out.2⟩
  · have hq : (k1.toList == k2.toList) = false := ba_ne hk
    have HD : Hid (decide (k1 = k2 ∧ e.lab = f.lab) = false) := Lib.hid (decide_eq_false fun h => hk h.1)
    have HB3 := Lib.hid (hw2 ▸ HB2.out)
    clear hk hw2 HB2
    go_enter Tryz.func125, Tryz.ntmps125
    go_wp2
    go_ret
    exact ⟨ret_bool HD.out.symm, HB3.out⟩
set_option maxRecDepth 100000 in
set_option maxHeartbeats 4000000 in
theorem rr38_calls (key : ByteArray) (la : Option Addr) (lc : Nat) (e : Ent) (w : World) (hk : key.size ≤ 1100000) (h : RdL w la e.lab) (hn : e.lab.length ≤ 1000000000) (hsz : LabZ e.lab) :
    Calls Tryz.prog 71 #[.agg #[.string key, .slice la e.lab.length lc, .bool e.mark, .int .u64 e.bits, .bool e.st, .int .i64 e.time, .int .i64 e.stamp]] w
      (TdPost (.bool (itemRight (d key) e)) w) := by
  obtain ⟨lab, mark, bits, st, time, stamp⟩ := e
  dsimp only at h hn hsz ⊢
  have HIR : Hid (itemRight (d key) ⟨lab, mark, bits, st, time, stamp⟩ = ((readKey (d key)).isSome && labRight lab && decide (0 ≤ stamp ∧ stamp ≤ 562949953421313) && (!mark || (decide (bits = 0) && !st)) && (st || decide (time = 0)))) := Lib.hid rfl
  have H := Lib.hid (And.intro h hsz)
  clear h hsz
  go_enter Tryz.func71, Tryz.ntmps71
  go_wp2_with fail
  go_at_call 116
  obtain ⟨w0, hw0⟩ : ∃ q, q = w.alloc (.cells #[.string key, .slice la lab.length lc, .bool mark, .int .u64 bits, .bool st, .int .i64 time, .int .i64 stamp] 70) := ⟨_, rfl⟩
  have hblk0 : w0.heap[w.heap.size]? = some (.cells #[.string key, .slice la lab.length lc, .bool mark, .int .u64 bits, .bool st, .int .i64 time, .int .i64 stamp] 70 (0, 0)) := by rw [hw0]; exact heap_alloc_new w _
  have hb0 : Below w.heap.size w w0 := by rw [hw0]; exact (Below.refl _ _).alloc (Nat.le_refl _) _
  rw [← hw0]
  obtain ⟨g, hg⟩ : ∃ g, g = w.heap.size := ⟨_, rfl⟩
  rw [← hg] at hblk0 ⊢
  have H0 := Lib.hid (And.intro hblk0 (And.intro hb0 hg))
  clear hw0 hblk0 hb0 hg
  refine (rreadkey_calls key _ hk).mono ?_
  rintro en w1 ⟨⟨j, ja, jn, jc, er, rfl, her⟩, hb1⟩
  have hbk1 := (hb1.block g (Array.getElem?_eq_some_iff.1 H0.out.1).1).trans H0.out.1
  have hbw1 := H0.out.2.1.trans (hb1.mono H0.out.2.1.size)
  obtain ⟨w2, hw2⟩ : ∃ q, q = w1.alloc (.cells #[.string j, .slice ja jn jc] 86) := ⟨_, rfl⟩
  have hb12 : Below w1.heap.size w1 w2 := by rw [hw2]; exact (Below.refl _ _).alloc (Nat.le_refl _) _
  have hbk2 := (hb12.block g (Array.getElem?_eq_some_iff.1 hbk1).1).trans hbk1
  have hbw2 := hbw1.trans (hb12.mono hbw1.size)
  have HER := Lib.hid (And.intro her (And.intro hbk2 hbw2))
  have hcall := rrightG_calls la lc lab w2 (H.out.1.below hbw2 (Nat.le_refl _)) hn H.out.2
  have HC := Lib.hid hcall
  have c1 := bk_cell hbk2 1 _ rfl
  clear her hb1 hbk1 hbw1 hb12 hbk2 hbw2 hcall
  cases hrk : (readKey (d key)).isSome with
  | false =>
    have h0 : (er != 0) = true := by have := HER.out.1.trans hrk; simpa using this
    have HRK := Lib.hid hrk
    have HB2 : Hid (Below w.heap.size w (w1.alloc (.cells #[.string j, .slice ja jn jc] 86))) := Lib.hid (by rw [← hw2]; exact HER.out.2.2)
    clear hrk hw2
    go_wp2
    go_ret
    exact ⟨ret_bool (by rw [HIR.out, HRK.out]; simp), HB2.out⟩
  | true =>
  have h0 : (er != 0) = false := by have := HER.out.1.trans hrk; simpa using this
  have HRK := Lib.hid hrk
  rw [hw2] at HC c1
  clear hrk
  go_wp2_with fail
  go_at_call 117
  refine HC.out.mono ?_
  rintro en w3 ⟨rfl, hb3⟩
  rw [← hw2] at hb3
  have hbk3 := (hb3.block g (Array.getElem?_eq_some_iff.1 HER.out.2.1).1).trans HER.out.2.1
  have HB2 := Lib.hid (HER.out.2.2.trans (hb3.mono HER.out.2.2.size))
  have e2 := bk_cell hbk3 2 _ rfl
  have e3 := bk_cell hbk3 3 _ rfl
  have e4 := bk_cell hbk3 4 _ rfl
  have e5 := bk_cell hbk3 5 _ rfl
  have e6 := bk_cell hbk3 6 _ rfl
  clear hw2 hb3 hbk3 HC HER c1 h0
  cases hlr : labRight lab with
  | false =>
    have HLR := Lib.hid hlr
    clear hlr
    go_wp2
    go_ret
    exact ⟨ret_bool (by rw [HIR.out, HLR.out]; simp), HB2.out⟩
  | true =>
  have HLR := Lib.hid hlr
  clear hlr
  rcases (show stamp < 0 ∨ (0 ≤ stamp ∧ 562949953421313 < stamp) ∨ (0 ≤ stamp ∧ stamp ≤ 562949953421313) by omega) with hs | ⟨hs1, hs2⟩ | ⟨hs1, hs2⟩
  · have HS : Hid (decide (0 ≤ stamp ∧ stamp ≤ 562949953421313) = false) := Lib.hid (decide_eq_false (by omega))
    go_wp2
    go_ret
    exact ⟨ret_bool (by rw [HIR.out, HS.out]; simp), HB2.out⟩
  · have HS : Hid (decide (0 ≤ stamp ∧ stamp ≤ 562949953421313) = false) := Lib.hid (decide_eq_false (by omega))
    go_wp2
    go_ret
    exact ⟨ret_bool (by rw [HIR.out, HS.out]; simp), HB2.out⟩
  have HS : Hid (decide (0 ≤ stamp ∧ stamp ≤ 562949953421313) = true) := Lib.hid (decide_eq_true ⟨hs1, hs2⟩)
  have HF : Hid (itemRight (d key) ⟨lab, mark, bits, st, time, stamp⟩ = ((!mark || (decide (bits = 0) && !st)) && (st || decide (time = 0)))) := Lib.hid (by rw [HIR.out, HRK.out, HLR.out, HS.out]; simp)
  rcases (show (bits != 0) = true ∨ (bits != 0) = false by cases (bits != 0) <;> simp) with hb | hb
  all_goals
    rcases (show (time == 0) = true ∨ (time == 0) = false by cases (time == 0) <;> simp) with ht | ht
  all_goals
    have HBT := Lib.hid (And.intro hb ht)
    cases mark <;> cases st
  all_goals
    go_wp2
    go_ret
    exact ⟨ret_bool (by rw [HF.out]; have h1 := HBT.out.1; have h2 := HBT.out.2; simp at h1 h2; first | (simp [h1, h2]; done) | simp_all), HB2.out⟩
end Go.Proofs.YtdgfldeeflmnmaaGreatDoor.Sk
namespace Go.Proofs.YtdgfldeeflmnmaaGreatDoor.Sk
open Go Go.RowKit
theorem isT_of' {w : World} {b : Nat} {o : Obj} (h : w.heap[b]? = some o) : b < w.heap.size := (Array.getElem?_eq_some_iff.1 h).1
set_option maxRecDepth 100000 in
set_option maxHeartbeats 2000000 in
theorem theirs_calls (key : ByteArray) (la : Option Addr) (n lc : Nat) (mk sd : Bool) (bt tm sp : Int) (w : World) :
    Calls Tryz.prog 26 #[.agg #[.string key, .slice la n lc, .bool mk, .int .u64 bt, .bool sd, .int .i64 tm, .int .i64 sp]] w
      (TdPost (.agg #[.string key, .slice la n lc, .bool mk, .int .u64 bt, .bool sd, .int .i64 tm, .int .i64 sp]) w) := by
  go_enter Tryz.func26, Tryz.ntmps26
  go_wp2
  refine bodyPost_ret (v := .agg #[.string key, .slice la n lc, .bool mk, .int .u64 bt, .bool sd, .int .i64 tm, .int .i64 sp]) (by simp [results, Tryz.results26, go_sem]) rfl ⟨rfl, ?_⟩
  exact ((Below.refl _ _).alloc (Nat.le_refl _) _).alloc (by simp) _
set_option maxRecDepth 100000 in
set_option maxHeartbeats 4000000 in
theorem same_yes (key : ByteArray) (a b : Option Addr) (ca cb : Nat) (e : Ent) (w : World) (ha : RdL w a e.lab) (hb : RdL w b e.lab) (hl : e.lab.length ≤ 1000000000) (zl : LabZ e.lab) :
    Calls Tryz.prog 78 #[.agg #[.string key, .slice a e.lab.length ca, .bool e.mark, .int .u64 e.bits, .bool e.st, .int .i64 e.time, .int .i64 e.stamp], .agg #[.string key, .slice b e.lab.length cb, .bool e.mark, .int .u64 e.bits, .bool e.st, .int .i64 e.time, .int .i64 e.stamp]] w
      (TdPost (.bool true) w) := by
  obtain ⟨w1, hw1⟩ : ∃ q, q = w.alloc (.cells #[.string key, .slice a e.lab.length ca, .bool e.mark, .int .u64 e.bits, .bool e.st, .int .i64 e.time, .int .i64 e.stamp] 70) := ⟨_, rfl⟩
  obtain ⟨w2, hw2⟩ : ∃ q, q = w1.alloc (.cells #[.string key, .slice b e.lab.length cb, .bool e.mark, .int .u64 e.bits, .bool e.st, .int .i64 e.time, .int .i64 e.stamp] 70) := ⟨_, rfl⟩
  have hz1 : w1.heap.size = w.heap.size + 1 := by rw [hw1]; simp
  have hb1 : Below w.heap.size w w1 := by rw [hw1]; exact (Below.refl _ _).alloc (Nat.le_refl _) _
  have hb2 : Below w1.heap.size w1 w2 := by rw [hw2]; exact (Below.refl _ _).alloc (Nat.le_refl _) _
  have hbk1 : w2.heap[w.heap.size]? = some (.cells #[.string key, .slice a e.lab.length ca, .bool e.mark, .int .u64 e.bits, .bool e.st, .int .i64 e.time, .int .i64 e.stamp] 70 (0, 0)) := (hb2.block _ (by omega)).trans (by rw [hw1]; exact heap_alloc_new w _)
  have hbk2 : w2.heap[w.heap.size + 1]? = some (.cells #[.string key, .slice b e.lab.length cb, .bool e.mark, .int .u64 e.bits, .bool e.st, .int .i64 e.time, .int .i64 e.stamp] 70 (0, 0)) := by rw [← hz1, hw2]; exact heap_alloc_new w1 _
  have hbw := Bthen hb1 hb2
  have hcall := alike_calls key key a b ca cb e e w2 (ha.below hbw (Nat.le_refl _)) (hb.below hbw (Nat.le_refl _)) hl hl zl zl
  rw [decide_eq_true (show key = key ∧ e.lab = e.lab from ⟨rfl, rfl⟩)] at hcall
  have HC := Lib.hid hcall
  have H2 := Lib.hid (And.intro hbk1 (And.intro hbk2 hbw))
  rw [hw1] at hw2
  clear hcall hbk1 hbk2 hbw hb1 hb2 hz1 hw1 ha hb hl zl
  go_enter Tryz.func78, Tryz.ntmps78
  go_wp2_with fail
  go_at_call 125
  rw [← hw2]
  refine HC.out.mono ?_
  rintro en w3 ⟨rfl, hb3⟩
  have k1 := (hb3.block _ (isT_of' H2.out.1)).trans H2.out.1
  have k2 := (hb3.block _ (isT_of' H2.out.2.1)).trans H2.out.2.1
  have HB3 := Lib.hid (H2.out.2.2.trans (hb3.mono H2.out.2.2.size))
  have c2 := bk_cell k1 2 _ rfl
  have c3 := bk_cell k1 3 _ rfl
  have c4 := bk_cell k1 4 _ rfl
  have c5 := bk_cell k1 5 _ rfl
  have c6 := bk_cell k1 6 _ rfl
  have e2 := bk_cell k2 2 _ rfl
  have e3 := bk_cell k2 3 _ rfl
  have e4 := bk_cell k2 4 _ rfl
  have e5 := bk_cell k2 5 _ rfl
  have e6 := bk_cell k2 6 _ rfl
  clear k1 k2 hb3 hw2
  go_wp2
  go_ret
  exact ⟨rfl, HB3.out⟩
end Go.Proofs.YtdgfldeeflmnmaaGreatDoor.Sk
