/- Texts of the claim, put together: TqA. -/
import Derived.Test.YtimahlimmblgkaaGreatDoorPTmA
import Derived.Test.YtimahlimmblgkaaGreatDoorPBaC
import Derived.BigGuardPart
namespace Go.Proofs.YtimahlimmblgkaaGreatDoor.Sy
open Go Go.RowKit
/-- what a tree tells, as a value -/
def fV (f : F) : Value := .agg #[.int .i64 f.depth, .int .i64 f.groups, .bool f.nul, .bool f.shaped, .bool f.firm]
theorem kind_cases (k : Int) : k = 1 ∨ k = 2 ∨ k = 3 ∨ k = 4 ∨ k = 6 ∨ k = 5 ∨ ((k == 1) = false ∧ (k == 2) = false ∧ (k == 3) = false ∧ (k == 4) = false ∧ (k == 6) = false ∧ (k == 5) = false) := by
  simp only [beq_eq_false_iff_ne]; omega
set_option maxRecDepth 100000 in
set_option maxHeartbeats 8000000 in
theorem shaped_calls (k : Int) (sa : Option Addr) (sc : Nat) (s : Rs.S) (mn mx : Int) (lz : Bool) (na : Option Addr) (nc n : Nat) (w : World) (hs : Sl w sa sc s) (hsl : s.length < 4611686018427387904) (hn : n ≤ 1000000000) :
    Calls Tryz.prog 74 #[.agg #[.int .u8 k, .slice sa s.length sc, .int .i64 mn, .int .i64 mx, .bool lz, .slice na n nc]] w fun e w' => e = .returned (.bool (shapedN k s mn mx lz n)) ∧ Below w.heap.size w w' := by
  have HS := Lib.hid hs
  obtain ⟨m, hm⟩ : ∃ m, m = s.length := ⟨_, rfl⟩
  have HM := Lib.hid hm
  rw [← hm] at hsl ⊢
  clear hs hm
  have hRb : Hid (Below w.heap.size w w) := Lib.hid (Below.refl _ _)
  have hcall : Hid (∀ W, Below w.heap.size w W → Calls Tryz.prog 100 #[.slice sa m sc] W fun e w' => e = .returned (.bool (Rs.right s)) ∧ Below W.heap.size W w') := Lib.hid (fun W hb => by
    rw [HM.out]; exact right_calls sa sc s W (HS.out.below hb).rd (by rw [← HM.out]; omega))
  obtain ⟨p, hp⟩ : ∃ p, p = (decide (mn = 0) && decide (mx = 0) && !lz) := ⟨_, rfl⟩
  have HP := Lib.hid hp
  go_enter Tryz.func74, Tryz.ntmps74
  go_upto_region 1 with fail
  go_cut [3] (fun s3 wx => s3 = .bool p ∧ Below w.heap.size w wx ∧ wx.heap[w.heap.size]? = some (.cells #[.int .u8 k, .slice sa m sc, .int .i64 mn, .int .i64 mx, .bool lz, .slice na n nc] 27 (0, 0)))
  case first =>
    have c2 : (w.alloc (.cells #[.int .u8 k, .slice sa m sc, .int .i64 mn, .int .i64 mx, .bool lz, .slice na n nc] 27)).heap[w.heap.size]? = some (.cells #[.int .u8 k, .slice sa m sc, .int .i64 mn, .int .i64 mx, .bool lz, .slice na n nc] 27 (0, 0)) := heap_alloc_new w _
    have HC := Lib.hid c2
    clear c2
    by_cases h1 : mn = 0
    · subst h1
      by_cases h2 : mx = 0
      · subst h2
        cases lz
        · go_wp2_with fail
          go_meet
          exact ⟨by rw [HP.out]; rfl, (Below.refl _ _).alloc (Nat.le_refl _) _, HC.out⟩
        · go_wp2_with fail
          go_meet
          exact ⟨by rw [HP.out]; rfl, (Below.refl _ _).alloc (Nat.le_refl _) _, HC.out⟩
      · have h2' : (mx == 0) = false := beq_eq_false_iff_ne.2 h2
        go_wp2_with fail
        go_meet
        exact ⟨by rw [HP.out]; simp [h2], (Below.refl _ _).alloc (Nat.le_refl _) _, HC.out⟩
    · have h1' : (mn == 0) = false := beq_eq_false_iff_ne.2 h1
      go_wp2_with fail
      go_meet
      exact ⟨by rw [HP.out]; simp [h1], (Below.refl _ _).alloc (Nat.le_refl _) _, HC.out⟩
  case rest =>
    obtain ⟨rfl, hb, hbk⟩ := hcut
    have c0 := block_cell hbk 0 _ rfl
    have c1 := block_cell hbk 1 _ rfl
    have c2 := block_cell hbk 2 _ rfl
    have c3 := block_cell hbk 3 _ rfl
    have c5 := block_cell hbk 5 _ rfl
    have HB := Lib.hid hb
    clear hbk hb hp
    rcases kind_cases k with rfl | rfl | rfl | rfl | rfl | rfl | ⟨h1, h2, h3, h4, h6, h5⟩
    · have he : Hid (shapedN 1 s mn mx lz n = (p && decide (m + n = 0))) := Lib.hid (by rw [HP.out, HM.out]; rfl)
      cases p
      · go_wp2_with fail
        go_ret
        exact ⟨by rw [he.out]; rfl, HB.out⟩
      · by_cases hz : m + n = 0
        · obtain rfl : m = 0 := by omega
          obtain rfl : n = 0 := by omega
          go_wp2_with fail
          go_ret
          exact ⟨by rw [he.out]; rfl, HB.out⟩
        · have hz' : ((m : Int) + (n : Int) == 0) = false := beq_eq_false_iff_ne.2 (by omega)
          go_wp2_with fail
          go_ret
          exact ⟨by rw [he.out]; simp; omega, HB.out⟩
    · have he : Hid (shapedN 2 s mn mx lz n = (p && Rs.right s && decide (n = 0))) := Lib.hid (by rw [HP.out]; rfl)
      cases p
      · go_wp2_with fail
        go_ret
        exact ⟨by rw [he.out]; rfl, HB.out⟩
      · have hc := Lib.hid (hcall.out wc HB.out)
        cases hr : Rs.right s with
        | false =>
          have hr := Lib.hid hr
          go_wp2_with (go_at_call 100; refine hc.out.mono ?_; rw [hr.out]; rintro e w1 ⟨rfl, hb1⟩)
          go_ret
          exact ⟨by rw [he.out, hr.out]; rfl, Bthen HB.out hb1⟩
        | true =>
          have hr := Lib.hid hr
          have hlt := cell_lt c5
          go_wp2_with fail
          go_at_call 100
          refine hc.out.mono ?_
          rw [hr.out]
          rintro e w1 ⟨rfl, hb1⟩
          have d5 := (hb1.cell (p := ⟨w.heap.size, 5, none⟩) hlt).trans c5
          have HB1 := Lib.hid hb1
          clear hb1
          by_cases hz : n = 0
          · subst hz
            go_wp2_with fail
            go_ret
            exact ⟨by rw [he.out, hr.out]; rfl, Bthen HB.out HB1.out⟩
          · have hz' : ((n : Int) == 0) = false := beq_eq_false_iff_ne.2 (by omega)
            go_wp2_with fail
            go_ret
            exact ⟨by rw [he.out, hr.out]; simp; omega, Bthen HB.out HB1.out⟩
    · have he : Hid (shapedN 3 s mn mx lz n = (p && decide (m = 0) && decide (1 < n))) := Lib.hid (by rw [HP.out, HM.out]; rfl)
      cases p
      · go_wp2_with fail
        go_ret
        exact ⟨by rw [he.out]; rfl, HB.out⟩
      · by_cases hz : m = 0
        · subst hz
          by_cases hy : 1 < n
          · have hd : decide ((1 : Int) < (n : Int)) = true := by simp; omega
            go_wp2_with fail
            go_ret
            exact ⟨by rw [he.out]; simp [hy], HB.out⟩
          · have hd : decide ((1 : Int) < (n : Int)) = false := by simp; omega
            go_wp2_with fail
            go_ret
            exact ⟨by rw [he.out]; simp [hy], HB.out⟩
        · have hz' : ((m : Int) == 0) = false := beq_eq_false_iff_ne.2 (by omega)
          go_wp2_with fail
          go_ret
          exact ⟨by rw [he.out]; simp [hz], HB.out⟩
    · have he : Hid (shapedN 4 s mn mx lz n = (p && decide (m = 0) && decide (1 < n))) := Lib.hid (by rw [HP.out, HM.out]; rfl)
      cases p
      · go_wp2_with fail
        go_ret
        exact ⟨by rw [he.out]; rfl, HB.out⟩
      · by_cases hz : m = 0
        · subst hz
          by_cases hy : 1 < n
          · have hd : decide ((1 : Int) < (n : Int)) = true := by simp; omega
            go_wp2_with fail
            go_ret
            exact ⟨by rw [he.out]; simp [hy], HB.out⟩
          · have hd : decide ((1 : Int) < (n : Int)) = false := by simp; omega
            go_wp2_with fail
            go_ret
            exact ⟨by rw [he.out]; simp [hy], HB.out⟩
        · have hz' : ((m : Int) == 0) = false := beq_eq_false_iff_ne.2 (by omega)
          go_wp2_with fail
          go_ret
          exact ⟨by rw [he.out]; simp [hz], HB.out⟩
    · have he : Hid (shapedN 6 s mn mx lz n = (p && decide (m = 0) && decide (n = 1))) := Lib.hid (by rw [HP.out, HM.out]; rfl)
      cases p
      · go_wp2_with fail
        go_ret
        exact ⟨by rw [he.out]; rfl, HB.out⟩
      · by_cases hz : m = 0
        · subst hz
          by_cases hy : n = 1
          · subst hy
            go_wp2_with fail
            go_ret
            exact ⟨by rw [he.out]; rfl, HB.out⟩
          · have hd : ((n : Int) == 1) = false := beq_eq_false_iff_ne.2 (by omega)
            go_wp2_with fail
            go_ret
            exact ⟨by rw [he.out]; simp [hy], HB.out⟩
        · have hz' : ((m : Int) == 0) = false := beq_eq_false_iff_ne.2 (by omega)
          go_wp2_with fail
          go_ret
          exact ⟨by rw [he.out]; simp [hz], HB.out⟩
    · have he : Hid (shapedN 5 s mn mx lz n = (decide (0 ≤ mn) && decide (mn ≤ 1000) && (decide (mx = -1) || (decide (mn ≤ mx) && decide (mx ≤ 1000))) && decide (m = 0) && decide (n = 1))) := Lib.hid (by rw [HM.out]; rfl)
      by_cases q1 : 0 ≤ mn
      · have d1 : decide ((0 : Int) ≤ mn) = true := by simpa using q1
        by_cases q2 : mn ≤ 1000
        · have d2 : decide (mn ≤ (1000 : Int)) = true := by simpa using q2
          have hx : (mx = -1) ∨ (mx ≠ -1 ∧ mx < mn) ∨ (mx ≠ -1 ∧ mn ≤ mx ∧ 1000 < mx) ∨ (mx ≠ -1 ∧ mn ≤ mx ∧ mx ≤ 1000) := by omega
          have hno : ∀ b : Bool, b = false → (decide (0 ≤ mn) && decide (mn ≤ 1000) && b && decide (m = 0) && decide (n = 1)) = false := fun b hb => by rw [hb]; simp
          rcases hx with rfl | ⟨h3, h4⟩ | ⟨h3, h4, h5⟩ | ⟨h3, h4, h5⟩
          · have HE : Hid (shapedN 5 s mn (-1) lz n = (decide (m = 0) && decide (n = 1))) := Lib.hid (by rw [he.out]; simp [q1, q2])
            clear hno
            by_cases hz : m = 0
            · subst hz
              by_cases hy : n = 1
              · subst hy
                go_wp2_with fail
                go_ret
                exact ⟨by rw [HE.out]; rfl, HB.out⟩
              · have hd : ((n : Int) == 1) = false := beq_eq_false_iff_ne.2 (by omega)
                go_wp2_with fail
                go_ret
                exact ⟨by rw [HE.out]; simp [hy], HB.out⟩
            · have hz' : ((m : Int) == 0) = false := beq_eq_false_iff_ne.2 (by omega)
              go_wp2_with fail
              go_ret
              exact ⟨by rw [HE.out]; simp [hz], HB.out⟩
          · have h3' : (mx == -1) = false := beq_eq_false_iff_ne.2 h3
            have d3 : decide (mn ≤ mx) = false := by simp; omega
            have HE : Hid (shapedN 5 s mn mx lz n = false) := Lib.hid (by rw [he.out]; exact hno _ (by simp [h3]; omega))
            clear hno
            go_wp2_with fail
            go_ret
            exact ⟨by rw [HE.out]; rfl, HB.out⟩
          · have h3' : (mx == -1) = false := beq_eq_false_iff_ne.2 h3
            have d3 : decide (mn ≤ mx) = true := by simp; omega
            have d4 : decide (mx ≤ (1000 : Int)) = false := by simp; omega
            have HE : Hid (shapedN 5 s mn mx lz n = false) := Lib.hid (by rw [he.out]; exact hno _ (by simp [h3]; omega))
            clear hno
            go_wp2_with fail
            go_ret
            exact ⟨by rw [HE.out]; rfl, HB.out⟩
          · have h3' : (mx == -1) = false := beq_eq_false_iff_ne.2 h3
            have d3 : decide (mn ≤ mx) = true := by simp; omega
            have d4 : decide (mx ≤ (1000 : Int)) = true := by simp; omega
            have HE : Hid (shapedN 5 s mn mx lz n = (decide (m = 0) && decide (n = 1))) := Lib.hid (by rw [he.out]; simp [q1, q2, h4, h5])
            clear hno
            by_cases hz : m = 0
            · subst hz
              by_cases hy : n = 1
              · subst hy
                go_wp2_with fail
                go_ret
                exact ⟨by rw [HE.out]; rfl, HB.out⟩
              · have hd : ((n : Int) == 1) = false := beq_eq_false_iff_ne.2 (by omega)
                go_wp2_with fail
                go_ret
                exact ⟨by rw [HE.out]; simp [hy], HB.out⟩
            · have hz' : ((m : Int) == 0) = false := beq_eq_false_iff_ne.2 (by omega)
              go_wp2_with fail
              go_ret
              exact ⟨by rw [HE.out]; simp [hz], HB.out⟩
        · have d2 : decide (mn ≤ (1000 : Int)) = false := by simpa using q2
          have HE : Hid (shapedN 5 s mn mx lz n = false) := Lib.hid (by rw [he.out]; simp [q2])
          go_wp2_with fail
          go_ret
          exact ⟨by rw [HE.out]; rfl, HB.out⟩
      · have d1 : decide ((0 : Int) ≤ mn) = false := by simpa using q1
        have HE : Hid (shapedN 5 s mn mx lz n = false) := Lib.hid (by rw [he.out]; simp [q1])
        go_wp2_with fail
        go_ret
        exact ⟨by rw [HE.out]; rfl, HB.out⟩
    · have he : Hid (shapedN k s mn mx lz n = false) := Lib.hid (by
        simp only [beq_eq_false_iff_ne] at h1 h2 h3 h4 h5 h6
        unfold shapedN
        simp [h1, h2, h3, h4, h5, h6])
      go_wp2_with fail
      go_ret
      exact ⟨by rw [he.out]; rfl, HB.out⟩
end Go.Proofs.YtimahlimmblgkaaGreatDoor.Sy
