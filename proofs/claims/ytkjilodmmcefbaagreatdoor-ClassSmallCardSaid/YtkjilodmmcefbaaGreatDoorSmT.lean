/- The law's texts: it returns true. -/
import Derived.Test.YtkjilodmmcefbaaGreatDoorReR
import Derived.Test.YtkjilodmmcefbaaGreatDoorAbt
import Derived.Laws.BytesArg
namespace Go.Proofs.YtkjilodmmcefbaaGreatDoor
open Go.RowKit Go.Shelf
def sgL : List ByteArray := [⟨#[97]⟩, ⟨#[98]⟩, ⟨#[45]⟩, ⟨#[94]⟩, ⟨#[93]⟩, ⟨#[91]⟩, ⟨#[92, 100]⟩, ⟨#[92, 87]⟩, ⟨#[92, 93]⟩, ⟨#[92, 120, 123, 54, 50, 125]⟩, ⟨#[195, 169]⟩, ⟨#[255]⟩]
def txL : List ByteArray := [⟨#[92, 120]⟩, ⟨#[92, 120, 52]⟩, ⟨#[92, 120, 52, 49]⟩, ⟨#[92, 120, 103, 49]⟩, ⟨#[92, 120, 123]⟩, ⟨#[92, 120, 123, 125]⟩, ⟨#[92, 120, 123, 48, 125]⟩, ⟨#[92, 120, 123, 49, 48, 70, 70, 70, 70, 125]⟩, ⟨#[92, 120, 123, 49, 49, 48, 48, 48, 48, 125]⟩, ⟨#[92, 120, 123, 100, 55, 102, 102, 125]⟩, ⟨#[92, 120, 123, 68, 56, 48, 48, 125]⟩, ⟨#[92, 120, 123, 100, 102, 102, 102, 125]⟩, ⟨#[92, 120, 123, 69, 48, 48, 48, 125]⟩, ⟨#[92, 120, 123, 48, 48, 48, 48, 48, 52, 49, 125]⟩, ⟨#[92, 120, 123, 48, 48, 48, 48, 52, 49, 125]⟩, ⟨#[92, 120, 123, 52, 49]⟩, ⟨#[92, 120, 123, 45, 49, 125]⟩, ⟨#[92, 120, 123, 32, 49, 125]⟩, ⟨#[92, 120, 123, 43, 49, 125]⟩, ⟨#[92, 120, 123, 49, 95, 48, 125]⟩, ⟨#[92]⟩, ⟨#[]⟩]
def strs (l : List ByteArray) : List Value := l.map Value.string
theorem strs_at (W : World) (l : List ByteArray) (T : TypeId) {j : Nat} {x : ByteArray} (h : l[j]? = some x) : (W.alloc (.cells (strs l).toArray T)).cell? ⟨W.heap.size, j, none⟩ = some (.string x) := by
  have h2 := cells_new W (strs l).toArray T ⟨W.heap.size, 0, none⟩ rfl j (.string x) (by simp [strs, h])
  rwa [add_at0] at h2
theorem sg_at {j : Nat} (h : j < 12) : ∃ x, sgL[j]? = some x ∧ 0 < x.size ∧ x.size ≤ 6 := by
  have hl : sgL.length = 12 := rfl
  obtain ⟨x, hx⟩ : ∃ x, sgL[j]? = some x := ⟨_, List.getElem?_eq_getElem (by omega)⟩
  have ha : sgL.all (fun y => decide (0 < y.size) && decide (y.size ≤ 6)) = true := by decide
  have := List.all_eq_true.1 ha x (List.mem_of_getElem? hx)
  simp at this
  exact ⟨x, hx, this.1, this.2⟩
theorem tx_at {j : Nat} (h : j < 22) : ∃ x, txL[j]? = some x ∧ x.size ≤ 20 := by
  have hl : txL.length = 22 := rfl
  obtain ⟨x, hx⟩ : ∃ x, txL[j]? = some x := ⟨_, List.getElem?_eq_getElem (by omega)⟩
  have ha : txL.all (fun y => decide (y.size ≤ 20)) = true := by decide
  have := List.all_eq_true.1 ha x (List.mem_of_getElem? hx)
  simp at this
  exact ⟨x, hx, this⟩
theorem conv1 (W : World) (c : Int) : (convert 40 9 (.slice (some ⟨W.heap.size, 0, none⟩) 1 1)).run Tryz.prog (W.alloc (.cells #[.int .u8 c] 5)) = .ok (.string (strOfNums [c])) (W.alloc (.cells #[.int .u8 c] 5)) :=
  run_convert_bytes_arg _ 40 5 Tryz.underlying40 Tryz.underlying5 W.heap.size 0 1 1 [c] rfl (fun i hi => by
    obtain rfl : i = 0 := by omega
    exact cells_new W #[.int .u8 c] _ ⟨W.heap.size, 0, none⟩ rfl 0 _ rfl) _ Tryz.underlying9
theorem str1 (c : Int) : (strOfNums [c]).size = 1 := rfl
set_option maxRecDepth 100000 in
set_option maxHeartbeats 8000000 in
theorem texts_calls (w : World) (hL : Lv w) : Calls Tryz.prog 34 #[] w fun e w' => e = .returned (.bool true) ∧ Below w.heap.size w w' := by
  have HAB := Lib.hid hL
  clear hL
  go_enter Tryz.func34, Tryz.ntmps34
  go_wp2
  obtain ⟨w1, hw1⟩ : ∃ w1, w.alloc (.cells #[.string ⟨#[97]⟩, .string ⟨#[98]⟩, .string ⟨#[45]⟩, .string ⟨#[94]⟩, .string ⟨#[93]⟩, .string ⟨#[91]⟩, .string ⟨#[92, 100]⟩, .string ⟨#[92, 87]⟩, .string ⟨#[92, 93]⟩, .string ⟨#[92, 120, 123, 54, 50, 125]⟩, .string ⟨#[195, 169]⟩, .string ⟨#[255]⟩] 9) = w1 := ⟨_, rfl⟩
  have HC : Hid (∀ j x, sgL[j]? = some x → w1.cell? ⟨w.heap.size, j, none⟩ = some (.string x)) := Lib.hid (fun j x h => by rw [← hw1]; exact strs_at w sgL 9 h)
  have HB1 : Hid (Below w.heap.size w w1) := Lib.hid (by rw [← hw1]; exact Bnew (Below.refl _ _) _)
  have HS1 : Hid (w1.heap.size = w.heap.size + 1) := Lib.hid (by rw [← hw1]; simp)
  generalize w.alloc (.cells #[.string ⟨#[97]⟩, .string ⟨#[98]⟩, .string ⟨#[45]⟩, .string ⟨#[94]⟩, .string ⟨#[93]⟩, .string ⟨#[91]⟩, .string ⟨#[92, 100]⟩, .string ⟨#[92, 87]⟩, .string ⟨#[92, 93]⟩, .string ⟨#[92, 120, 123, 54, 50, 125]⟩, .string ⟨#[195, 169]⟩, .string ⟨#[255]⟩] 9) = w1' at *
  subst hw1
  go_loopw [8] (fun i wr => ∃ k : Nat, k ≤ 20736 ∧ i = .int .i64 k ∧ Below w1'.heap.size w1' wr) (fun i _ => 20736 - (intOf i).toNat)
  case atStart => exact ⟨0, Nat.zero_le _, rfl, Below.refl _ _⟩
  case round =>
    obtain ⟨k, hk, rfl, hb⟩ := hrel
    by_cases hlt : k < 20736
    · obtain ⟨x1, e1, p1, q1⟩ := sg_at (Nat.mod_lt k (show 0 < 12 by decide))
      obtain ⟨x2, e2, p2, q2⟩ := sg_at (Nat.mod_lt (k / 12) (show 0 < 12 by decide))
      obtain ⟨x3, e3, p3, q3⟩ := sg_at (Nat.mod_lt (k / 144) (show 0 < 12 by decide))
      obtain ⟨x4, e4, p4, q4⟩ := sg_at (show k / 1728 < 12 by omega)
      have hcell := fun j x h => (hb.cell (p := ⟨w.heap.size, j, none⟩) (by rw [HS1.out]; exact Nat.lt_succ_self _)).trans (HC.out j x h)
      have c1 := hcell _ _ e1
      have c2 := hcell _ _ e2
      have c3 := hcell _ _ e3
      have c4 := hcell _ _ e4
      have m1 : Int.tmod (k : Int) 12 = ((k % 12 : Nat) : Int) := (Int.ofNat_tmod k 12).symm
      have m2 : Int.tdiv (k : Int) 12 = ((k / 12 : Nat) : Int) := (Int.ofNat_tdiv k 12).symm
      have m3 : Int.tmod ((k / 12 : Nat) : Int) 12 = ((k / 12 % 12 : Nat) : Int) := (Int.ofNat_tmod (k / 12) 12).symm
      have m4 : Int.tdiv (k : Int) 144 = ((k / 144 : Nat) : Int) := (Int.ofNat_tdiv k 144).symm
      have m5 : Int.tmod ((k / 144 : Nat) : Int) 12 = ((k / 144 % 12 : Nat) : Int) := (Int.ofNat_tmod (k / 144) 12).symm
      have m6 : Int.tdiv (k : Int) 1728 = ((k / 1728 : Nat) : Int) := (Int.ofNat_tdiv k 1728).symm
      have l1 : k % 12 < 12 := Nat.mod_lt _ (by decide)
      have l2 : k / 12 % 12 < 12 := Nat.mod_lt _ (by decide)
      have l3 : k / 144 % 12 < 12 := Nat.mod_lt _ (by decide)
      have l4 : k / 1728 < 12 := by omega
      have HK := Lib.hid hb
      clear hcell e1 e2 e3 e4 hb
      go_wp2_with fail
      go_big_quiet (fail)
      have hsz1 : 0 < (x1 ++ x2 ++ x3 ++ x4).size := by simp only [ByteArray.size_append]; omega
      have hsz2 : (x1 ++ x2 ++ x3 ++ x4).size ≤ 24 := by simp only [ByteArray.size_append]; omega
      generalize x1 ++ x2 ++ x3 ++ x4 = S at *
      have HLV := Lib.hid ((HAB.out.below HB1.out).below (below_drewN HK.out nq))
      have HBQ := Lib.hid (below_drewN HK.out nq)
      generalize wr.drewN nq = wq at *
      clear c1 c2 c3 c4 m1 m2 m3 m4 m5 m6 l1 l2 l3 l4 p1 q1 p2 q2 p3 q3 p4 q4 HK
      go_wp2_with fail
      go_at_call 13
      refine (reads_calls _ _ _ HLV.out).mono ?_
      rintro e wa ⟨rfl, hb⟩
      have HLVa := Lib.hid (HLV.out.below hb)
      have HBa := Lib.hid (Bthen HBQ.out hb)
      clear hb
      by_cases h5 : k % 5 = 0
      · have h5t : ((k : Int) % 5 == 0) = true := by simp; omega
        go_wp2_with fail
        go_at_call 13
        refine (reads_calls _ _ _ HLVa.out).mono ?_
        rintro e wb ⟨rfl, hb⟩
        have HLVb := Lib.hid (HLVa.out.below hb)
        have HBb := Lib.hid (Bthen HBa.out hb)
        clear hb
        go_wp2_with fail
        go_at_call 13
        refine (reads_calls _ _ _ HLVb.out).mono ?_
        rintro e wc ⟨rfl, hb⟩
        have HLVc := Lib.hid (HLVb.out.below hb)
        have HBc := Lib.hid (Bthen HBb.out hb)
        clear hb
        go_wp2_with fail
        go_roundw
        case rel => exact ⟨k + 1, by omega, by go_num, HBc.out⟩
        case measure => simp [intOf]; omega
      · have h5f : ((k : Int) % 5 == 0) = false := by simp; omega
        go_wp2_with fail
        go_roundw
        case rel => exact ⟨k + 1, by omega, by go_num, HBa.out⟩
        case measure => simp [intOf]; omega
    · have hge : (20736 : Int) ≤ (k : Int) := by omega
      have HLV := Lib.hid ((HAB.out.below HB1.out).below hb)
      have HB2 := Lib.hid (Bthen HB1.out hb)
      clear hb hk hlt HC
      go_wp2
      go_loopw [63] (fun i wz => ∃ b : Nat, b ≤ 256 ∧ i = .int .i64 b ∧ Below wr.heap.size wr wz) (fun i _ => 256 - (intOf i).toNat)
      case atStart => exact ⟨0, Nat.zero_le _, rfl, Below.refl _ _⟩
      case round =>
        obtain ⟨b, hb2, rfl, hbz⟩ := hrel
        by_cases hlt2 : b < 256
        · have hwu : IntKind.u8.wrap (b : Int) = (b : Int) := by rw [IntKind.wrap_u8]; omega
          have HLZ := Lib.hid (HLV.out.below hbz)
          have HBZ := Lib.hid hbz
          clear hbz
          have hcv := fun W => conv1 W (b : Int)
          have hcs := str1 (b : Int)
          generalize strOfNums [(b : Int)] = T at *
          go_wp2_with fail
          go_at_call 13
          refine (reads_calls _ _ _ (HLZ.out.below (Bnew (Below.refl _ _) _))).mono ?_
          rintro e wa ⟨rfl, hb⟩
          have HLa := Lib.hid ((HLZ.out.below (Bnew (Below.refl _ _) _)).below hb)
          have HBa := Lib.hid (Bthen (Bnew HBZ.out _) hb)
          clear hb
          go_wp2_with fail
          go_at_call 13
          refine (reads_calls _ _ _ (HLa.out.below (Bnew (Below.refl _ _) _))).mono ?_
          rintro e wb ⟨rfl, hb⟩
          have HBb := Lib.hid (Bthen (Bnew HBa.out _) hb)
          clear hb
          go_wp2_with fail
          go_roundw
          case rel => exact ⟨b + 1, by omega, by go_num, HBb.out⟩
          case measure => simp [intOf]; omega
        · have hge2 : (256 : Int) ≤ (b : Int) := by omega
          obtain ⟨wz, hwz⟩ : ∃ x, x = wr := ⟨_, rfl⟩
          subst hwz
          have HLZ := Lib.hid (HLV.out.below hbz)
          have HB3 := Lib.hid (Bthen HB2.out hbz)
          clear hbz hb2 hlt2
          go_wp2
          obtain ⟨w5, hw5⟩ : ∃ w5, wz.alloc (.cells #[.string ⟨#[92, 120]⟩, .string ⟨#[92, 120, 52]⟩, .string ⟨#[92, 120, 52, 49]⟩, .string ⟨#[92, 120, 103, 49]⟩, .string ⟨#[92, 120, 123]⟩, .string ⟨#[92, 120, 123, 125]⟩, .string ⟨#[92, 120, 123, 48, 125]⟩, .string ⟨#[92, 120, 123, 49, 48, 70, 70, 70, 70, 125]⟩, .string ⟨#[92, 120, 123, 49, 49, 48, 48, 48, 48, 125]⟩, .string ⟨#[92, 120, 123, 100, 55, 102, 102, 125]⟩, .string ⟨#[92, 120, 123, 68, 56, 48, 48, 125]⟩, .string ⟨#[92, 120, 123, 100, 102, 102, 102, 125]⟩, .string ⟨#[92, 120, 123, 69, 48, 48, 48, 125]⟩, .string ⟨#[92, 120, 123, 48, 48, 48, 48, 48, 52, 49, 125]⟩, .string ⟨#[92, 120, 123, 48, 48, 48, 48, 52, 49, 125]⟩, .string ⟨#[92, 120, 123, 52, 49]⟩, .string ⟨#[92, 120, 123, 45, 49, 125]⟩, .string ⟨#[92, 120, 123, 32, 49, 125]⟩, .string ⟨#[92, 120, 123, 43, 49, 125]⟩, .string ⟨#[92, 120, 123, 49, 95, 48, 125]⟩, .string ⟨#[92]⟩, .string ⟨#[]⟩] 9) = w5 := ⟨_, rfl⟩
          have HC5 : Hid (∀ j x, txL[j]? = some x → w5.cell? ⟨wz.heap.size, j, none⟩ = some (.string x)) := Lib.hid (fun j x h => by rw [← hw5]; exact strs_at wz txL 9 h)
          have HB5 : Hid (Below wz.heap.size wz w5) := Lib.hid (by rw [← hw5]; exact Bnew (Below.refl _ _) _)
          have HS5 : Hid (w5.heap.size = wz.heap.size + 1) := Lib.hid (by rw [← hw5]; simp)
          generalize wz.alloc (.cells #[.string ⟨#[92, 120]⟩, .string ⟨#[92, 120, 52]⟩, .string ⟨#[92, 120, 52, 49]⟩, .string ⟨#[92, 120, 103, 49]⟩, .string ⟨#[92, 120, 123]⟩, .string ⟨#[92, 120, 123, 125]⟩, .string ⟨#[92, 120, 123, 48, 125]⟩, .string ⟨#[92, 120, 123, 49, 48, 70, 70, 70, 70, 125]⟩, .string ⟨#[92, 120, 123, 49, 49, 48, 48, 48, 48, 125]⟩, .string ⟨#[92, 120, 123, 100, 55, 102, 102, 125]⟩, .string ⟨#[92, 120, 123, 68, 56, 48, 48, 125]⟩, .string ⟨#[92, 120, 123, 100, 102, 102, 102, 125]⟩, .string ⟨#[92, 120, 123, 69, 48, 48, 48, 125]⟩, .string ⟨#[92, 120, 123, 48, 48, 48, 48, 48, 52, 49, 125]⟩, .string ⟨#[92, 120, 123, 48, 48, 48, 48, 52, 49, 125]⟩, .string ⟨#[92, 120, 123, 52, 49]⟩, .string ⟨#[92, 120, 123, 45, 49, 125]⟩, .string ⟨#[92, 120, 123, 32, 49, 125]⟩, .string ⟨#[92, 120, 123, 43, 49, 125]⟩, .string ⟨#[92, 120, 123, 49, 95, 48, 125]⟩, .string ⟨#[92]⟩, .string ⟨#[]⟩] 9) = w5' at *
          subst hw5
          go_loopw [91] (fun i wy => ∃ c : Nat, c ≤ 22 ∧ i = .int .i64 c ∧ Below w5'.heap.size w5' wy) (fun i _ => 22 - (intOf i).toNat)
          case atStart => exact ⟨0, Nat.zero_le _, rfl, Below.refl _ _⟩
          case round =>
            obtain ⟨c, hc2, rfl, hby⟩ := hrel
            by_cases hlt3 : c < 22
            · obtain ⟨T, eT, qT⟩ := tx_at hlt3
              have cT := (hby.cell (p := ⟨wz.heap.size, c, none⟩) (by rw [HS5.out]; exact Nat.lt_succ_self _)).trans (HC5.out c T eT)
              have HLY := Lib.hid ((HLZ.out.below HB5.out).below hby)
              have HBY := Lib.hid hby
              clear hby eT
              go_wp2_with fail
              go_at_call 13
              refine (reads_calls _ _ _ HLY.out).mono ?_
              rintro e wa ⟨rfl, hb⟩
              have HLa := Lib.hid (HLY.out.below hb)
              have HBa := Lib.hid (Bthen HBY.out hb)
              clear hb cT
              go_wp2_with fail
              go_at_call 13
              refine (reads_calls _ _ _ HLa.out).mono ?_
              rintro e wb ⟨rfl, hb⟩
              have HLb := Lib.hid (HLa.out.below hb)
              have HBb := Lib.hid (Bthen HBa.out hb)
              clear hb
              go_wp2_with fail
              go_at_call 13
              refine (reads_calls _ _ _ HLb.out).mono ?_
              rintro e wc ⟨rfl, hb⟩
              have HBc := Lib.hid (Bthen HBb.out hb)
              clear hb
              go_wp2_with fail
              go_roundw
              case rel => exact ⟨c + 1, by omega, by go_num, HBc.out⟩
              case measure => simp [intOf]; omega
            · have hge3 : (22 : Int) ≤ (c : Int) := by omega
              have HB6 := Lib.hid (Bthen (Bthen HB3.out HB5.out) hby)
              clear hby hc2 hlt3
              go_wp2
              go_ret
              exact ⟨rfl, HB6.out⟩
end Go.Proofs.YtkjilodmmcefbaaGreatDoor
