/- Chapter 38's texts: word. -/
import Derived.Test.YtmagojckhfkcdaaGreatDoorKpA
import Derived.Test.YtmagojckhfkcdaaGreatDoorKcA
import Derived.Deep.RegionLaw
import Derived.Deep.AppendLies
namespace Go.Proofs.YtmagojckhfkcdaaGreatDoor.Sk
open Go Go.RowKit
def wsB (s : ByteArray) : ByteArray := ⟨(wordS (d s)).toArray⟩
set_option maxRecDepth 100000 in
set_option maxHeartbeats 4000000 in
theorem word_calls (s : ByteArray) (w : World) (hs : s.size ≤ 10000000) :
    Calls Tryz.prog 28 #[.string s] w fun e w' => e = .returned (.string (wsB s)) ∧ Below w.heap.size w w' := by
  have hln : (d s).length = s.size := by simp [d]
  by_cases h0 : s = ⟨#[]⟩
  · subst h0
    go_enter Tryz.func28, Tryz.ntmps28
    go_wp2
    go_ret
    exact ⟨rfl, Below.refl _ _⟩
  · by_cases h1 : s = ⟨#[45]⟩
    · subst h1
      go_enter Tryz.func28, Tryz.ntmps28
      go_wp2
      go_ret
      exact ⟨rfl, Below.refl _ _⟩
    · have hd0 : d s ≠ [] := fun e => h0 (by rcases s with ⟨⟨l⟩⟩; simp [d] at e; subst e; rfl)
      have hd1 : d s ≠ [45] := fun e => h1 (by rcases s with ⟨⟨l⟩⟩; simp [d] at e; subst e; rfl)
      have he0 : s.toList.isEmpty = false := by rw [ByteArray.toList_eq, Bool.eq_false_iff, ne_eq, List.isEmpty_iff]; exact hd0
      have he1 : (s.toList == [45]) = false := by rw [ByteArray.toList_eq, beq_eq_false_iff_ne]; exact hd1
      have HW : Hid (wsB s = ⟨((d s).flatMap wordC).toArray⟩) := Lib.hid (by
        unfold wsB wordS
        rw [if_neg hd0, if_neg hd1])
      have HF : Hid (((d s).flatMap wordC).length ≤ 3 * (d s).length) := Lib.hid (wordF_len _)
      have hsz : (s.size : Int) ≤ 10000000 := by omega
      go_enter Tryz.func28, Tryz.ntmps28
      go_wp2_with fail
      go_loopw [13] (fun i wr => ∃ k : Nat, k ≤ s.size ∧ i = .int .i64 k ∧ Bd wr w.heap.size (((d s).take k).flatMap wordC) ∧ Below w.heap.size w wr) (fun i _ => s.size - (intOf i).toNat)
      case atStart => exact ⟨0, Nat.zero_le _, rfl, by simpa using Bd.new w, (Below.refl _ _).alloc (Nat.le_refl _) _⟩
      case round =>
        obtain ⟨k, hkl, rfl, hbd, hb⟩ := hrel
        by_cases hlt : k < s.size
        · obtain ⟨c, hc⟩ : ∃ c, (d s)[k]? = some c := ⟨_, List.getElem?_eq_getElem (by omega)⟩
          have hcs : s[k] = c := by
            have := List.getElem?_eq_some_iff.1 hc
            exact this.2
          have hcn : c.toNat < 256 := c.toNat_lt
          have HC := Lib.hid (And.intro hc (wordF_step hc))
          have hl2 : (((d s).take k).flatMap wordC).length ≤ 30000000 := by
            have := wordF_len ((d s).take k)
            have h2 : ((d s).take k).length ≤ k := List.length_take_le ..
            omega
          have g1 : (0 : Int) ≤ (c.toNat : Int) / 16 := by omega
          have g2 : (c.toNat : Int) / 16 < 16 := by omega
          have g3 : (0 : Int) ≤ (c.toNat : Int) % 16 := by omega
          have g4 : (c.toNat : Int) % 16 < 16 := by omega
          have g5 : IntKind.u8.wrap ((c.toNat : Int) / 16 + 1) = (c.toNat : Int) / 16 + 1 := by rw [IntKind.wrap_u8]; omega
          have g6 : IntKind.u8.wrap ((c.toNat : Int) % 16 + 1) = (c.toNat : Int) % 16 + 1 := by rw [IntKind.wrap_u8]; omega
          have g7 : (c.toNat : Int).tmod 16 = (c.toNat : Int) % 16 := by rw [Int.tmod_eq_emod_of_nonneg (by omega)]
          have g8 : (c.toNat : Int).tdiv 16 = (c.toNat : Int) / 16 := by rw [Int.tdiv_eq_ediv_of_nonneg (by omega)]
          have g9 : IntKind.u8.wrap ((c.toNat : Int) / 16) = (c.toNat : Int) / 16 := by rw [IntKind.wrap_u8]; omega
          have g10 : IntKind.u8.wrap ((c.toNat : Int) % 16) = (c.toNat : Int) % 16 := by rw [IntKind.wrap_u8]; omega
          have g11 : (0 : Int) ≤ (c.toNat : Int) / 16 + 1 := by omega
          have g12 : (c.toNat : Int) / 16 + 1 ≤ 16 := by omega
          have g13 : (c.toNat : Int) / 16 ≤ (c.toNat : Int) / 16 + 1 := by omega
          have g14 : (0 : Int) ≤ (c.toNat : Int) % 16 + 1 := by omega
          have g15 : (c.toNat : Int) % 16 + 1 ≤ 16 := by omega
          have g16 : (c.toNat : Int) % 16 ≤ (c.toNat : Int) % 16 + 1 := by omega
          obtain ⟨x, hx⟩ : ∃ x, x = hexU (c.toNat / 16) := ⟨_, rfl⟩
          obtain ⟨y, hy⟩ : ∃ y, y = hexU (c.toNat % 16) := ⟨_, rfl⟩
          have x1 : (⟨#[48, 49, 50, 51, 52, 53, 54, 55, 56, 57, 65, 66, 67, 68, 69, 70]⟩ : ByteArray).extract (c.toNat / 16) (c.toNat / 16 + 1) = ⟨#[x]⟩ := by rw [hx]; exact hex_at _ (by omega)
          have x2 : (⟨#[48, 49, 50, 51, 52, 53, 54, 55, 56, 57, 65, 66, 67, 68, 69, 70]⟩ : ByteArray).extract (c.toNat % 16) (c.toNat % 16 + 1) = ⟨#[y]⟩ := by rw [hy]; exact hex_at _ (by omega)
          have x3 : (⟨#[37]⟩ : ByteArray) ++ ⟨#[x]⟩ = ⟨#[37, x]⟩ := rfl
          have x4 : (⟨#[37, x]⟩ : ByteArray) ++ ⟨#[y]⟩ = ⟨#[37, x, y]⟩ := rfl
          have HX := Lib.hid (And.intro hx hy)
          have t1 : ((c.toNat : Int) / 16).toNat = c.toNat / 16 := by omega
          have t2 : ((c.toNat : Int) / 16 + 1).toNat = c.toNat / 16 + 1 := by omega
          have t3 : ((c.toNat : Int) % 16).toNat = c.toNat % 16 := by omega
          have t4 : ((c.toNat : Int) % 16 + 1).toNat = c.toNat % 16 + 1 := by omega
          clear hx hy
          have k2 : IntKind.u8.wrap 2 = 2 := by decide
          have k3 : IntKind.u8.wrap 3 = 3 := by decide
          have k5 : IntKind.u8.wrap 5 = 5 := by decide
          have k6 : IntKind.u8.wrap 6 = 6 := by decide
          clear hc
          have hq : ((c.toNat : Int) == 37) = decide (c.toNat = 37) := by
            by_cases h : c.toNat = 37
            · simp [h]
            · have : (c.toNat : Int) ≠ 37 := by omega
              simp [h, this]
          rcases (show c.toNat = 37 ∨ (c.toNat ≠ 37 ∧ c.toNat < 33) ∨ (c.toNat ≠ 37 ∧ 33 ≤ c.toNat ∧ 126 < c.toNat) ∨ (c.toNat ≠ 37 ∧ 33 ≤ c.toNat ∧ c.toNat ≤ 126) by omega) with hd | hd | hd | hd
          · have HD := Lib.hid (wordC_37 hd)
            have y1 : (⟨#[48, 49, 50, 51, 52, 53, 54, 55, 56, 57, 65, 66, 67, 68, 69, 70]⟩ : ByteArray).extract 2 3 = ⟨#[50]⟩ := by decide
            have y2 : (⟨#[48, 49, 50, 51, 52, 53, 54, 55, 56, 57, 65, 66, 67, 68, 69, 70]⟩ : ByteArray).extract 5 6 = ⟨#[53]⟩ := by decide
            have y3 : (⟨#[37]⟩ : ByteArray) ++ ⟨#[50]⟩ = ⟨#[37, 50]⟩ := rfl
            have y4 : (⟨#[37, 50]⟩ : ByteArray) ++ ⟨#[53]⟩ = ⟨#[37, 50, 53]⟩ := rfl
            clear x1 x2 x3 x4
            have i1 : (c.toNat : Int) = 37 := by omega
            clear hq
            go_wp2_with fail
            go_region_law (go_simp; go_at_call 49; refine (ws_calls w.heap.size _ [37, 50, 53] _ (by exact hbd) (by omega) (by simp)).mono ?_; rintro e w2 ⟨v2, rfl, hbd2, hb2, hk2⟩)
            all_goals
              have hB2 : Below w.heap.size w w2 := by first | exact hb.drew.trans hb2 | exact hb.trans hb2
              clear hbd hb hb2
              go_wp2
              go_roundw
              case rel => exact ⟨k + 1, by omega, by go_num, by rw [HC.out.2, HD.out]; exact hbd2, hB2⟩
              case measure => simp [intOf]; omega
          · have HD : Hid (c.toNat = 37 ∨ c.toNat < 33 ∨ 126 < c.toNat) := Lib.hid (by omega)
            have i1 : ¬ (c.toNat : Int) = 37 := by omega
            have i2 : (c.toNat : Int) < 33 := by omega
            have i3 : ((c.toNat : Int) == 37) = false := by simpa using i1
            clear hq hd
            go_wp2_with fail
            go_region_law (go_simp; go_at_call 49; refine (ws_calls w.heap.size _ [37, x, y] _ (by exact hbd) (by omega) (by simp)).mono ?_; rintro e w2 ⟨v2, rfl, hbd2, hb2, hk2⟩)
            all_goals
              have hB2 : Below w.heap.size w w2 := by first | exact hb.drew.trans hb2 | exact hb.trans hb2
              clear hbd hb hb2
              go_wp2
              go_roundw
              case rel => exact ⟨k + 1, by omega, by go_num, by rw [HC.out.2, wordC_yes HD.out, ← HX.out.1, ← HX.out.2]; exact hbd2, hB2⟩
              case measure => simp [intOf]; omega
          · have HD : Hid (c.toNat = 37 ∨ c.toNat < 33 ∨ 126 < c.toNat) := Lib.hid (by omega)
            have i1 : ¬ (c.toNat : Int) = 37 := by omega
            have i2 : (33 : Int) ≤ (c.toNat : Int) := by omega
            have i4 : (126 : Int) < (c.toNat : Int) := by omega
            have i3 : ((c.toNat : Int) == 37) = false := by simpa using i1
            clear hq hd
            go_wp2_with fail
            go_region_law (go_simp; go_at_call 49; refine (ws_calls w.heap.size _ [37, x, y] _ (by exact hbd) (by omega) (by simp)).mono ?_; rintro e w2 ⟨v2, rfl, hbd2, hb2, hk2⟩)
            all_goals
              have hB2 : Below w.heap.size w w2 := by first | exact hb.drew.trans hb2 | exact hb.trans hb2
              clear hbd hb hb2
              go_wp2
              go_roundw
              case rel => exact ⟨k + 1, by omega, by go_num, by rw [HC.out.2, wordC_yes HD.out, ← HX.out.1, ← HX.out.2]; exact hbd2, hB2⟩
              case measure => simp [intOf]; omega
          · have HD := Lib.hid (wordC_no hd.1 hd.2.1 hd.2.2)
            have i1 : ¬ (c.toNat : Int) = 37 := by omega
            have i2 : (33 : Int) ≤ (c.toNat : Int) := by omega
            have i4 : (c.toNat : Int) ≤ 126 := by omega
            have i3 : ((c.toNat : Int) == 37) = false := by simpa using i1
            clear hq hd
            go_wp2_with fail
            go_at_call 50
            refine (wb_calls w.heap.size _ c _ hbd (by omega)).mono ?_
            rintro e w2 ⟨rfl, hbd2, hb2, hk2⟩
            all_goals
              have hB2 : Below w.heap.size w w2 := by first | exact hb.drew.trans hb2 | exact hb.trans hb2
              clear hbd hb hb2
              go_wp2
              go_roundw
              case rel => exact ⟨k + 1, by omega, by go_num, by rw [HC.out.2, HD.out]; exact hbd2, hB2⟩
              case measure => simp [intOf]; omega
        · obtain rfl : k = s.size := by omega
          rw [List.take_of_length_le (by omega)] at hbd
          go_wp2_with fail
          go_at_call 51
          refine (bs_calls w.heap.size _ _ hbd).mono ?_
          rintro e w2 ⟨rfl, hb2, hk2⟩
          go_wp2
          go_ret
          exact ⟨by rw [HW.out]; rfl, hb.trans (hb2.mono (by omega))⟩
end Go.Proofs.YtmagojckhfkcdaaGreatDoor.Sk
