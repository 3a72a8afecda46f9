/- Several parts in one text: PuB, PuC. -/
import Derived.Test.YtmagojckhfkcdaaGreatDoorPuA
/- strconv.ParseUint at base 16, 8 bits and 64 bits. -/
namespace Go.Proofs.YtmagojckhfkcdaaGreatDoor
open Go.RowKit
set_option maxHeartbeats 32000000 in
set_option maxRecDepth 100000 in
theorem pu8In_calls (t : ByteArray) (hne : t.size ≠ 0) (hmax : t.size ≤ 9223372036854775806) (w : World) :
    Calls Tryz.prog 70 #[.string t, .int .i64 16, .int .i64 8] w fun e w' => e = .returned (Lib.uintTupleM 147 255 (Rs.hexM 255 0 t.data.toList)) ∧ w' = Lib.bytesWorld w 5 t := by
  have hemp : t.toList.isEmpty = false := by
    rw [← decide_eq_emptyBytes]
    exact decide_eq_false (fun h => hne (by rw [h]; rfl))
  have hcv := Lib.run_convert_string_bytes (P := Tryz.prog) w 9 102 5 t (u := .string) Tryz.underlying9 Tryz.underlying102 Tryz.underlying5
  have hB : ∀ j, j < t.size → (Lib.bytesWorld w 5 t).cell? ⟨w.heap.size, j, none⟩ = some (.int .u8 (t.data.toList.getD j 0).toNat) := fun j hj => Lib.bytesWorld_cell w 5 t j hj
  obtain ⟨W1, hW1⟩ : ∃ W1, W1 = Lib.bytesWorld w 5 t := ⟨_, rfl⟩
  rw [← hW1] at hcv hB ⊢
  clear hW1
  obtain ⟨bs, hL⟩ : ∃ bs, bs = t.data.toList := ⟨_, rfl⟩
  have hLn : bs.length = t.size := by rw [hL, Lib.size_eq]
  rw [← hL] at hB ⊢
  clear hL
  have hmv : IntKind.u64.wrap (IntKind.u64.wrap 256 - 1) = 255 := by
    rw [IntKind.wrap_u64, IntKind.wrap_u64]
    decide
  go_enter Tryz.func70, Tryz.ntmps70
  go_wp2
  go_loop [12, 13, 101] (fun vu vn vi => ∃ (k acc : Nat) (a : Int), vu = .bool false ∧ vn = .int .u64 a ∧ vi = .int .i64 k ∧ k ≤ t.size ∧ Hid (a = (acc : Int) ∧ acc ≤ 255 ∧ Rs.hexM 255 0 bs = Rs.hexM 255 acc (bs.drop k)))
    (fun _ _ vi => t.size - (intOf vi).toNat)
  case atStart => exact ⟨0, 0, 0, rfl, rfl, rfl, by omega, rfl, by omega, rfl⟩
  case round =>
    obtain ⟨k, acc, a, rfl, rfl, rfl, hk, hh⟩ := hrel
    obtain ⟨ha, hacc, hdec⟩ := hh.out
    clear hh
    have a0 : 0 ≤ a := by omega
    have a1 : a ≤ 255 := by omega
    by_cases hkn : k < t.size
    · have hc := hB k hkn
      have hdrop : bs.drop k = bs[k]'(by omega) :: bs.drop (k + 1) := List.drop_eq_getElem_cons (by omega)
      have hget : bs.getD k 0 = bs[k]'(by omega) := by simp [List.getD, List.getElem?_eq_getElem (show k < bs.length by omega)]
      rw [hdrop] at hdec
      rw [hget] at hc
      generalize bs[k]'(by omega) = c at hc hdec
      have hc256 : c.toNat < 256 := c.toNat_lt
      clear hB hdrop hget
      have htab := Rs.low_tab c.toNat hc256
      have hlow := lower_eq c.toNat hc256
      obtain ⟨v, hv⟩ : ∃ v, v = Rs.lowB c.toNat := ⟨_, rfl⟩
      rw [← hv] at hlow htab
      clear hv
      have hlc : ∀ W : World, Calls Tryz.prog 100 #[.int .u8 (c.toNat : Int)] W fun e w' => e = .returned (.int .u8 (v : Int)) ∧ W = w' := fun W => by rw [← hlow]; exact lower_calls _ _
      clear hlow
      obtain ⟨htab, hv256⟩ := htab
      cases hd : Rs.hexD (c.toNat : Int) with
      | none =>
        rw [hd] at htab
        obtain ⟨hnd, hnl⟩ := htab
        have hF : Rs.hexM 255 acc (c :: bs.drop (k + 1)) = Lib.NumEnd.syntax := by simp [Rs.hexM, hd]
        rw [hF] at hdec
        clear hacc hF ha hd
        by_cases h95 : (c.toNat : Int) = 95
        · have hl95 : ∀ W : World, Calls Tryz.prog 100 #[.int .u8 95] W fun e w' => e = .returned (.int .u8 127) ∧ W = w' := fun W => lower_calls 95 W
          clear hlc hnl
          rw [h95] at hc
          clear h95
          go_wp2_with (go_at_call 100; refine (hl95 _).mono ?_; rintro e w' ⟨rfl, rfl⟩)
          all_goals go_ret2
          all_goals first | exact ⟨rfl, rfl⟩ | exact ⟨by rw [hdec]; rfl, rfl⟩
        have h95' : ((c.toNat : Int) == 95) = false := by simpa using h95
        by_cases h48 : 48 ≤ (c.toNat : Int)
        · have h57 : ¬ (c.toNat : Int) ≤ 57 := by omega
          rcases hnl with hnl | hnl
          · go_wp2_with (go_at_call 100; refine (hlc _).mono ?_; rintro e w' ⟨rfl, rfl⟩)
            all_goals go_ret2
            all_goals first | exact ⟨rfl, rfl⟩ | exact ⟨by rw [hdec]; rfl, rfl⟩
          · go_wp2_with (go_at_call 100; refine (hlc _).mono ?_; rintro e w' ⟨rfl, rfl⟩)
            all_goals go_ret2
            all_goals first | exact ⟨rfl, rfl⟩ | exact ⟨by rw [hdec]; rfl, rfl⟩
        · rcases hnl with hnl | hnl
          · go_wp2_with (go_at_call 100; refine (hlc _).mono ?_; rintro e w' ⟨rfl, rfl⟩)
            all_goals go_ret2
            all_goals first | exact ⟨rfl, rfl⟩ | exact ⟨by rw [hdec]; rfl, rfl⟩
          · go_wp2_with (go_at_call 100; refine (hlc _).mono ?_; rintro e w' ⟨rfl, rfl⟩)
            all_goals go_ret2
            all_goals first | exact ⟨rfl, rfl⟩ | exact ⟨by rw [hdec]; rfl, rfl⟩
      | some d =>
        rw [hd] at htab
        dsimp only at htab
        have hr := Rs.hexD_range hd
        by_cases hov : 255 < acc * 16 + d.toNat
        · have hF : Rs.hexM 255 acc (c :: bs.drop (k + 1)) = .range := by simp [Rs.hexM, hd, hov]
          rw [hF] at hdec
          have iov : 255 < a * 16 + d := by omega
          clear hacc hF hov ha hd
          rcases htab with ⟨g1, g2, rfl⟩ | ⟨g1, g2, g3, rfl, g95⟩
          · go_wp2
            go_ret2
            first | exact ⟨rfl, rfl⟩ | exact ⟨by rw [hdec]; rfl, rfl⟩
          · have h95' : ((c.toNat : Int) == 95) = false := by simp; omega
            by_cases h48 : 48 ≤ (c.toNat : Int)
            · have h57 : ¬ (c.toNat : Int) ≤ 57 := by omega
              go_wp2_with (go_at_call 100; refine (hlc _).mono ?_; rintro e w' ⟨rfl, rfl⟩)
              all_goals go_ret2
              all_goals first | exact ⟨rfl, rfl⟩ | exact ⟨by rw [hdec]; rfl, rfl⟩
            · go_wp2_with (go_at_call 100; refine (hlc _).mono ?_; rintro e w' ⟨rfl, rfl⟩)
              all_goals go_ret2
              all_goals first | exact ⟨rfl, rfl⟩ | exact ⟨by rw [hdec]; rfl, rfl⟩
        · have hF : Rs.hexM 255 acc (c :: bs.drop (k + 1)) = Rs.hexM 255 (acc * 16 + d.toNat) (bs.drop (k + 1)) := by simp [Rs.hexM, hd, hov]
          have HN : Hid (a * 16 + d = ((acc * 16 + d.toNat : Nat) : Int) ∧ acc * 16 + d.toNat ≤ 255 ∧ Rs.hexM 255 0 bs = Rs.hexM 255 (acc * 16 + d.toNat) (bs.drop (k + 1))) := Lib.hid ⟨by omega, by omega, hdec.trans hF⟩
          have iov : a * 16 + d ≤ 255 := by omega
          obtain ⟨acc', hacc'⟩ : ∃ acc', acc' = acc * 16 + d.toNat := ⟨_, rfl⟩
          rw [← hacc'] at HN
          clear hacc hF hov hdec ha hd hacc'
          rcases htab with ⟨g1, g2, rfl⟩ | ⟨g1, g2, g3, rfl, g95⟩
          · go_wp2
            refine ⟨⟨k + 1, acc', _, rfl, rfl, (by first | rfl | (congr 1; omega)), by omega, ?_⟩, by simp [intOf]; omega⟩
            exact HN
          · have h95' : ((c.toNat : Int) == 95) = false := by simp; omega
            by_cases h48 : 48 ≤ (c.toNat : Int)
            · have h57 : ¬ (c.toNat : Int) ≤ 57 := by omega
              go_wp2_with (go_at_call 100; refine (hlc _).mono ?_; rintro e w' ⟨rfl, rfl⟩)
              refine ⟨⟨k + 1, acc', a * 16 + ((v : Int) - 87), rfl, (by first | rfl | (congr 1; omega)), (by first | rfl | (congr 1; omega)), by omega, HN⟩, by simp [intOf]; omega⟩
            · go_wp2_with (go_at_call 100; refine (hlc _).mono ?_; rintro e w' ⟨rfl, rfl⟩)
              refine ⟨⟨k + 1, acc', a * 16 + ((v : Int) - 87), rfl, (by first | rfl | (congr 1; omega)), (by first | rfl | (congr 1; omega)), by omega, HN⟩, by simp [intOf]; omega⟩
    · have hkk : k = t.size := by omega
      subst hkk
      have hF : Rs.hexM 255 acc (bs.drop t.size) = .ok acc := by rw [List.drop_eq_nil_of_le (by omega)]; rfl
      rw [hF] at hdec
      subst ha
      clear hacc hF a0 a1
      go_wp2
      go_ret2
      first | exact ⟨rfl, rfl⟩ | exact ⟨by rw [hdec]; rfl, rfl⟩
set_option maxHeartbeats 32000000 in
set_option maxRecDepth 100000 in
theorem pu64In_calls (t : ByteArray) (hne : t.size ≠ 0) (hmax : t.size ≤ 9223372036854775806) (w : World) :
    Calls Tryz.prog 70 #[.string t, .int .i64 16, .int .i64 64] w fun e w' => e = .returned (Lib.uintTupleM 147 18446744073709551615 (Rs.hexM 18446744073709551615 0 t.data.toList)) ∧ w' = Lib.bytesWorld w 5 t := by
  have hemp : t.toList.isEmpty = false := by
    rw [← decide_eq_emptyBytes]
    exact decide_eq_false (fun h => hne (by rw [h]; rfl))
  have hcv := Lib.run_convert_string_bytes (P := Tryz.prog) w 9 102 5 t (u := .string) Tryz.underlying9 Tryz.underlying102 Tryz.underlying5
  have hB : ∀ j, j < t.size → (Lib.bytesWorld w 5 t).cell? ⟨w.heap.size, j, none⟩ = some (.int .u8 (t.data.toList.getD j 0).toNat) := fun j hj => Lib.bytesWorld_cell w 5 t j hj
  obtain ⟨W1, hW1⟩ : ∃ W1, W1 = Lib.bytesWorld w 5 t := ⟨_, rfl⟩
  rw [← hW1] at hcv hB ⊢
  clear hW1
  obtain ⟨bs, hL⟩ : ∃ bs, bs = t.data.toList := ⟨_, rfl⟩
  have hLn : bs.length = t.size := by rw [hL, Lib.size_eq]
  rw [← hL] at hB ⊢
  clear hL
  have hmv : IntKind.u64.wrap (IntKind.u64.wrap 18446744073709551616 - 1) = 18446744073709551615 := by
    rw [IntKind.wrap_u64, IntKind.wrap_u64]
    decide
  go_enter Tryz.func70, Tryz.ntmps70
  go_wp2
  go_loop [12, 13, 101] (fun vu vn vi => ∃ (k acc : Nat) (a : Int), vu = .bool false ∧ vn = .int .u64 a ∧ vi = .int .i64 k ∧ k ≤ t.size ∧ Hid (a = (acc : Int) ∧ acc ≤ 18446744073709551615 ∧ Rs.hexM 18446744073709551615 0 bs = Rs.hexM 18446744073709551615 acc (bs.drop k)))
    (fun _ _ vi => t.size - (intOf vi).toNat)
  case atStart => exact ⟨0, 0, 0, rfl, rfl, rfl, by omega, rfl, by omega, rfl⟩
  case round =>
    obtain ⟨k, acc, a, rfl, rfl, rfl, hk, hh⟩ := hrel
    obtain ⟨ha, hacc, hdec⟩ := hh.out
    clear hh
    have a0 : 0 ≤ a := by omega
    have a1 : a ≤ 18446744073709551615 := by omega
    by_cases hkn : k < t.size
    · have hc := hB k hkn
      have hdrop : bs.drop k = bs[k]'(by omega) :: bs.drop (k + 1) := List.drop_eq_getElem_cons (by omega)
      have hget : bs.getD k 0 = bs[k]'(by omega) := by simp [List.getD, List.getElem?_eq_getElem (show k < bs.length by omega)]
      rw [hdrop] at hdec
      rw [hget] at hc
      generalize bs[k]'(by omega) = c at hc hdec
      have hc256 : c.toNat < 256 := c.toNat_lt
      clear hB hdrop hget
      have htab := Rs.low_tab c.toNat hc256
      have hlow := lower_eq c.toNat hc256
      obtain ⟨v, hv⟩ : ∃ v, v = Rs.lowB c.toNat := ⟨_, rfl⟩
      rw [← hv] at hlow htab
      clear hv
      have hlc : ∀ W : World, Calls Tryz.prog 100 #[.int .u8 (c.toNat : Int)] W fun e w' => e = .returned (.int .u8 (v : Int)) ∧ W = w' := fun W => by rw [← hlow]; exact lower_calls _ _
      clear hlow
      obtain ⟨htab, hv256⟩ := htab
      cases hd : Rs.hexD (c.toNat : Int) with
      | none =>
        rw [hd] at htab
        obtain ⟨hnd, hnl⟩ := htab
        have hF : Rs.hexM 18446744073709551615 acc (c :: bs.drop (k + 1)) = Lib.NumEnd.syntax := by simp [Rs.hexM, hd]
        rw [hF] at hdec
        clear hacc hF ha hd
        by_cases h95 : (c.toNat : Int) = 95
        · have hl95 : ∀ W : World, Calls Tryz.prog 100 #[.int .u8 95] W fun e w' => e = .returned (.int .u8 127) ∧ W = w' := fun W => lower_calls 95 W
          clear hlc hnl
          rw [h95] at hc
          clear h95
          go_wp2_with (go_at_call 100; refine (hl95 _).mono ?_; rintro e w' ⟨rfl, rfl⟩)
          all_goals go_ret2
          all_goals first | exact ⟨rfl, rfl⟩ | exact ⟨by rw [hdec]; rfl, rfl⟩
        have h95' : ((c.toNat : Int) == 95) = false := by simpa using h95
        by_cases h48 : 48 ≤ (c.toNat : Int)
        · have h57 : ¬ (c.toNat : Int) ≤ 57 := by omega
          rcases hnl with hnl | hnl
          · go_wp2_with (go_at_call 100; refine (hlc _).mono ?_; rintro e w' ⟨rfl, rfl⟩)
            all_goals go_ret2
            all_goals first | exact ⟨rfl, rfl⟩ | exact ⟨by rw [hdec]; rfl, rfl⟩
          · go_wp2_with (go_at_call 100; refine (hlc _).mono ?_; rintro e w' ⟨rfl, rfl⟩)
            all_goals go_ret2
            all_goals first | exact ⟨rfl, rfl⟩ | exact ⟨by rw [hdec]; rfl, rfl⟩
        · rcases hnl with hnl | hnl
          · go_wp2_with (go_at_call 100; refine (hlc _).mono ?_; rintro e w' ⟨rfl, rfl⟩)
            all_goals go_ret2
            all_goals first | exact ⟨rfl, rfl⟩ | exact ⟨by rw [hdec]; rfl, rfl⟩
          · go_wp2_with (go_at_call 100; refine (hlc _).mono ?_; rintro e w' ⟨rfl, rfl⟩)
            all_goals go_ret2
            all_goals first | exact ⟨rfl, rfl⟩ | exact ⟨by rw [hdec]; rfl, rfl⟩
      | some d =>
        rw [hd] at htab
        dsimp only at htab
        have hr := Rs.hexD_range hd
        by_cases hov : 18446744073709551615 < acc * 16 + d.toNat
        · have hF : Rs.hexM 18446744073709551615 acc (c :: bs.drop (k + 1)) = .range := by simp [Rs.hexM, hd, hov]
          rw [hF] at hdec
          have iov : 1152921504606846976 ≤ a := by omega
          clear hacc hF hov ha hd
          rcases htab with ⟨g1, g2, rfl⟩ | ⟨g1, g2, g3, rfl, g95⟩
          · go_wp2
            go_ret2
            first | exact ⟨rfl, rfl⟩ | exact ⟨by rw [hdec]; rfl, rfl⟩
          · have h95' : ((c.toNat : Int) == 95) = false := by simp; omega
            by_cases h48 : 48 ≤ (c.toNat : Int)
            · have h57 : ¬ (c.toNat : Int) ≤ 57 := by omega
              go_wp2_with (go_at_call 100; refine (hlc _).mono ?_; rintro e w' ⟨rfl, rfl⟩)
              all_goals go_ret2
              all_goals first | exact ⟨rfl, rfl⟩ | exact ⟨by rw [hdec]; rfl, rfl⟩
            · go_wp2_with (go_at_call 100; refine (hlc _).mono ?_; rintro e w' ⟨rfl, rfl⟩)
              all_goals go_ret2
              all_goals first | exact ⟨rfl, rfl⟩ | exact ⟨by rw [hdec]; rfl, rfl⟩
        · have hF : Rs.hexM 18446744073709551615 acc (c :: bs.drop (k + 1)) = Rs.hexM 18446744073709551615 (acc * 16 + d.toNat) (bs.drop (k + 1)) := by simp [Rs.hexM, hd, hov]
          have HN : Hid (a * 16 + d = ((acc * 16 + d.toNat : Nat) : Int) ∧ acc * 16 + d.toNat ≤ 18446744073709551615 ∧ Rs.hexM 18446744073709551615 0 bs = Rs.hexM 18446744073709551615 (acc * 16 + d.toNat) (bs.drop (k + 1))) := Lib.hid ⟨by omega, by omega, hdec.trans hF⟩
          have iov : a * 16 + d ≤ 18446744073709551615 := by omega
          have icut : a < 1152921504606846976 := by omega
          obtain ⟨acc', hacc'⟩ : ∃ acc', acc' = acc * 16 + d.toNat := ⟨_, rfl⟩
          rw [← hacc'] at HN
          clear hacc hF hov hdec ha hd hacc'
          rcases htab with ⟨g1, g2, rfl⟩ | ⟨g1, g2, g3, rfl, g95⟩
          · go_wp2
            refine ⟨⟨k + 1, acc', _, rfl, rfl, (by first | rfl | (congr 1; omega)), by omega, ?_⟩, by simp [intOf]; omega⟩
            exact HN
          · have h95' : ((c.toNat : Int) == 95) = false := by simp; omega
            by_cases h48 : 48 ≤ (c.toNat : Int)
            · have h57 : ¬ (c.toNat : Int) ≤ 57 := by omega
              go_wp2_with (go_at_call 100; refine (hlc _).mono ?_; rintro e w' ⟨rfl, rfl⟩)
              refine ⟨⟨k + 1, acc', a * 16 + ((v : Int) - 87), rfl, (by first | rfl | (congr 1; omega)), (by first | rfl | (congr 1; omega)), by omega, HN⟩, by simp [intOf]; omega⟩
            · go_wp2_with (go_at_call 100; refine (hlc _).mono ?_; rintro e w' ⟨rfl, rfl⟩)
              refine ⟨⟨k + 1, acc', a * 16 + ((v : Int) - 87), rfl, (by first | rfl | (congr 1; omega)), (by first | rfl | (congr 1; omega)), by omega, HN⟩, by simp [intOf]; omega⟩
    · have hkk : k = t.size := by omega
      subst hkk
      have hF : Rs.hexM 18446744073709551615 acc (bs.drop t.size) = .ok acc := by rw [List.drop_eq_nil_of_le (by omega)]; rfl
      rw [hF] at hdec
      subst ha
      clear hacc hF a0 a1
      go_wp2
      go_ret2
      first | exact ⟨rfl, rfl⟩ | exact ⟨by rw [hdec]; rfl, rfl⟩
end Go.Proofs.YtmagojckhfkcdaaGreatDoor
/- strconv.ParseUint at base 16, 8 bits and 64 bits: the public function. -/
namespace Go.Proofs.YtmagojckhfkcdaaGreatDoor
open Go.RowKit
/-- the two errors of package strconv -/
structure Es (w : World) : Prop where
  syn : ∃ te pe, w.cell? ⟨2, 0, none⟩ = some (.iface te pe)
  rng : ∃ te pe, w.cell? ⟨3, 0, none⟩ = some (.iface te pe)
theorem Es.below {w w1 : World} (h : Es w) (hb : Below w.heap.size w w1) : Es w1 := by
  refine ⟨?_, ?_⟩
  · obtain ⟨te, pe, e⟩ := h.syn
    exact ⟨te, pe, (hb.cell (p := ⟨2, 0, none⟩) (World.block_lt_of_cell? w _ e)).trans e⟩
  · obtain ⟨te, pe, e⟩ := h.rng
    exact ⟨te, pe, (hb.cell (p := ⟨3, 0, none⟩) (World.block_lt_of_cell? w _ e)).trans e⟩
set_option maxHeartbeats 1000000 in
set_option maxRecDepth 100000 in
theorem pu8In_empty (w : World) :
    Calls Tryz.prog 70 #[.string ⟨#[]⟩, .int .i64 16, .int .i64 8] w fun e w' => e = .returned (.tuple #[.int .u64 0, .iface 147 (.int .i64 2)]) ∧ w' = w := by
  go_enter Tryz.func70, Tryz.ntmps70
  go_wp2
  go_ret2
  exact ⟨rfl, rfl⟩

set_option maxHeartbeats 1000000 in
set_option maxRecDepth 100000 in
theorem pu8_some (t : ByteArray) (hne : t.size ≠ 0) (hmax : t.size ≤ 1100000) (w : World) (n : Nat) (h : Rs.hexM 255 0 t.data.toList = .ok n) :
    Calls Tryz.prog 47 #[.string t, .int .i64 16, .int .i64 8] w fun e w' => e = .returned (.tuple #[.int .u64 n, .nilIface]) ∧ Below w.heap.size w w' := by
  have hp := pu8In_calls t hne (by omega) w
  rw [h] at hp
  have hb := bytesBelow w t
  generalize Lib.bytesWorld w 5 t = w1 at hp hb
  dsimp only [Lib.uintTupleM] at hp
  go_enter Tryz.func47, Tryz.ntmps47
  go_wp2_with (go_at_call 70; refine hp.mono ?_; clear hp; rintro e w' ⟨rfl, rfl⟩)
  go_ret2
  exact ⟨rfl, hb⟩

set_option maxHeartbeats 1000000 in
set_option maxRecDepth 100000 in
theorem pu8_none (t : ByteArray) (hmax : t.size ≤ 1100000) (w : World) (hL : Es w) (h : t.size = 0 ∨ ∀ n, Rs.hexM 255 0 t.data.toList ≠ .ok n) :
    Calls Tryz.prog 47 #[.string t, .int .i64 16, .int .i64 8] w fun e w' => ∃ x te pe, (0 ≤ x ∧ x ≤ 255) ∧ e = .returned (.tuple #[.int .u64 x, .iface te pe]) ∧ Below w.heap.size w w' := by
  have hp : ∃ (x k : Int) (w1 : World), (0 ≤ x ∧ x ≤ 255) ∧ (k = 1 ∨ k = 2) ∧ Below w.heap.size w w1 ∧ Calls Tryz.prog 70 #[.string t, .int .i64 16, .int .i64 8] w fun e w' => e = .returned (.tuple #[.int .u64 x, .iface 147 (.int .i64 k)]) ∧ w' = w1 := by
    by_cases h0 : t.size = 0
    · have ht : t = ⟨#[]⟩ := by
        apply ByteArray.ext
        exact Array.eq_empty_of_size_eq_zero h0
      subst ht
      exact ⟨0, 2, w, ⟨by decide, by decide⟩, .inr rfl, Below.refl _ _, pu8In_empty w⟩
    · have hp := pu8In_calls t h0 (by omega) w
      have hb := bytesBelow w t
      match hx : Rs.hexM 255 0 t.data.toList with
      | .ok n =>
        rcases h with h | h
        · exact absurd h h0
        · exact absurd hx (h n)
      | Lib.NumEnd.syntax => rw [hx] at hp; exact ⟨0, 2, _, ⟨by decide, by decide⟩, .inr rfl, hb, hp⟩
      | .range => rw [hx] at hp; exact ⟨255, 1, _, ⟨by decide, by decide⟩, .inl rfl, hb, hp⟩
  obtain ⟨x, k, w1, hx, hk, hb, hp⟩ := hp
  have HX := Lib.hid hx
  clear hx
  have hL1 := hL.below hb
  clear h
  rcases hk with rfl | rfl
  · obtain ⟨te, pe, hc⟩ := hL1.rng
    have ht := Tryz.strconv_toError_range ⟨#[80, 97, 114, 115, 101, 85, 105, 110, 116]⟩ t 16 8 _ w1 (by omega) hc (.inr ⟨_, _, rfl⟩)
    have HL := Lib.hid (show _ ∧ _ from ⟨hL, hL1⟩)
    clear hL hL1 hc
    go_enter Tryz.func47, Tryz.ntmps47
    go_wp2_with (first
      | (go_at_call 70; refine hp.mono ?_; clear hp; rintro e w' ⟨rfl, rfl⟩)
      | (go_at_call 69; refine ht.mono ?_; clear ht; rintro e w2 ⟨N, rfl, _, _, hb2⟩))
    go_ret2
    exact ⟨_, _, _, HX.out, rfl, hb.trans (hb2.mono hb.size)⟩
  · obtain ⟨te, pe, hc⟩ := hL1.syn
    have ht := Tryz.strconv_toError_syntax ⟨#[80, 97, 114, 115, 101, 85, 105, 110, 116]⟩ t 16 8 _ w1 (by omega) hc (.inr ⟨_, _, rfl⟩)
    have HL := Lib.hid (show _ ∧ _ from ⟨hL, hL1⟩)
    clear hL hL1 hc
    go_enter Tryz.func47, Tryz.ntmps47
    go_wp2_with (first
      | (go_at_call 70; refine hp.mono ?_; clear hp; rintro e w' ⟨rfl, rfl⟩)
      | (go_at_call 69; refine ht.mono ?_; clear ht; rintro e w2 ⟨N, rfl, _, _, hb2⟩))
    go_ret2
    exact ⟨_, _, _, HX.out, rfl, hb.trans (hb2.mono hb.size)⟩

set_option maxHeartbeats 1000000 in
set_option maxRecDepth 100000 in
theorem pu64In_empty (w : World) :
    Calls Tryz.prog 70 #[.string ⟨#[]⟩, .int .i64 16, .int .i64 64] w fun e w' => e = .returned (.tuple #[.int .u64 0, .iface 147 (.int .i64 2)]) ∧ w' = w := by
  go_enter Tryz.func70, Tryz.ntmps70
  go_wp2
  go_ret2
  exact ⟨rfl, rfl⟩

set_option maxHeartbeats 1000000 in
set_option maxRecDepth 100000 in
theorem pu64_some (t : ByteArray) (hne : t.size ≠ 0) (hmax : t.size ≤ 1100000) (w : World) (n : Nat) (h : Rs.hexM 18446744073709551615 0 t.data.toList = .ok n) :
    Calls Tryz.prog 47 #[.string t, .int .i64 16, .int .i64 64] w fun e w' => e = .returned (.tuple #[.int .u64 n, .nilIface]) ∧ Below w.heap.size w w' := by
  have hp := pu64In_calls t hne (by omega) w
  rw [h] at hp
  have hb := bytesBelow w t
  generalize Lib.bytesWorld w 5 t = w1 at hp hb
  dsimp only [Lib.uintTupleM] at hp
  go_enter Tryz.func47, Tryz.ntmps47
  go_wp2_with (go_at_call 70; refine hp.mono ?_; clear hp; rintro e w' ⟨rfl, rfl⟩)
  go_ret2
  exact ⟨rfl, hb⟩

set_option maxHeartbeats 1000000 in
set_option maxRecDepth 100000 in
theorem pu64_none (t : ByteArray) (hmax : t.size ≤ 1100000) (w : World) (hL : Es w) (h : t.size = 0 ∨ ∀ n, Rs.hexM 18446744073709551615 0 t.data.toList ≠ .ok n) :
    Calls Tryz.prog 47 #[.string t, .int .i64 16, .int .i64 64] w fun e w' => ∃ x te pe, (0 ≤ x ∧ x ≤ 18446744073709551615) ∧ e = .returned (.tuple #[.int .u64 x, .iface te pe]) ∧ Below w.heap.size w w' := by
  have hp : ∃ (x k : Int) (w1 : World), (0 ≤ x ∧ x ≤ 18446744073709551615) ∧ (k = 1 ∨ k = 2) ∧ Below w.heap.size w w1 ∧ Calls Tryz.prog 70 #[.string t, .int .i64 16, .int .i64 64] w fun e w' => e = .returned (.tuple #[.int .u64 x, .iface 147 (.int .i64 k)]) ∧ w' = w1 := by
    by_cases h0 : t.size = 0
    · have ht : t = ⟨#[]⟩ := by
        apply ByteArray.ext
        exact Array.eq_empty_of_size_eq_zero h0
      subst ht
      exact ⟨0, 2, w, ⟨by decide, by decide⟩, .inr rfl, Below.refl _ _, pu64In_empty w⟩
    · have hp := pu64In_calls t h0 (by omega) w
      have hb := bytesBelow w t
      match hx : Rs.hexM 18446744073709551615 0 t.data.toList with
      | .ok n =>
        rcases h with h | h
        · exact absurd h h0
        · exact absurd hx (h n)
      | Lib.NumEnd.syntax => rw [hx] at hp; exact ⟨0, 2, _, ⟨by decide, by decide⟩, .inr rfl, hb, hp⟩
      | .range => rw [hx] at hp; exact ⟨18446744073709551615, 1, _, ⟨by decide, by decide⟩, .inl rfl, hb, hp⟩
  obtain ⟨x, k, w1, hx, hk, hb, hp⟩ := hp
  have HX := Lib.hid hx
  clear hx
  have hL1 := hL.below hb
  clear h
  rcases hk with rfl | rfl
  · obtain ⟨te, pe, hc⟩ := hL1.rng
    have ht := Tryz.strconv_toError_range ⟨#[80, 97, 114, 115, 101, 85, 105, 110, 116]⟩ t 16 64 _ w1 (by omega) hc (.inr ⟨_, _, rfl⟩)
    have HL := Lib.hid (show _ ∧ _ from ⟨hL, hL1⟩)
    clear hL hL1 hc
    go_enter Tryz.func47, Tryz.ntmps47
    go_wp2_with (first
      | (go_at_call 70; refine hp.mono ?_; clear hp; rintro e w' ⟨rfl, rfl⟩)
      | (go_at_call 69; refine ht.mono ?_; clear ht; rintro e w2 ⟨N, rfl, _, _, hb2⟩))
    go_ret2
    exact ⟨_, _, _, HX.out, rfl, hb.trans (hb2.mono hb.size)⟩
  · obtain ⟨te, pe, hc⟩ := hL1.syn
    have ht := Tryz.strconv_toError_syntax ⟨#[80, 97, 114, 115, 101, 85, 105, 110, 116]⟩ t 16 64 _ w1 (by omega) hc (.inr ⟨_, _, rfl⟩)
    have HL := Lib.hid (show _ ∧ _ from ⟨hL, hL1⟩)
    clear hL hL1 hc
    go_enter Tryz.func47, Tryz.ntmps47
    go_wp2_with (first
      | (go_at_call 70; refine hp.mono ?_; clear hp; rintro e w' ⟨rfl, rfl⟩)
      | (go_at_call 69; refine ht.mono ?_; clear ht; rintro e w2 ⟨N, rfl, _, _, hb2⟩))
    go_ret2
    exact ⟨_, _, _, HX.out, rfl, hb.trans (hb2.mono hb.size)⟩

end Go.Proofs.YtmagojckhfkcdaaGreatDoor
