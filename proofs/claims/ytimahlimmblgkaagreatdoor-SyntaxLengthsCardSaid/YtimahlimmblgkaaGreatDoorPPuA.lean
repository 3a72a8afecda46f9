/- Texts of the claim, put together: PuA. -/
import Derived.Test.YtimahlimmblgkaaGreatDoorPBaA
import Derived.Test.YtimahlimmblgkaaGreatDoorPPlA
import Derived.Lib.Strings
import Derived.Lib.Walk
import Derived.Lib.ConvBytes
import Derived.Lib.AtoiAllMem
import Derived.Lib.ParseIntB
import Derived.Lib.ParseIntBMem
import Derived.Lib.IfaceEq
import Derived.Laws.Strings3
import Derived.Laws.Closers25
import Derived.Laws.Closers25b
import Derived.Laws.BitsAllLaws
import Derived.Laws.BitsLemmas
import Derived.BigCall
import Derived.BigGuard
import Derived.Test.YtimahlimmblgkaaGreatDoorPLaid
import Derived.Laws.Bits64
import Derived.Outline
import Derived.Lib.UnsafeStr
namespace Go.Proofs.YtimahlimmblgkaaGreatDoor
namespace Rs
def hexM (M acc : Nat) : List UInt8 → Lib.NumEnd Nat
  | [] => .ok acc
  | c :: r => match hexD (c.toNat : Int) with
    | some d => if M < acc * 16 + d.toNat then .range else hexM M (acc * 16 + d.toNat) r
    | none => Lib.NumEnd.syntax
theorem hexM_some : ∀ (l : List UInt8) (M acc : Nat) (x : Int), hexF l (acc : Int) = some x → x ≤ (M : Int) → hexM M acc l = .ok x.toNat
  | [], M, acc, x, h, _ => by simp only [hexF, Option.some.injEq] at h; subst h; rfl
  | b :: l, M, acc, x, h, hM => by
    unfold hexF at h
    unfold hexM
    cases hd : hexD (b.toNat : Int) with
    | none => rw [hd] at h; cases h
    | some d =>
      rw [hd] at h
      have hr := hexD_range hd
      have e : (16 * (acc : Int) + d) = ((acc * 16 + d.toNat : Nat) : Int) := by omega
      dsimp only at h ⊢
      rw [e] at h
      have h1 := hexF_ge l _ x (by omega) h
      rw [if_neg (by omega)]
      exact hexM_some l M _ x h hM
theorem hexM_none : ∀ (l : List UInt8) (M acc : Nat), hexF l (acc : Int) = none → ∀ n, hexM M acc l ≠ .ok n
  | [], M, acc, h, n => by simp [hexF] at h
  | b :: l, M, acc, h, n => by
    unfold hexF at h
    unfold hexM
    cases hd : hexD (b.toNat : Int) with
    | none => simp
    | some d =>
      rw [hd] at h
      have hr := hexD_range hd
      have e : (16 * (acc : Int) + d) = ((acc * 16 + d.toNat : Nat) : Int) := by omega
      dsimp only at h ⊢
      rw [e] at h
      split
      · simp
      · exact hexM_none l M _ h n
/-- the byte with the bit 32 set -/
def lowB (c : Nat) : Nat := c ||| 32
def lowT (c : Nat) : Bool := (match hexD (c : Int) with
  | some d => (decide (c ≤ 57) && decide (48 ≤ c) && decide (d = (c : Int) - 48)) || (!(decide (48 ≤ c) && decide (c ≤ 57)) && decide (97 ≤ lowB c) && decide (lowB c ≤ 102) && decide (d = (lowB c : Int) - 87) && decide (c ≠ 95))
  | none => !(decide (48 ≤ c) && decide (c ≤ 57)) && (decide (lowB c < 97) || decide (103 ≤ lowB c))) && decide (lowB c < 256)
theorem low_all : ∀ c : Fin 256, lowT c.val = true := by decide +kernel
theorem low_tab (c : Nat) (hc : c < 256) : (match hexD (c : Int) with
    | some d => (c ≤ 57 ∧ 48 ≤ c ∧ d = (c : Int) - 48) ∨ (¬ (48 ≤ c ∧ c ≤ 57) ∧ 97 ≤ lowB c ∧ lowB c ≤ 102 ∧ d = (lowB c : Int) - 87 ∧ c ≠ 95)
    | none => ¬ (48 ≤ c ∧ c ≤ 57) ∧ (lowB c < 97 ∨ 103 ≤ lowB c)) ∧ lowB c < 256 := by
  have h := low_all ⟨c, hc⟩
  unfold lowT at h
  dsimp only at h
  cases hd : hexD (c : Int) with
  | none => rw [hd] at h; simp at h ⊢; omega
  | some d => rw [hd] at h; simp at h ⊢; omega
end Rs
open Go.RowKit
theorem lower_calls (c : Int) (w : World) : Calls Tryz.prog 195 #[.int .u8 c] w fun e w' => e = .returned (.int .u8 (bits .or .u8 c 32)) ∧ w = w' := by
  go_enter Tryz.func195, Tryz.ntmps195
  go_wp2
  go_ret
  exact ⟨rfl, rfl⟩
theorem lower_eq (c : Nat) (hc : c < 256) : bits .or .u8 (c : Int) 32 = (Rs.lowB c : Int) := by
  show bits .or .u8 (c : Int) ((32 : Nat) : Int) = _
  unfold Rs.lowB
  have h : ∀ c : Fin 256, bits .or .u8 (c.val : Int) ((32 : Nat) : Int) = ((c.val ||| 32 : Nat) : Int) := by decide +kernel
  exact h ⟨c, hc⟩
set_option maxHeartbeats 32000000 in
set_option maxRecDepth 100000 in
theorem puIn_calls (t : ByteArray) (hne : t.size ≠ 0) (hmax : t.size ≤ 9223372036854775806) (w : World) :
    Calls Tryz.prog 180 #[.string t, .int .i64 16, .int .i64 32] w fun e w' => e = .returned (Lib.uintTupleM 227 4294967295 (Rs.hexM 4294967295 0 t.data.toList)) ∧ w' = Lib.bytesWorld w 5 t := by
  have hemp : t.toList.isEmpty = false := by
    rw [← decide_eq_emptyBytes]
    exact decide_eq_false (fun h => hne (by rw [h]; rfl))
  have hcv := Lib.run_convert_string_bytes (P := Tryz.prog) w 9 71 5 t (u := .string) Tryz.underlying9 Tryz.underlying71 Tryz.underlying5
  have hB : ∀ j, j < t.size → (Lib.bytesWorld w 5 t).cell? ⟨w.heap.size, j, none⟩ = some (.int .u8 (t.data.toList.getD j 0).toNat) := fun j hj => Lib.bytesWorld_cell w 5 t j hj
  obtain ⟨W1, hW1⟩ : ∃ W1, W1 = Lib.bytesWorld w 5 t := ⟨_, rfl⟩
  rw [← hW1] at hcv hB ⊢
  clear hW1
  obtain ⟨bs, hL⟩ : ∃ bs, bs = t.data.toList := ⟨_, rfl⟩
  have hLn : bs.length = t.size := by rw [hL, Lib.size_eq]
  rw [← hL] at hB ⊢
  clear hL
  have hmv : IntKind.u64.wrap (IntKind.u64.wrap 4294967296 - 1) = 4294967295 := by
    rw [IntKind.wrap_u64, IntKind.wrap_u64]
    decide
  go_enter Tryz.func180, Tryz.ntmps180
  go_wp2
  go_loop [12, 13, 101] (fun vu vn vi => ∃ (k acc : Nat) (a : Int), vu = .bool false ∧ vn = .int .u64 a ∧ vi = .int .i64 k ∧ k ≤ t.size ∧ Hid (a = (acc : Int) ∧ acc ≤ 4294967295 ∧ Rs.hexM 4294967295 0 bs = Rs.hexM 4294967295 acc (bs.drop k)))
    (fun _ _ vi => t.size - (intOf vi).toNat)
  case atStart => exact ⟨0, 0, 0, rfl, rfl, rfl, by omega, rfl, by omega, rfl⟩
  case round =>
    obtain ⟨k, acc, a, rfl, rfl, rfl, hk, hh⟩ := hrel
    obtain ⟨ha, hacc, hdec⟩ := hh.out
    clear hh
    have a0 : 0 ≤ a := by omega
    have a1 : a ≤ 4294967295 := by omega
    by_cases hkn : k < t.size
    · have hc := hB k hkn
      have hdrop : bs.drop k = bs[k]'(by omega) :: bs.drop (k + 1) := List.drop_eq_getElem_cons (by omega)
      have hget : bs.getD k 0 = bs[k]'(by omega) := by simp [List.getD, List.getElem?_eq_getElem (show k < bs.length by omega)]
      rw [hdrop] at hdec
      rw [hget] at hc
      generalize bs[k]'(by omega) = c at hc hdec
      have hc256 : c.toNat < 256 := c.toNat_lt
      clear hB hdrop hget
      have htab := Rs.low_tab c.toNat hc256
      have hlow := lower_eq c.toNat hc256
      obtain ⟨v, hv⟩ : ∃ v, v = Rs.lowB c.toNat := ⟨_, rfl⟩
      rw [← hv] at hlow htab
      clear hv
      have hlc : ∀ W : World, Calls Tryz.prog 195 #[.int .u8 (c.toNat : Int)] W fun e w' => e = .returned (.int .u8 (v : Int)) ∧ W = w' := fun W => by rw [← hlow]; exact lower_calls _ _
      clear hlow
      obtain ⟨htab, hv256⟩ := htab
      cases hd : Rs.hexD (c.toNat : Int) with
      | none =>
        rw [hd] at htab
        obtain ⟨hnd, hnl⟩ := htab
        have hF : Rs.hexM 4294967295 acc (c :: bs.drop (k + 1)) = Lib.NumEnd.syntax := by simp [Rs.hexM, hd]
        rw [hF] at hdec
        clear hacc hF ha hd
        by_cases h95 : (c.toNat : Int) = 95
        · have hl95 : ∀ W : World, Calls Tryz.prog 195 #[.int .u8 95] W fun e w' => e = .returned (.int .u8 127) ∧ W = w' := fun W => lower_calls 95 W
          clear hlc hnl
          rw [h95] at hc
          clear h95
          go_wp2_with (go_at_call 195; refine (hl95 _).mono ?_; rintro e w' ⟨rfl, rfl⟩)
          all_goals go_ret2
          all_goals first | exact ⟨rfl, rfl⟩ | exact ⟨by rw [hdec]; rfl, rfl⟩
        have h95' : ((c.toNat : Int) == 95) = false := by simpa using h95
        by_cases h48 : 48 ≤ (c.toNat : Int)
        · have h57 : ¬ (c.toNat : Int) ≤ 57 := by omega
          rcases hnl with hnl | hnl
          · go_wp2_with (go_at_call 195; refine (hlc _).mono ?_; rintro e w' ⟨rfl, rfl⟩)
            all_goals go_ret2
            all_goals first | exact ⟨rfl, rfl⟩ | exact ⟨by rw [hdec]; rfl, rfl⟩
          · go_wp2_with (go_at_call 195; refine (hlc _).mono ?_; rintro e w' ⟨rfl, rfl⟩)
            all_goals go_ret2
            all_goals first | exact ⟨rfl, rfl⟩ | exact ⟨by rw [hdec]; rfl, rfl⟩
        · rcases hnl with hnl | hnl
          · go_wp2_with (go_at_call 195; refine (hlc _).mono ?_; rintro e w' ⟨rfl, rfl⟩)
            all_goals go_ret2
            all_goals first | exact ⟨rfl, rfl⟩ | exact ⟨by rw [hdec]; rfl, rfl⟩
          · go_wp2_with (go_at_call 195; refine (hlc _).mono ?_; rintro e w' ⟨rfl, rfl⟩)
            all_goals go_ret2
            all_goals first | exact ⟨rfl, rfl⟩ | exact ⟨by rw [hdec]; rfl, rfl⟩
      | some d =>
        rw [hd] at htab
        dsimp only at htab
        have hr := Rs.hexD_range hd
        by_cases hov : 4294967295 < acc * 16 + d.toNat
        · have hF : Rs.hexM 4294967295 acc (c :: bs.drop (k + 1)) = .range := by simp [Rs.hexM, hd, hov]
          rw [hF] at hdec
          have iov : 4294967295 < a * 16 + d := by omega
          clear hacc hF hov ha hd
          rcases htab with ⟨g1, g2, rfl⟩ | ⟨g1, g2, g3, rfl, g95⟩
          · go_wp2
            go_ret2
            first | exact ⟨rfl, rfl⟩ | exact ⟨by rw [hdec]; rfl, rfl⟩
          · have h95' : ((c.toNat : Int) == 95) = false := by simp; omega
            by_cases h48 : 48 ≤ (c.toNat : Int)
            · have h57 : ¬ (c.toNat : Int) ≤ 57 := by omega
              go_wp2_with (go_at_call 195; refine (hlc _).mono ?_; rintro e w' ⟨rfl, rfl⟩)
              all_goals go_ret2
              all_goals first | exact ⟨rfl, rfl⟩ | exact ⟨by rw [hdec]; rfl, rfl⟩
            · go_wp2_with (go_at_call 195; refine (hlc _).mono ?_; rintro e w' ⟨rfl, rfl⟩)
              all_goals go_ret2
              all_goals first | exact ⟨rfl, rfl⟩ | exact ⟨by rw [hdec]; rfl, rfl⟩
        · have hF : Rs.hexM 4294967295 acc (c :: bs.drop (k + 1)) = Rs.hexM 4294967295 (acc * 16 + d.toNat) (bs.drop (k + 1)) := by simp [Rs.hexM, hd, hov]
          have HN : Hid (a * 16 + d = ((acc * 16 + d.toNat : Nat) : Int) ∧ acc * 16 + d.toNat ≤ 4294967295 ∧ Rs.hexM 4294967295 0 bs = Rs.hexM 4294967295 (acc * 16 + d.toNat) (bs.drop (k + 1))) := Lib.hid ⟨by omega, by omega, hdec.trans hF⟩
          have iov : a * 16 + d ≤ 4294967295 := by omega
          obtain ⟨acc', hacc'⟩ : ∃ acc', acc' = acc * 16 + d.toNat := ⟨_, rfl⟩
          rw [← hacc'] at HN
          clear hacc hF hov hdec ha hd hacc'
          rcases htab with ⟨g1, g2, rfl⟩ | ⟨g1, g2, g3, rfl, g95⟩
          · go_wp2
            refine ⟨⟨k + 1, acc', _, rfl, rfl, (by first | rfl | (congr 1; omega)), by omega, ?_⟩, by simp [intOf]; omega⟩
            exact HN
          · have h95' : ((c.toNat : Int) == 95) = false := by simp; omega
            by_cases h48 : 48 ≤ (c.toNat : Int)
            · have h57 : ¬ (c.toNat : Int) ≤ 57 := by omega
              go_wp2_with (go_at_call 195; refine (hlc _).mono ?_; rintro e w' ⟨rfl, rfl⟩)
              refine ⟨⟨k + 1, acc', a * 16 + ((v : Int) - 87), rfl, (by first | rfl | (congr 1; omega)), (by first | rfl | (congr 1; omega)), by omega, HN⟩, by simp [intOf]; omega⟩
            · go_wp2_with (go_at_call 195; refine (hlc _).mono ?_; rintro e w' ⟨rfl, rfl⟩)
              refine ⟨⟨k + 1, acc', a * 16 + ((v : Int) - 87), rfl, (by first | rfl | (congr 1; omega)), (by first | rfl | (congr 1; omega)), by omega, HN⟩, by simp [intOf]; omega⟩
    · have hkk : k = t.size := by omega
      subst hkk
      have hF : Rs.hexM 4294967295 acc (bs.drop t.size) = .ok acc := by rw [List.drop_eq_nil_of_le (by omega)]; rfl
      rw [hF] at hdec
      subst ha
      clear hacc hF a0 a1
      go_wp2
      go_ret2
      first | exact ⟨rfl, rfl⟩ | exact ⟨by rw [hdec]; rfl, rfl⟩
end Go.Proofs.YtimahlimmblgkaaGreatDoor
namespace Go.Proofs.YtimahlimmblgkaaGreatDoor
open Go.RowKit
structure Lv (w : World) : Prop where
  sz : max (max 9 5) 6 < w.heap.size
  syn : ∃ te pe, w.cell? ⟨5, 0, none⟩ = some (.iface te pe)
  rng : ∃ te pe, w.cell? ⟨6, 0, none⟩ = some (.iface te pe)
  tab : Lib.Utf8Tabs 1 2 w
  bru : w.cell? ⟨9, 15, none⟩ = some (.int .u8 4)
theorem cell_ltP {W : World} {g o : Nat} {v : Value} (h : W.cell? ⟨g, o, none⟩ = some v) : g < W.heap.size := by
  unfold World.cell? at h
  rcases Nat.lt_or_ge g W.heap.size with h' | h'
  · exact h'
  · simp [Array.getElem?_eq_none h'] at h
theorem Lv.below {w w1 : World} (h : Lv w) (hb : Below w.heap.size w w1) : Lv w1 := by
  have hs := h.sz
  refine ⟨by have := hb.size; omega, ?_, ?_, Utf8Tabs_below h.tab hb, ?_⟩
  · obtain ⟨te, pe, e⟩ := h.syn
    exact ⟨te, pe, (hb.cell (p := ⟨5, 0, none⟩) (cell_ltP e)).trans e⟩
  · obtain ⟨te, pe, e⟩ := h.rng
    exact ⟨te, pe, (hb.cell (p := ⟨6, 0, none⟩) (cell_ltP e)).trans e⟩
  · exact (hb.cell (p := ⟨9, 15, none⟩) (cell_ltP h.bru)).trans h.bru
theorem Lv.alloc {w : World} (h : Lv w) (o : Obj) : Lv (w.alloc o) := h.below ((Below.refl _ _).alloc (Nat.le_refl _) o)
theorem bytesBelow (w : World) (t : ByteArray) : Below w.heap.size w (Lib.bytesWorld w 5 t) := by
  unfold Lib.bytesWorld
  exact Lib.below_freeze ((Below.drew (Below.refl _ _)).alloc (Nat.le_refl _) _) (p := ⟨w.heap.size, _, none⟩) (Nat.le_refl _) _
set_option maxHeartbeats 1000000 in
set_option maxRecDepth 100000 in
theorem puIn_empty (w : World) :
    Calls Tryz.prog 180 #[.string ⟨#[]⟩, .int .i64 16, .int .i64 32] w fun e w' => e = .returned (.tuple #[.int .u64 0, .iface 227 (.int .i64 2)]) ∧ w' = w := by
  go_enter Tryz.func180, Tryz.ntmps180
  go_wp2
  go_ret2
  exact ⟨rfl, rfl⟩
set_option maxHeartbeats 1000000 in
set_option maxRecDepth 100000 in
theorem pu_some (t : ByteArray) (hne : t.size ≠ 0) (hmax : t.size ≤ 1100000) (w : World) (n : Nat) (h : Rs.hexM 4294967295 0 t.data.toList = .ok n) :
    Calls Tryz.prog 171 #[.string t, .int .i64 16, .int .i64 32] w fun e w' => e = .returned (.tuple #[.int .u64 n, .nilIface]) ∧ Below w.heap.size w w' := by
  have hp := puIn_calls t hne (by omega) w
  rw [h] at hp
  have hb := bytesBelow w t
  generalize Lib.bytesWorld w 5 t = w1 at hp hb
  dsimp only [Lib.uintTupleM] at hp
  go_enter Tryz.func171, Tryz.ntmps171
  go_wp2_with (go_at_call 180; refine hp.mono ?_; clear hp; rintro e w' ⟨rfl, rfl⟩)
  go_ret2
  exact ⟨rfl, hb⟩
set_option maxHeartbeats 1000000 in
set_option maxRecDepth 100000 in
theorem pu_none (t : ByteArray) (hmax : t.size ≤ 1100000) (w : World) (hL : Lv w) (h : t.size = 0 ∨ ∀ n, Rs.hexM 4294967295 0 t.data.toList ≠ .ok n) :
    Calls Tryz.prog 171 #[.string t, .int .i64 16, .int .i64 32] w fun e w' => ∃ x te pe, e = .returned (.tuple #[.int .u64 x, .iface te pe]) ∧ Below w.heap.size w w' := by
  have hp : ∃ x k w1, (k = 1 ∨ k = 2) ∧ Below w.heap.size w w1 ∧ Calls Tryz.prog 180 #[.string t, .int .i64 16, .int .i64 32] w fun e w' => e = .returned (.tuple #[.int .u64 x, .iface 227 (.int .i64 k)]) ∧ w' = w1 := by
    by_cases h0 : t.size = 0
    · have ht : t = ⟨#[]⟩ := by
        apply ByteArray.ext
        exact Array.eq_empty_of_size_eq_zero h0
      subst ht
      exact ⟨0, 2, w, .inr rfl, Below.refl _ _, puIn_empty w⟩
    · have hp := puIn_calls t h0 (by omega) w
      have hb := bytesBelow w t
      match hx : Rs.hexM 4294967295 0 t.data.toList with
      | .ok n =>
        rcases h with h | h
        · exact absurd h h0
        · exact absurd hx (h n)
      | Lib.NumEnd.syntax => rw [hx] at hp; exact ⟨0, 2, _, .inr rfl, hb, hp⟩
      | .range => rw [hx] at hp; exact ⟨4294967295, 1, _, .inl rfl, hb, hp⟩
  obtain ⟨x, k, w1, hk, hb, hp⟩ := hp
  have hL1 := hL.below hb
  clear h
  rcases hk with rfl | rfl
  · obtain ⟨te, pe, hc⟩ := hL1.rng
    have ht := Tryz.strconv_toError_range ⟨#[80, 97, 114, 115, 101, 85, 105, 110, 116]⟩ t 16 32 _ w1 (by omega) hc (.inr ⟨_, _, rfl⟩)
    have HL := Lib.hid (show _ ∧ _ from ⟨hL, hL1⟩)
    clear hL hL1 hc
    go_enter Tryz.func171, Tryz.ntmps171
    go_wp2_with (first
      | (go_at_call 180; refine hp.mono ?_; clear hp; rintro e w' ⟨rfl, rfl⟩)
      | (go_at_call 123; refine ht.mono ?_; clear ht; rintro e w2 ⟨N, rfl, _, _, hb2⟩))
    go_ret2
    exact ⟨_, _, _, rfl, hb.trans (hb2.mono hb.size)⟩
  · obtain ⟨te, pe, hc⟩ := hL1.syn
    have ht := Tryz.strconv_toError_syntax ⟨#[80, 97, 114, 115, 101, 85, 105, 110, 116]⟩ t 16 32 _ w1 (by omega) hc (.inr ⟨_, _, rfl⟩)
    have HL := Lib.hid (show _ ∧ _ from ⟨hL, hL1⟩)
    clear hL hL1 hc
    go_enter Tryz.func171, Tryz.ntmps171
    go_wp2_with (first
      | (go_at_call 180; refine hp.mono ?_; clear hp; rintro e w' ⟨rfl, rfl⟩)
      | (go_at_call 123; refine ht.mono ?_; clear ht; rintro e w2 ⟨N, rfl, _, _, hb2⟩))
    go_ret2
    exact ⟨_, _, _, rfl, hb.trans (hb2.mono hb.size)⟩
set_option maxHeartbeats 1000000 in
set_option maxRecDepth 100000 in
theorem tz_calls (w : World) (hc : w.cell? ⟨9, 15, none⟩ = some (.int .u8 4)) : Calls Tryz.prog 192 #[.int .u64 16] w fun e w' => e = .returned (.int .i64 4) ∧ w = w' := by
  have hbits : bits .and .u64 16 (IntKind.u64.wrap (-16)) = 16 := by decide +kernel
  have hw : IntKind.u64.wrap (16 * 285870213051353865) / 288230376151711744 = 15 := by decide +kernel
  go_enter Tryz.func192, Tryz.ntmps192
  go_wp2
  go_ret
  exact ⟨rfl, rfl⟩
end Go.Proofs.YtimahlimmblgkaaGreatDoor
