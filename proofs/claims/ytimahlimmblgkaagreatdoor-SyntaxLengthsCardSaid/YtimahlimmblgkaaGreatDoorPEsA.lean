/- Texts of the claim, put together: EsA. -/
import Derived.Test.YtimahlimmblgkaaGreatDoorPBaC
import Derived.Test.YtimahlimmblgkaaGreatDoorPPuA
import Derived.Test.YtimahlimmblgkaaGreatDoorPSlD
import Derived.Lib.IndexLaws
import Derived.Lib.Strings
namespace Go.Proofs.YtimahlimmblgkaaGreatDoor
namespace Rs
def signT (c : Nat) : Bool := match sign (c : Int) with
  | some x => decide (0 ≤ Lib.indexByte [110, 116, 114, 102, 118, 97] ((c : Int).toNat.toUInt8)) && decide (Lib.indexByte [110, 116, 114, 102, 118, 97] ((c : Int).toNat.toUInt8) < 6) && decide (x = (([10, 9, 13, 12, 11, 7] : List UInt8).getD (Lib.indexByte [110, 116, 114, 102, 118, 97] ((c : Int).toNat.toUInt8)).toNat 0).toNat)
  | none => decide (Lib.indexByte [110, 116, 114, 102, 118, 97] ((c : Int).toNat.toUInt8) = -1)
theorem sign_all : ∀ c : Fin 256, signT c.val = true := by decide +kernel
theorem sign_some {c x : Int} (h0 : 0 ≤ c) (h1 : c < 256) (h : sign c = some x) : ∃ j : Nat, Lib.indexByte [110, 116, 114, 102, 118, 97] c.toNat.toUInt8 = (j : Int) ∧ j < 6 ∧ x = (([10, 9, 13, 12, 11, 7] : List UInt8).getD j 0).toNat := by
  have ht := sign_all ⟨c.toNat, by omega⟩
  have e : ((c.toNat : Nat) : Int) = c := by omega
  unfold signT at ht
  rw [show ((⟨c.toNat, by omega⟩ : Fin 256).val : Int) = c from e, h] at ht
  simp only [Bool.and_eq_true, decide_eq_true_eq] at ht
  obtain ⟨⟨a, b⟩, d⟩ := ht
  exact ⟨(Lib.indexByte [110, 116, 114, 102, 118, 97] c.toNat.toUInt8).toNat, by omega, by omega, d⟩
theorem sign_none {c : Int} (h0 : 0 ≤ c) (h1 : c < 256) (h : sign c = none) : Lib.indexByte [110, 116, 114, 102, 118, 97] c.toNat.toUInt8 = -1 := by
  have ht := sign_all ⟨c.toNat, by omega⟩
  have e : ((c.toNat : Nat) : Int) = c := by omega
  unfold signT at ht
  rw [show ((⟨c.toNat, by omega⟩ : Fin 256).val : Int) = c from e, h] at ht
  simpa using ht
theorem code_fin : ∀ j : Fin 6, (({ data := #[10, 9, 13, 12, 11, 7] } : ByteArray)[j.val]'(Nat.lt_of_lt_of_le j.isLt (by decide))).toNat = (([10, 9, 13, 12, 11, 7] : List UInt8).getD j.val 0).toNat := by decide
theorem code_at (j : Nat) (h : j < 6) : (({ data := #[10, 9, 13, 12, 11, 7] } : ByteArray)[j]'(Nat.lt_of_lt_of_le h (by decide))).toNat = (([10, 9, 13, 12, 11, 7] : List UInt8).getD j 0).toNat := code_fin ⟨j, h⟩
theorem code_lt : ∀ j : Fin 6, (([10, 9, 13, 12, 11, 7] : List UInt8).getD j.val 0).toNat < 256 := by decide
def escC (l : List UInt8) : Int := ((escS l).map (·.1)).getD 0
def escN (l : List UInt8) : Nat := ((escS l).map (·.2)).getD 0
def escE (l : List UInt8) : Int := if (escS l).isSome then 0 else 61
theorem esc_get {s : ByteArray} {i : Nat} (h : i < s.size) : bt s.data.toList i = ((s[i]'h).toNat : Int) := by
  have : s.data.toList.getD i 0 = s[i]'h := by
    rw [List.getD, List.getElem?_eq_getElem (by simpa using h)]
    rfl
  unfold bt
  rw [this]
end Rs
open Go.RowKit Go.Shelf
/-- what remains behind the digits: the number, or none -/
theorem pu_any (t : ByteArray) (hmax : t.size ≤ 6) (w : World) (hL : Lv w) :
    Calls Tryz.prog 171 #[.string t, .int .i64 16, .int .i64 32] w fun e w' =>
      (∃ x : Int, Rs.hexS t.data.toList = some x ∧ 0 ≤ x ∧ x < 16777216 ∧ e = .returned (.tuple #[.int .u64 x, .nilIface]) ∧ Below w.heap.size w w') ∨
      (Rs.hexS t.data.toList = none ∧ ∃ x te pe, e = .returned (.tuple #[.int .u64 x, .iface te pe]) ∧ Below w.heap.size w w') := by
  have hlen : t.data.toList.length = t.size := by rw [Lib.size_eq]
  by_cases h0 : t.size = 0
  · refine (pu_none t (by omega) w hL (.inl h0)).mono fun e w' h => .inr ⟨?_, h⟩
    simp [Rs.hexS, hlen, h0]
  · have hx : Rs.hexS t.data.toList = Rs.hexF t.data.toList 0 := by
      unfold Rs.hexS
      rw [if_neg (by omega)]
    rw [hx]
    cases hf : Rs.hexF t.data.toList 0 with
    | none => exact (pu_none t (by omega) w hL (.inr fun n => Rs.hexM_none _ _ 0 hf n)).mono fun e w' h => .inr ⟨rfl, h⟩
    | some x =>
      have hr := Rs.hexF_range _ 0 x (by omega) hf
      have hp : (16 : Int) ^ t.data.toList.length ≤ 16777216 := by
        rw [hlen]
        have h6 : (16 : Nat) ^ t.size ≤ 16 ^ 6 := Nat.pow_le_pow_right (by omega) (by omega)
        have h7 : ((16 ^ t.size : Nat) : Int) ≤ ((16 ^ 6 : Nat) : Int) := by exact_mod_cast h6
        simpa using h7
      have hs := Rs.hexM_some _ 4294967295 0 x hf (by omega)
      refine (pu_some t h0 (by omega) w x.toNat hs).mono fun e w' h => .inl ⟨x, rfl, hr.1, by omega, ?_, h.2⟩
      rw [h.1, show ((x.toNat : Nat) : Int) = x by omega]
end Go.Proofs.YtimahlimmblgkaaGreatDoor
namespace Go.Proofs.YtimahlimmblgkaaGreatDoor
open Go.RowKit Go.Shelf
namespace Rs
theorem esc_dig {l : List UInt8} (h2 : ¬ l.length < 2) (h0 : bt l 0 = 92) (hs : sign (bt l 1) = none) (h1 : bt l 1 = 120) (h3 : 2 < l.length) (hd : bt l 2 = 123) :
    escS l = if Lib.indexByte l 125 < 0 ∨ 9 < Lib.indexByte l 125 then none else ptO ((Lib.indexByte l 125).toNat + 1) (hexS ((l.take (Lib.indexByte l 125).toNat).drop 3)) := by
  unfold escS
  rw [if_neg h2, if_neg (by simp [h0]), hs]
  simp only [h1, h3, hd, and_self, if_true]
theorem esc_two {l : List UInt8} (h2 : ¬ l.length < 2) (h0 : bt l 0 = 92) (hs : sign (bt l 1) = none) (h1 : bt l 1 = 120) (h3 : ¬ (2 < l.length ∧ bt l 2 = 123)) (h4 : 3 < l.length) :
    escS l = ptO 4 (hexS ((l.take 4).drop 2)) := by
  unfold escS
  rw [if_neg h2, if_neg (by simp [h0]), hs]
  simp only [h1, true_and]
  rw [if_neg h3, if_pos h4]
theorem esc_chr {l : List UInt8} (h2 : ¬ l.length < 2) (h0 : bt l 0 = 92) (hs : sign (bt l 1) = none) (h3 : ¬ (bt l 1 = 120 ∧ 2 < l.length ∧ bt l 2 = 123)) (h4 : ¬ (bt l 1 = 120 ∧ 3 < l.length)) :
    escS l = if 32 < bt l 1 ∧ bt l 1 < 127 ∧ letterB (bt l 1) = false then some (bt l 1, 2) else none := by
  unfold escS
  rw [if_neg h2, if_neg (by simp [h0]), hs]
  simp only
  rw [if_neg h3, if_neg h4]
theorem letterB_eq (c : Int) : letterB c = Go.Proofs.YtimahlimmblgkaaGreatDoor.letterB c := by
  unfold letterB Go.Proofs.YtimahlimmblgkaaGreatDoor.letterB
  rfl
end Rs
abbrev EscPost (l : List UInt8) (w : World) (e : Ending) (w' : World) : Prop := e = .returned (.tuple #[.int .i64 (Rs.escC l), .int .i64 (Rs.escN l), .int .i64 (Rs.escE l)]) ∧ Below w.heap.size w w'
set_option maxRecDepth 100000 in
set_option maxHeartbeats 1000000 in
theorem esc_short (s : ByteArray) (w : World) (h : s.size < 2 ∨ (2 ≤ s.size ∧ Rs.bt s.data.toList 0 ≠ 92)) :
    Calls Tryz.prog 138 #[.string s] w (EscPost s.data.toList w) := by
  have hlen : s.data.toList.length = s.size := by rw [Lib.size_eq]
  have hn : Rs.escS s.data.toList = none := by
    unfold Rs.escS
    rcases h with h | ⟨h, h'⟩
    · rw [if_pos (by omega)]
    · rw [if_neg (by omega), if_pos h']
  have e1 : Rs.escC s.data.toList = 0 := by simp [Rs.escC, hn]
  have e2 : Rs.escN s.data.toList = 0 := by simp [Rs.escN, hn]
  have e3 : Rs.escE s.data.toList = 61 := by simp [Rs.escE, hn]
  unfold EscPost
  rw [e1, e2, e3]
  clear e1 e2 e3 hn hlen
  rcases h with h | ⟨h, h'⟩
  · go_enter Tryz.func138, Tryz.ntmps138
    go_wp2
    go_ret3
    exact ⟨rfl, Below.refl _ _⟩
  · rw [Rs.esc_get (by omega)] at h'
    have h0 : 0 < s.size := by omega
    have h1 : ((((s[0]'(by omega)).toNat : Int)) != 92) = true := by simpa using h'
    clear h'
    go_enter Tryz.func138, Tryz.ntmps138
    go_wp2
    go_ret3
    exact ⟨rfl, Below.refl _ _⟩
set_option maxRecDepth 100000 in
set_option maxHeartbeats 1000000 in
theorem esc_sign (s : ByteArray) (w : World) (h2 : 2 ≤ s.size) (h0 : Rs.bt s.data.toList 0 = 92) (x : Int) (hx : Rs.sign (Rs.bt s.data.toList 1) = some x) :
    Calls Tryz.prog 138 #[.string s] w (EscPost s.data.toList w) := by
  have hlen : s.data.toList.length = s.size := by rw [Lib.size_eq]
  have hn : Rs.escS s.data.toList = some (x, 2) := by
    unfold Rs.escS
    rw [if_neg (by omega), if_neg (by simp [h0]), hx]
  have e1 : Rs.escC s.data.toList = x := by simp [Rs.escC, hn]
  have e2 : Rs.escN s.data.toList = 2 := by simp [Rs.escN, hn]
  have e3 : Rs.escE s.data.toList = 0 := by simp [Rs.escE, hn]
  unfold EscPost
  rw [e1, e2, e3]
  clear e1 e2 e3 hn hlen
  have hr := Rs.bt_range s.data.toList 1
  obtain ⟨j, hj, hj6, hjx⟩ := Rs.sign_some hr.1 hr.2 hx
  rw [Rs.esc_get (by omega)] at h0 hj
  have hib := fun W => Tryz.strings_IndexByte ⟨#[110, 116, 114, 102, 118, 97]⟩ ((s[1]'(by omega)).toNat : Int) W
  rw [show (⟨#[110, 116, 114, 102, 118, 97]⟩ : ByteArray).data.toList = [110, 116, 114, 102, 118, 97] from rfl, hj] at hib
  have hcode := Rs.code_at j hj6
  have hcl := Rs.code_lt ⟨j, hj6⟩
  dsimp only at hcl
  generalize (([10, 9, 13, 12, 11, 7] : List UInt8).getD j 0).toNat = cd at *
  have HJ := Lib.hid hjx
  have hs0 : 0 < s.size := by omega
  clear hjx hx hr hj
  go_enter Tryz.func138, Tryz.ntmps138
  go_wp2_with (go_at_call 66; refine (hib _).mono ?_; clear hib; rintro e w' ⟨rfl, rfl⟩)
  go_ret3
  exact ⟨by rw [HJ.out]; rfl, Below.refl _ _⟩
/-- the ways behind the digits, as the callees answer: the number is a code point, it is none, there is no number -/
theorem dig_ways (t : ByteArray) (ht : t.size ≤ 6) (n : Nat) (w : World) (hL : Lv w) :
    (∃ x : Int, Rs.ptO n (Rs.hexS t.data.toList) = some (x, n) ∧ 0 ≤ x ∧ x < 16777216 ∧ Rs.pt x = true ∧ Calls Tryz.prog 171 #[.string t, .int .i64 16, .int .i64 32] w fun e w' => e = .returned (.tuple #[.int .u64 x, .nilIface]) ∧ Below w.heap.size w w') ∨
    (Rs.ptO n (Rs.hexS t.data.toList) = none ∧ ∃ x : Int, 0 ≤ x ∧ x < 16777216 ∧ Rs.pt x = false ∧ Calls Tryz.prog 171 #[.string t, .int .i64 16, .int .i64 32] w fun e w' => e = .returned (.tuple #[.int .u64 x, .nilIface]) ∧ Below w.heap.size w w') ∨
    (Rs.ptO n (Rs.hexS t.data.toList) = none ∧ Calls Tryz.prog 171 #[.string t, .int .i64 16, .int .i64 32] w fun e w' => ∃ x te pe, e = .returned (.tuple #[.int .u64 x, .iface te pe]) ∧ Below w.heap.size w w') := by
  have h := pu_any t ht w hL
  cases hx : Rs.hexS t.data.toList with
  | none =>
    refine .inr (.inr ⟨rfl, h.mono fun e w' hh => ?_⟩)
    rcases hh with ⟨x, h1, _⟩ | ⟨_, h2⟩
    · rw [hx] at h1; cases h1
    · exact h2
  | some x =>
    have hr : 0 ≤ x ∧ x < 16777216 := by
      unfold Rs.hexS at hx
      have hlen : t.data.toList.length = t.size := by rw [Lib.size_eq]
      split at hx
      · cases hx
      · have hr := Rs.hexF_range _ 0 x (by omega) hx
        have hp : (16 : Int) ^ t.data.toList.length ≤ 16777216 := by
          rw [hlen]
          have h6 : (16 : Nat) ^ t.size ≤ 16 ^ 6 := Nat.pow_le_pow_right (by omega) (by omega)
          have h7 : ((16 ^ t.size : Nat) : Int) ≤ ((16 ^ 6 : Nat) : Int) := by exact_mod_cast h6
          simpa using h7
        omega
    have hc : Calls Tryz.prog 171 #[.string t, .int .i64 16, .int .i64 32] w fun e w' => e = .returned (.tuple #[.int .u64 x, .nilIface]) ∧ Below w.heap.size w w' := h.mono fun e w' hh => by
      rcases hh with ⟨y, h1, _, _, h4, h5⟩ | ⟨h1, _⟩
      · rw [hx] at h1; cases h1; exact ⟨h4, h5⟩
      · rw [hx] at h1; cases h1
    cases hp : Rs.pt x
    · exact .inr (.inl ⟨by simp [Rs.ptO, hp], x, hr.1, hr.2, hp, hc⟩)
    · exact .inl ⟨x, by simp [Rs.ptO, hp], hr.1, hr.2, hp, hc⟩
theorem esc_some {l : List UInt8} {x : Int} {n : Nat} (h : Rs.escS l = some (x, n)) : Rs.escC l = x ∧ Rs.escN l = n ∧ Rs.escE l = 0 := by simp [Rs.escC, Rs.escN, Rs.escE, h]
theorem esc_none {l : List UInt8} (h : Rs.escS l = none) : Rs.escC l = 0 ∧ Rs.escN l = 0 ∧ Rs.escE l = 61 := by simp [Rs.escC, Rs.escN, Rs.escE, h]
set_option maxRecDepth 100000 in
set_option maxHeartbeats 2000000 in
theorem esc_brace (s : ByteArray) (w : World) (hL : Lv w) (h2 : 2 < s.size) (hmax : s.size ≤ 1000000000000) (h0 : Rs.bt s.data.toList 0 = 92) (h1 : Rs.bt s.data.toList 1 = 120) (h3 : Rs.bt s.data.toList 2 = 123) :
    Calls Tryz.prog 138 #[.string s] w (EscPost s.data.toList w) := by
  have he0 : (((s[0]'(Nat.lt_of_le_of_lt (by decide) h2)).toNat : Int)) = 92 := by rw [← Rs.esc_get]; exact h0
  have he1 : (((s[1]'(Nat.lt_of_le_of_lt (by decide) h2)).toNat : Int)) = 120 := by rw [← Rs.esc_get]; exact h1
  have he2 : (((s[2]'h2).toNat : Int)) = 123 := by rw [← Rs.esc_get]; exact h3
  have hlen : s.data.toList.length = s.size := by rw [Lib.size_eq]
  have hsg : Rs.sign (Rs.bt s.data.toList 1) = none := by rw [h1]; rfl
  have hS := Rs.esc_dig (by omega) h0 hsg h1 (by omega) h3
  have hie := fun W => Tryz.strings_IndexByte s 125 W
  rw [show (125 : Int).toNat.toUInt8 = 125 from rfl] at hie
  have hib := fun W => Tryz.strings_IndexByte ⟨#[110, 116, 114, 102, 118, 97]⟩ 120 W
  rw [show Lib.indexByte (⟨#[110, 116, 114, 102, 118, 97]⟩ : ByteArray).data.toList (120 : Int).toNat.toUInt8 = -1 by decide] at hib
  have hge := Lib.indexByte_ge s.data.toList 125
  obtain ⟨ix, hix⟩ : ∃ ix, Lib.indexByte s.data.toList 125 = ix := ⟨_, rfl⟩
  rw [hix] at hS hie hge
  by_cases hbad : ix < 0 ∨ 9 < ix
  · rw [if_pos hbad] at hS
    obtain ⟨e1, e2, e3⟩ := esc_none hS
    unfold EscPost
    rw [e1, e2, e3]
    clear e1 e2 e3 hS hsg h0 h1 h3 hlen hix
    by_cases hn : ix < 0
    · clear hbad
      go_enter Tryz.func138, Tryz.ntmps138
      go_wp2_with (first | (go_at_call 66; refine (hib _).mono ?_; clear hib; rintro e w' ⟨rfl, rfl⟩) | (go_at_call 66; refine (hie _).mono ?_; clear hie; rintro e w' ⟨rfl, rfl⟩))
      go_ret3
      exact ⟨rfl, Below.refl _ _⟩
    · have hn9 : 9 < ix := by omega
      clear hbad
      go_enter Tryz.func138, Tryz.ntmps138
      go_wp2_with (first | (go_at_call 66; refine (hib _).mono ?_; clear hib; rintro e w' ⟨rfl, rfl⟩) | (go_at_call 66; refine (hie _).mono ?_; clear hie; rintro e w' ⟨rfl, rfl⟩))
      go_ret3
      exact ⟨rfl, Below.refl _ _⟩
  · rw [if_neg hbad] at hS
    obtain ⟨o, rfl⟩ : ∃ o : Nat, ix = o := ⟨ix.toNat, by omega⟩
    have hso := Lib.indexByte_some hix
    have ho9 : o ≤ 9 := by omega
    have hos : o < s.size := by
      have := (List.getElem?_eq_some_iff.1 hso.1).1
      omega
    have ho3 : 3 ≤ o := by
      rcases Nat.lt_or_ge o 3 with hlt | hge'
      · have hb : Rs.bt s.data.toList o = 125 := by
          unfold Rs.bt
          rw [List.getD, hso.1]
          rfl
        rcases (show o = 0 ∨ o = 1 ∨ o = 2 by omega) with rfl | rfl | rfl
        · rw [h0] at hb; omega
        · rw [h1] at hb; omega
        · rw [h3] at hb; omega
      · exact hge'
    have hex : (s.extract 3 o).data.toList = (s.data.toList.take o).drop 3 := by rw [Lib.extract_data, List.drop_take]
    have hsz : (s.extract 3 o).size ≤ 6 := by rw [ByteArray.size_extract]; omega
    have hw := dig_ways (s.extract 3 o) hsz (o + 1) w hL
    rw [hex] at hw
    rw [Int.toNat_natCast] at hS
    rw [← hS] at hw
    generalize hX : s.extract 3 o = X at *
    clear hbad hS hsg h0 h1 h3 hlen hix hso hex hsz hge hL
    rcases hw with ⟨x, hE, hx0, hx1, hpt, hpu⟩ | ⟨hE, x, hx0, hx1, hpt, hpu⟩ | ⟨hE, hpu⟩
    · obtain ⟨e1, e2, e3⟩ := esc_some hE
      unfold EscPost
      rw [e1, e2, e3]
      clear e1 e2 e3 hE
      have hw64 : IntKind.i64.wrap x = x := by rw [IntKind.wrap_i64]; omega
      have hpc := fun W => point_calls x W
      rw [hpt] at hpc
      go_enter Tryz.func138, Tryz.ntmps138
      go_wp2_with (first | (go_at_call 66; refine (hib _).mono ?_; clear hib; rintro e w' ⟨rfl, rfl⟩) | (go_at_call 66; refine (hie _).mono ?_; clear hie; rintro e w' ⟨rfl, rfl⟩) | (go_at_call 171; refine hpu.mono ?_; clear hpu; rintro e w' ⟨rfl, hb⟩) | (go_at_call 130; refine (hpc _).mono ?_; clear hpc; rintro e w' ⟨rfl, rfl⟩))
      go_ret3
      exact ⟨rfl, hb⟩
    · obtain ⟨e1, e2, e3⟩ := esc_none hE
      unfold EscPost
      rw [e1, e2, e3]
      clear e1 e2 e3 hE
      have hw64 : IntKind.i64.wrap x = x := by rw [IntKind.wrap_i64]; omega
      have hpc := fun W => point_calls x W
      rw [hpt] at hpc
      go_enter Tryz.func138, Tryz.ntmps138
      go_wp2_with (first | (go_at_call 66; refine (hib _).mono ?_; clear hib; rintro e w' ⟨rfl, rfl⟩) | (go_at_call 66; refine (hie _).mono ?_; clear hie; rintro e w' ⟨rfl, rfl⟩) | (go_at_call 171; refine hpu.mono ?_; clear hpu; rintro e w' ⟨rfl, hb⟩) | (go_at_call 130; refine (hpc _).mono ?_; clear hpc; rintro e w' ⟨rfl, rfl⟩))
      go_ret3
      exact ⟨rfl, hb⟩
    · obtain ⟨e1, e2, e3⟩ := esc_none hE
      unfold EscPost
      rw [e1, e2, e3]
      clear e1 e2 e3 hE
      go_enter Tryz.func138, Tryz.ntmps138
      go_wp2_with (first | (go_at_call 66; refine (hib _).mono ?_; clear hib; rintro e w' ⟨rfl, rfl⟩) | (go_at_call 66; refine (hie _).mono ?_; clear hie; rintro e w' ⟨rfl, rfl⟩) | (go_at_call 171; refine hpu.mono ?_; clear hpu; rintro e w' ⟨x, te, pe, rfl, hb⟩))
      go_ret3
      exact ⟨rfl, hb⟩
end Go.Proofs.YtimahlimmblgkaaGreatDoor
namespace Go.Proofs.YtimahlimmblgkaaGreatDoor
open Go.RowKit Go.Shelf
theorem letter_calls' (c : Int) (w : World) : Calls Tryz.prog 170 #[.int .u8 c] w fun e w' => e = .returned (.bool (letterB c)) ∧ w = w' := (letter_calls c w).mono fun _ _ h => ⟨h.1, h.2.symm⟩
set_option maxRecDepth 100000 in
set_option maxHeartbeats 2000000 in
theorem esc_hex2 (s : ByteArray) (w : World) (hL : Lv w) (h2 : 3 < s.size) (h0 : Rs.bt s.data.toList 0 = 92) (h1 : Rs.bt s.data.toList 1 = 120) (h3 : Rs.bt s.data.toList 2 ≠ 123) :
    Calls Tryz.prog 138 #[.string s] w (EscPost s.data.toList w) := by
  have he0 : (((s[0]'(Nat.lt_of_le_of_lt (by decide) h2)).toNat : Int)) = 92 := by rw [← Rs.esc_get]; exact h0
  have he1 : (((s[1]'(Nat.lt_of_le_of_lt (by decide) h2)).toNat : Int)) = 120 := by rw [← Rs.esc_get]; exact h1
  have he2 : ((((s[2]'(Nat.lt_of_le_of_lt (by decide) h2)).toNat : Int)) == 123) = false := by rw [← Rs.esc_get]; simpa using h3
  have hlen : s.data.toList.length = s.size := by rw [Lib.size_eq]
  have hsg : Rs.sign (Rs.bt s.data.toList 1) = none := by rw [h1]; rfl
  have hS := Rs.esc_two (by omega) h0 hsg h1 (fun h => h3 h.2) (by omega)
  have hib := fun W => Tryz.strings_IndexByte ⟨#[110, 116, 114, 102, 118, 97]⟩ 120 W
  rw [show Lib.indexByte (⟨#[110, 116, 114, 102, 118, 97]⟩ : ByteArray).data.toList (120 : Int).toNat.toUInt8 = -1 by decide] at hib
  have hex : (s.extract 2 4).data.toList = (s.data.toList.take 4).drop 2 := by rw [Lib.extract_data, List.drop_take]
  have hsz : (s.extract 2 4).size ≤ 6 := by rw [ByteArray.size_extract]; omega
  have hw := dig_ways (s.extract 2 4) hsz 4 w hL
  rw [hex] at hw
  rw [← hS] at hw
  generalize hX : s.extract 2 4 = X at *
  clear hS hsg h0 h1 h3 hlen hex hsz hL
  rcases hw with ⟨x, hE, hx0, hx1, hpt, hpu⟩ | ⟨hE, x, hx0, hx1, hpt, hpu⟩ | ⟨hE, hpu⟩
  · obtain ⟨e1, e2, e3⟩ := esc_some hE
    unfold EscPost
    rw [e1, e2, e3]
    clear e1 e2 e3 hE
    have hw64 : IntKind.i64.wrap x = x := by rw [IntKind.wrap_i64]; omega
    have hpc := fun W => point_calls x W
    rw [hpt] at hpc
    go_enter Tryz.func138, Tryz.ntmps138
    go_wp2_with (first | (go_at_call 66; refine (hib _).mono ?_; clear hib; rintro e w' ⟨rfl, rfl⟩) | (go_at_call 171; refine hpu.mono ?_; clear hpu; rintro e w' ⟨rfl, hb⟩) | (go_at_call 130; refine (hpc _).mono ?_; clear hpc; rintro e w' ⟨rfl, rfl⟩))
    go_ret3
    exact ⟨rfl, hb⟩
  · obtain ⟨e1, e2, e3⟩ := esc_none hE
    unfold EscPost
    rw [e1, e2, e3]
    clear e1 e2 e3 hE
    have hw64 : IntKind.i64.wrap x = x := by rw [IntKind.wrap_i64]; omega
    have hpc := fun W => point_calls x W
    rw [hpt] at hpc
    go_enter Tryz.func138, Tryz.ntmps138
    go_wp2_with (first | (go_at_call 66; refine (hib _).mono ?_; clear hib; rintro e w' ⟨rfl, rfl⟩) | (go_at_call 171; refine hpu.mono ?_; clear hpu; rintro e w' ⟨rfl, hb⟩) | (go_at_call 130; refine (hpc _).mono ?_; clear hpc; rintro e w' ⟨rfl, rfl⟩))
    go_ret3
    exact ⟨rfl, hb⟩
  · obtain ⟨e1, e2, e3⟩ := esc_none hE
    unfold EscPost
    rw [e1, e2, e3]
    clear e1 e2 e3 hE
    go_enter Tryz.func138, Tryz.ntmps138
    go_wp2_with (first | (go_at_call 66; refine (hib _).mono ?_; clear hib; rintro e w' ⟨rfl, rfl⟩) | (go_at_call 171; refine hpu.mono ?_; clear hpu; rintro e w' ⟨x, te, pe, rfl, hb⟩))
    go_ret3
    exact ⟨rfl, hb⟩
set_option maxRecDepth 100000 in
set_option maxHeartbeats 2000000 in
theorem esc_chr (s : ByteArray) (w : World) (hL : Lv w) (h2 : 2 ≤ s.size) (h0 : Rs.bt s.data.toList 0 = 92) (hsg : Rs.sign (Rs.bt s.data.toList 1) = none) (h3 : ¬ (Rs.bt s.data.toList 1 = 120 ∧ 2 < s.size ∧ Rs.bt s.data.toList 2 = 123)) (h4 : ¬ (Rs.bt s.data.toList 1 = 120 ∧ 3 < s.size)) :
    Calls Tryz.prog 138 #[.string s] w (EscPost s.data.toList w) := by
  have he0 : (((s[0]'(Nat.lt_of_lt_of_le (by decide) h2)).toNat : Int)) = 92 := by rw [← Rs.esc_get]; exact h0
  have hr := Rs.bt_range s.data.toList 1
  obtain ⟨c, hc⟩ : ∃ c, Rs.bt s.data.toList 1 = c := ⟨_, rfl⟩
  have he1 : (((s[1]'(Nat.lt_of_lt_of_le (by decide) h2)).toNat : Int)) = c := by rw [← Rs.esc_get]; exact hc
  have he2 : ∀ h : 2 < s.size, c = 120 → ((((s[2]'h).toNat : Int)) == 123) = false := fun h hc' => by rw [← Rs.esc_get]; simpa using fun e => h3 ⟨by rw [hc]; exact hc', h, e⟩
  have hlen : s.data.toList.length = s.size := by rw [Lib.size_eq]
  have hS := Rs.esc_chr (by omega) h0 hsg (by rw [hlen]; exact h3) (by rw [hlen]; exact h4)
  rw [hc] at hS hr hsg h4
  obtain ⟨r0, r1⟩ := hr
  have hneg := Rs.sign_none r0 r1 hsg
  have hib := fun W => Tryz.strings_IndexByte ⟨#[110, 116, 114, 102, 118, 97]⟩ c W
  rw [show (⟨#[110, 116, 114, 102, 118, 97]⟩ : ByteArray).data.toList = [110, 116, 114, 102, 118, 97] from rfl, hneg] at hib
  have hpu := pu_none ⟨#[]⟩ (by decide) w hL (.inl rfl)
  rw [Rs.letterB_eq] at hS
  have hlc := fun W => letter_calls' c W
  clear hneg hsg h0 h3 hc hlen hL
  by_cases hx : c = 120
  · subst hx
    rw [if_neg (by simp [letterB])] at hS
    obtain ⟨e1, e2, e3⟩ := esc_none hS
    unfold EscPost
    rw [e1, e2, e3]
    rw [show letterB 120 = true by decide] at hlc
    clear e1 e2 e3 hS
    by_cases h5 : 2 < s.size
    · have he2 := he2 h5 rfl
      have h6 : ¬ 3 < s.size := fun h => h4 ⟨rfl, h⟩
      clear h4
      go_enter Tryz.func138, Tryz.ntmps138
      go_wp2_with (first | (go_at_call 66; refine (hib _).mono ?_; clear hib; rintro e w' ⟨rfl, rfl⟩) | (go_at_call 170; refine (hlc _).mono ?_; clear hlc; rintro e w' ⟨rfl, rfl⟩) | (go_at_call 171; refine hpu.mono ?_; clear hpu; rintro e w' ⟨x, te, pe, rfl, hb⟩))
      go_ret3
      exact ⟨rfl, hb⟩
    · clear he2 h4
      go_enter Tryz.func138, Tryz.ntmps138
      go_wp2_with (first | (go_at_call 66; refine (hib _).mono ?_; clear hib; rintro e w' ⟨rfl, rfl⟩) | (go_at_call 170; refine (hlc _).mono ?_; clear hlc; rintro e w' ⟨rfl, rfl⟩) | (go_at_call 171; refine hpu.mono ?_; clear hpu; rintro e w' ⟨x, te, pe, rfl, hb⟩))
      go_ret3
      exact ⟨rfl, hb⟩
  · clear h4 he2
    have hx' : (c == 120) = false := by simpa using hx
    by_cases h6 : 32 < c
    · by_cases h7 : c < 127
      · cases h8 : letterB c
        · rw [if_pos ⟨h6, h7, h8⟩] at hS
          obtain ⟨e1, e2, e3⟩ := esc_some hS
          unfold EscPost
          rw [e1, e2, e3]
          rw [h8] at hlc
          have hw64 : IntKind.i64.wrap c = c := by rw [IntKind.wrap_i64]; omega
          clear e1 e2 e3 hS h8 hx
          go_enter Tryz.func138, Tryz.ntmps138
          go_wp2_with (first | (go_at_call 66; refine (hib _).mono ?_; clear hib; rintro e w' ⟨rfl, rfl⟩) | (go_at_call 170; refine (hlc _).mono ?_; clear hlc; rintro e w' ⟨rfl, rfl⟩))
          go_ret3
          exact ⟨rfl, Below.refl _ _⟩
        · rw [if_neg (by rw [h8]; simp)] at hS
          obtain ⟨e1, e2, e3⟩ := esc_none hS
          unfold EscPost
          rw [e1, e2, e3]
          rw [h8] at hlc
          clear e1 e2 e3 hS h8 hx
          go_enter Tryz.func138, Tryz.ntmps138
          go_wp2_with (first | (go_at_call 66; refine (hib _).mono ?_; clear hib; rintro e w' ⟨rfl, rfl⟩) | (go_at_call 170; refine (hlc _).mono ?_; clear hlc; rintro e w' ⟨rfl, rfl⟩) | (go_at_call 171; refine hpu.mono ?_; clear hpu; rintro e w' ⟨x, te, pe, rfl, hb⟩))
          go_ret3
          exact ⟨rfl, hb⟩
      · rw [if_neg (fun h => h7 h.2.1)] at hS
        obtain ⟨e1, e2, e3⟩ := esc_none hS
        unfold EscPost
        rw [e1, e2, e3]
        clear e1 e2 e3 hS hx hlc
        go_enter Tryz.func138, Tryz.ntmps138
        go_wp2_with (first | (go_at_call 66; refine (hib _).mono ?_; clear hib; rintro e w' ⟨rfl, rfl⟩) | (go_at_call 171; refine hpu.mono ?_; clear hpu; rintro e w' ⟨x, te, pe, rfl, hb⟩))
        go_ret3
        exact ⟨rfl, hb⟩
    · rw [if_neg (fun h => h6 h.1)] at hS
      obtain ⟨e1, e2, e3⟩ := esc_none hS
      unfold EscPost
      rw [e1, e2, e3]
      clear e1 e2 e3 hS hx hlc
      go_enter Tryz.func138, Tryz.ntmps138
      go_wp2_with (first | (go_at_call 66; refine (hib _).mono ?_; clear hib; rintro e w' ⟨rfl, rfl⟩) | (go_at_call 171; refine hpu.mono ?_; clear hpu; rintro e w' ⟨x, te, pe, rfl, hb⟩))
      go_ret3
      exact ⟨rfl, hb⟩
/-- Escape returns what escS says. -/
theorem escape_calls (s : ByteArray) (w : World) (hL : Lv w) (hmax : s.size ≤ 1000000000000) :
    Calls Tryz.prog 138 #[.string s] w (EscPost s.data.toList w) := by
  by_cases h2 : s.size < 2
  · exact esc_short s w (.inl h2)
  · by_cases h0 : Rs.bt s.data.toList 0 = 92
    · cases hs : Rs.sign (Rs.bt s.data.toList 1) with
      | some x => exact esc_sign s w (by omega) h0 x hs
      | none =>
        by_cases h3 : Rs.bt s.data.toList 1 = 120 ∧ 2 < s.size ∧ Rs.bt s.data.toList 2 = 123
        · exact esc_brace s w hL h3.2.1 hmax h0 h3.1 h3.2.2
        · by_cases h4 : Rs.bt s.data.toList 1 = 120 ∧ 3 < s.size
          · exact esc_hex2 s w hL h4.2 h0 h4.1 (fun e => h3 ⟨h4.1, by omega, e⟩)
          · exact esc_chr s w hL (by omega) h0 hs h3 h4
    · exact esc_short s w (.inr ⟨by omega, h0⟩)
end Go.Proofs.YtimahlimmblgkaaGreatDoor
