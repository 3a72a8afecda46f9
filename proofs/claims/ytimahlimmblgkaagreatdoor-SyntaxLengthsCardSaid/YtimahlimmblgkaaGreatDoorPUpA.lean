/- Texts of the claim, put together: UpA, UpC. -/
import Derived.Test.YtimahlimmblgkaaGreatDoorPBlA
import Derived.Lib.Case
import Derived.Lib.TrimByte
import Derived.Lib.Join
import Derived.BigCall
import Derived.BigGuard
import Derived.Test.YtimahlimmblgkaaGreatDoorPPuA
import Derived.Laws.Rows
import Derived.Laws.NewBlocks
import Derived.Laws.IdiomStrings
namespace Go.Proofs.YtimahlimmblgkaaGreatDoor
open Go.RowKit
theorem any_hidU {p : Prop} (h : p) : Hid p := h
set_option maxHeartbeats 4000000 in
set_option maxRecDepth 100000 in
theorem str_ToUpper_ascii (s : ByteArray) (w : World) (hs : s.size ≤ 140737488355328) (hascii : ∀ (j : Nat) (b : UInt8), s.data.toList[j]? = some b → b.toNat < 128) :
    Calls Tryz.prog 104 #[.string s] w fun e w' => e = .returned (.string ⟨(Lib.toUpperA s.data.toList).toArray⟩) ∧ Below w.heap.size w w' := by
  have HA := any_hidU hascii
  clear hascii
  go_enter Tryz.func104, Tryz.ntmps104
  go_wp2
  go_loop [3, 4, 5] (fun a h i => ∃ k : Nat, k ≤ s.size ∧ a = .bool true ∧ h = .bool ((s.data.toList.take k).any Lib.isLowerB) ∧ i = .int .i64 k) (fun _ _ i => s.size - (intOf i).toNat)
  case atStart => exact ⟨0, Nat.zero_le _, rfl, rfl, rfl⟩
  case round =>
    obtain ⟨k, hk, rfl, rfl, rfl⟩ := hrel
    generalize hH : (s.data.toList.take k).any Lib.isLowerB = H
    by_cases hlt : k < s.size
    · have hb : s.data.toList[k]? = some (s[k]'hlt) := by
        rw [Array.getElem?_toList]
        exact Array.getElem?_eq_getElem hlt
      have h128 : ¬ (128 : Int) ≤ ((s[k]'hlt).toNat : Int) := by have := HA.out k _ hb; omega
      have hnext : (s.data.toList.take (k + 1)).any Lib.isLowerB = (H || (decide ((97 : Int) ≤ ((s[k]'hlt).toNat : Int)) && decide (((s[k]'hlt).toNat : Int) ≤ 122))) := by
        rw [Lib.any_take_succ _ _ _ _ hb, hH, Lib.isLowerB_int]
      have Hn := any_hidU hnext
      clear hb hnext hH
      go_wp2
      all_goals (
        refine ⟨⟨k + 1, by omega, rfl, ?_, by go_num⟩, by simp [intOf]; omega⟩
        rw [Hn.out]
        first
          | (simp_all; done)
          | (simp_all; omega))
    · have hke : k = s.size := by omega
      subst hke
      have hall : s.data.toList.take s.size = s.data.toList := by rw [Lib.size_eq, List.take_length]
      rw [hall] at hH
      have HH := any_hidU hH
      clear hH hall
      cases H with
      | false =>
        go_wp2
        go_ret
        refine ⟨?_, Below.refl _ _⟩
        show Ending.returned (Value.string s) = _
        rw [Lib.toUpperA, Lib.map_of_none Lib.upperB Lib.isLowerB Lib.upperB_of_not _ HH.out, Lib.mk_data]
      | true =>
        go_wp2_with (go_at_call 69; refine (bld_Grow_fresh w.heap.size w.heap.size s.size _ (Nat.le_refl _) (heap_alloc_new w _) (by simp) (by omega)).mono ?_)
        rintro e w1 rfl h1 hb1
        have hb1' : Below w.heap.size w w1 := ((Below.refl w.heap.size w).alloc (Nat.le_refl _) _).trans hb1
        have H1 := any_hidU (Or.inr h1 : Lib.IsBuilder 98 5 w.heap.size w.heap.size (Lib.byteCells ((s.data.toList.take 0).map Lib.upperB)) w1)
        have Hb1 := any_hidU hb1'
        clear h1 hb1 hb1'
        go_wp2
        go_loopw [8, 9] (fun pos i wr => ∃ p k : Nat, p ≤ k ∧ k ≤ s.size ∧ pos = .int .i64 p ∧ i = .int .i64 k ∧ Hid (Lib.IsBuilder 98 5 w.heap.size w.heap.size (Lib.byteCells ((s.data.toList.take p).map Lib.upperB)) wr) ∧ Hid (((s.data.toList.drop p).take (k - p)).any Lib.isLowerB = false) ∧ Hid (Below w.heap.size w wr)) (fun _ i _ => s.size - (intOf i).toNat)
        case atStart => exact ⟨0, 0, Nat.le_refl _, Nat.zero_le _, rfl, rfl, H1, rfl, Hb1⟩
        case round =>
          obtain ⟨p, k, hpk, hk2, rfl, rfl, HB, HN, HW⟩ := hrel
          by_cases hlt2 : k < s.size
          · have hb : s.data.toList[k]? = some (s[k]'hlt2) := by
              rw [Array.getElem?_toList]
              exact Array.getElem?_eq_getElem hlt2
            have Hb := any_hidU hb
            clear hb
            by_cases hlow : Lib.isLowerB (s[k]'hlt2) = true
            · have h97 : (97 : Int) ≤ ((s[k]'hlt2).toNat : Int) := by
                rw [Lib.isLowerB_int] at hlow
                simp at hlow
                exact hlow.1
              have h122 : ((s[k]'hlt2).toNat : Int) ≤ 122 := by
                rw [Lib.isLowerB_int] at hlow
                simp at hlow
                exact hlow.2
              have hlenp : (Lib.byteCells ((s.data.toList.take p).map Lib.upperB)).length = p := by
                rw [Lib.byteCells_length, List.length_map, List.length_take, ← Lib.size_eq]
                omega
              have hxs : (s.extract p k).size = k - p := by
                rw [Lib.size_eq, Lib.extract_data, List.length_take, List.length_drop, ← Lib.size_eq]
                omega
              -- what the builder holds behind the two writes (behind the one, where pos = i)
              have hcont : Lib.byteCells ((s.data.toList.take p).map Lib.upperB) ++ Lib.strCells (s.extract p k) ++ [Value.int .u8 (((s[k]'hlt2).toNat : Int) - 32)] = Lib.byteCells ((s.data.toList.take (k + 1)).map Lib.upperB) := by
                rw [← Lib.map_stretch Lib.upperB Lib.isLowerB Lib.upperB_of_not s.data.toList p k _ hpk Hb.out HN.out, Lib.byteCells_append, Lib.byteCells_append, Lib.strCells_eq, Lib.extract_data, ← Lib.upperB_int _ hlow]
                rfl
              have Hc := any_hidU hcont
              clear hcont
              have hBw : w.heap.size ≤ wr.heap.size := HW.out.size
              go_wp2_with fail
              · -- pos < i: WriteString(s[pos:i]), then WriteByte(c)
                refine (bld_WriteString w.heap.size w.heap.size _ (s.extract p k) wr HB.out (by rw [hlenp, hxs]; omega) hBw).mono ?_
                rintro e w2 ⟨rfl, h2, hb2⟩
                have hBw2 : w.heap.size ≤ w2.heap.size := Nat.le_trans hBw hb2.size
                have H2 := any_hidU h2
                have Hb2 := any_hidU hb2
                clear h2 hb2
                go_wp2_with fail
                refine (bld_WriteByte w.heap.size w.heap.size _ (((s[k]'hlt2).toNat : Int) - 32) w2 (Or.inr H2.out) (by rw [List.length_append, hlenp, Lib.strCells_length, hxs]; omega) hBw2).mono ?_
                rintro e w3 ⟨rfl, h3, hb3⟩
                rw [Hc.out] at h3
                have H3 := any_hidU (Or.inr h3 : Lib.IsBuilder 98 5 w.heap.size w.heap.size _ w3)
                have Hb3 := any_hidU ((HW.out.trans Hb2.out).trans hb3)
                clear h3 hb3
                go_wp2
                exact ⟨⟨k + 1, k + 1, Nat.le_refl _, by omega, by go_num, by go_num, H3, by simp [Hid], Hb3⟩, by simp [intOf]; omega⟩
              · -- pos = i: WriteByte(c) alone
                have hpe : p = k := by omega
                subst hpe
                have hnil : Lib.strCells (s.extract p p) = [] := List.eq_nil_of_length_eq_zero (by rw [Lib.strCells_length, hxs]; omega)
                refine (bld_WriteByte w.heap.size w.heap.size _ (((s[p]'hlt2).toNat : Int) - 32) wr HB.out (by rw [hlenp]; omega) hBw).mono ?_
                rintro e w3 ⟨rfl, h3, hb3⟩
                have hc' := Hc.out
                rw [hnil, List.append_nil] at hc'
                rw [hc'] at h3
                have H3 := any_hidU (Or.inr h3 : Lib.IsBuilder 98 5 w.heap.size w.heap.size _ w3)
                have Hb3 := any_hidU (HW.out.trans hb3)
                clear h3 hb3 hc'
                go_wp2
                exact ⟨⟨p + 1, p + 1, Nat.le_refl _, by omega, by go_num, by go_num, H3, by simp [Hid], Hb3⟩, by simp [intOf]; omega⟩
            · -- no small letter: nothing is written
              have hlow' : Lib.isLowerB (s[k]'hlt2) = false := by simpa using hlow
              have hnot : ¬ ((97 : Int) ≤ ((s[k]'hlt2).toNat : Int) ∧ ((s[k]'hlt2).toNat : Int) ≤ 122) := by
                rw [Lib.isLowerB_int] at hlow'
                simpa using hlow'
              have hstretch : ((s.data.toList.drop p).take (k + 1 - p)).any Lib.isLowerB = false := by
                have e1 : k + 1 - p = (k - p) + 1 := by omega
                have e2 : (s.data.toList.drop p)[k - p]? = some (s[k]'hlt2) := by
                  rw [List.getElem?_drop, show p + (k - p) = k by omega]
                  exact Hb.out
                rw [e1, Lib.any_take_succ _ _ _ _ e2, HN.out, hlow']
                rfl
              have Hs := any_hidU hstretch
              clear hstretch
              go_wp2
              all_goals first
                | exact ⟨⟨p, k + 1, by omega, by omega, rfl, by go_num, HB, Hs, HW⟩, by simp [intOf]; omega⟩
                | (exfalso; omega)
          · -- behind the loop
            have hke2 : k = s.size := by omega
            subst hke2
            have hne : s.data.toList.map Lib.upperB ≠ [] := by
              intro h0
              have h1 : s.data.toList = [] := by simpa using h0
              have h2 := HH.out
              rw [h1] at h2
              cases h2
            have hlenp : (Lib.byteCells ((s.data.toList.take p).map Lib.upperB)).length = p := by
              rw [Lib.byteCells_length, List.length_map, List.length_take, ← Lib.size_eq]
              omega
            have hxs : (s.extract p s.size).size = s.size - p := by
              rw [Lib.size_eq, Lib.extract_data, List.length_take, List.length_drop, ← Lib.size_eq]
              omega
            have hfull : (s.data.toList.drop p).take (s.size - p) = s.data.toList.drop p := List.take_of_length_le (by rw [List.length_drop, ← Lib.size_eq]; omega)
            have hrest : (s.data.toList.drop p).any Lib.isLowerB = false := by rw [← hfull]; exact HN.out
            have hcont : Lib.byteCells ((s.data.toList.take p).map Lib.upperB) ++ Lib.strCells (s.extract p s.size) = Lib.byteCells (s.data.toList.map Lib.upperB) := by
              rw [← Lib.map_rest Lib.upperB Lib.isLowerB Lib.upperB_of_not s.data.toList p hrest, Lib.byteCells_append, Lib.strCells_eq, Lib.extract_data, hfull]
            have Hc := any_hidU hcont
            clear hcont hfull hrest
            have hBw : w.heap.size ≤ wr.heap.size := HW.out.size
            go_wp2_with fail
            · -- pos < len(s): WriteString(s[pos:]), then String()
              refine (bld_WriteString w.heap.size w.heap.size _ (s.extract p s.size) wr HB.out (by rw [hlenp, hxs]; omega) hBw).mono ?_
              rintro e w2 ⟨rfl, h2, hb2⟩
              rw [Hc.out] at h2
              have H2 := any_hidU (Or.inr h2 : Lib.IsBuilder 98 5 w.heap.size w.heap.size _ w2)
              have Hb2 := any_hidU (HW.out.trans hb2)
              clear h2 hb2
              go_wp2_with fail
              refine (bld_String w.heap.size w.heap.size _ w2 H2.out hne).mono ?_
              rintro e w3 ⟨rfl, hb3⟩
              have Hb3 := any_hidU (Hb2.out.trans hb3)
              clear hb3
              go_wp2
              go_ret
              exact ⟨rfl, Hb3.out⟩
            · -- pos = len(s): String()
              have hpe : p = s.size := by omega
              subst hpe
              have hnil : Lib.strCells (s.extract s.size s.size) = [] := List.eq_nil_of_length_eq_zero (by rw [Lib.strCells_length, hxs]; omega)
              have hc' := Hc.out
              rw [hnil, List.append_nil] at hc'
              have hB' := HB.out
              rw [hc'] at hB'
              refine (bld_String w.heap.size w.heap.size _ wr hB' hne).mono ?_
              rintro e w3 ⟨rfl, hb3⟩
              have Hb3 := any_hidU (HW.out.trans hb3)
              clear hb3 hB' hc'
              go_wp2
              go_ret
              exact ⟨rfl, Hb3.out⟩
end Go.Proofs.YtimahlimmblgkaaGreatDoor
namespace Go.Proofs.YtimahlimmblgkaaGreatDoor
namespace Rs
def ldig (d : Nat) : UInt8 := UInt8.ofNat (if d < 10 then 48 + d else 87 + d)
/-- the hexadecimal digits of a number, small letters -/
def hx (n : Nat) : List UInt8 := if _h : n < 16 then [ldig n] else hx (n / 16) ++ [ldig (n % 16)]
termination_by n
theorem hx_lt {n : Nat} (h : n < 16) : hx n = [ldig n] := by rw [hx, dif_pos h]
theorem hx_ge {n : Nat} (h : 16 ≤ n) : hx n = hx (n / 16) ++ [ldig (n % 16)] := by rw [hx, dif_neg (by omega)]
theorem hx_step {n u : Nat} {tl : List UInt8} (h : hx n = hx u ++ tl) (hu : 16 ≤ u) : hx n = hx (u / 16) ++ (ldig (u % 16) :: tl) := by
  rw [h, hx_ge hu]; simp
theorem dig_fin : ∀ d : Fin 16, (({ data := #[48, 49, 50, 51, 52, 53, 54, 55, 56, 57, 97, 98, 99, 100, 101, 102, 103, 104, 105, 106, 107, 108, 109, 110, 111, 112, 113, 114, 115, 116, 117, 118, 119, 120, 121, 122] } : ByteArray)[d.val]'(Nat.lt_of_lt_of_le d.isLt (by decide))).toNat = (ldig d.val).toNat := by decide
theorem dig_at (d : Nat) (h : d < 16) : (({ data := #[48, 49, 50, 51, 52, 53, 54, 55, 56, 57, 97, 98, 99, 100, 101, 102, 103, 104, 105, 106, 107, 108, 109, 110, 111, 112, 113, 114, 115, 116, 117, 118, 119, 120, 121, 122] } : ByteArray)[d]'(Nat.lt_of_lt_of_le h (by decide))).toNat = (ldig d).toNat := dig_fin ⟨d, h⟩
theorem tl_set {cs : Array Value} {tl : List UInt8} {k e : Nat} {b : UInt8} (hcs : cs.size = 65) (hk : k ≤ 15) (he : e + k = 64) (h : ∀ j (b : UInt8), tl[j]? = some b → cs[65 - k + j]? = some (.int .u8 b.toNat)) :
    ∀ j (c : UInt8), (b :: tl)[j]? = some c → (cs.setIfInBounds e (.int .u8 b.toNat))[65 - (k + 1) + j]? = some (.int .u8 c.toNat) := by
  intro j c hj
  rw [show 65 - (k + 1) + j = e + j by omega, Array.getElem?_setIfInBounds]
  match j, hj with
  | 0, hj => simp at hj; subst hj; rw [if_pos (Nat.add_zero e).symm, if_pos (by omega)]
  | j + 1, hj =>
    rw [if_neg (by omega), show e + (j + 1) = 65 - k + j by omega]
    exact h j c (by simpa using hj)
theorem pow_step {u k : Nat} (h : u < 16 ^ (16 - k)) (hu : 16 ≤ u) : k ≤ 14 ∧ u / 16 < 16 ^ (16 - (k + 1)) := by
  have hk : k ≤ 14 := by
    rcases Nat.lt_or_ge k 15 with h1 | h1
    · omega
    · have : 16 ^ (16 - k) ≤ 16 ^ 1 := Nat.pow_le_pow_right (by omega) (by omega)
      omega
  refine ⟨hk, ?_⟩
  rw [show 16 - k = (16 - (k + 1)) + 1 by omega, Nat.pow_succ] at h
  exact Nat.div_lt_of_lt_mul (by rw [Nat.mul_comm]; exact h)
end Rs
open Go.RowKit
theorem and15 (u : Nat) (hu : u < 18446744073709551616) : bits .and .u64 (u : Int) 15 = ((u % 16 : Nat) : Int) := by
  have h := Nat.and_two_pow_sub_one_eq_mod u 4
  show IntKind.u64.wrap ((BitVec.ofInt 64 (u : Int) &&& BitVec.ofInt 64 15).toNat : Int) = _
  rw [BitVec.toNat_and]
  have e1 : (BitVec.ofInt 64 (u : Int)).toNat = u := by rw [BitVec.ofInt_natCast, BitVec.toNat_ofNat]; exact Nat.mod_eq_of_lt hu
  have e2 : (BitVec.ofInt 64 15).toNat = 15 := by decide
  rw [e1, e2, IntKind.wrap_u64]
  have h' : u &&& 15 = u % 16 := h
  rw [h']
  omega
/-- what formatBits reads of the variables -/
structure Lb (w : World) : Prop where
  sz : 9 < w.heap.size
  bru : w.cell? ⟨9, 15, none⟩ = some (.int .u8 4)
theorem Lb.below {w w1 : World} (h : Lb w) (hb : Below w.heap.size w w1) : Lb w1 :=
  ⟨Nat.lt_of_lt_of_le h.sz hb.size, (hb.cell (p := ⟨9, 15, none⟩) h.sz).trans h.bru⟩
theorem Lb.alloc {w : World} (h : Lb w) (o : Obj) : Lb (w.alloc o) := h.below ((Below.refl _ _).alloc (Nat.le_refl _) o)
set_option maxHeartbeats 4000000 in
set_option maxRecDepth 100000 in
theorem fb_lb (n : Nat) (hn : n < 18446744073709551616) (w : World) (hL : Lb w) :
    Calls Tryz.prog 146 #[.slice none 0 0, .int .u64 n, .int .i64 16, .bool false, .bool false] w fun e w' => e = .returned (.tuple #[.slice none 0 0, .string ⟨(Rs.hx n).toArray⟩]) ∧ Below w.heap.size w w' := by
  have hbr := hL.bru
  have hsz := hL.sz
  have HL := Lib.hid hL
  clear hL
  have hp2 : ∀ W : World, Calls Tryz.prog 176 #[.int .i64 16] W fun e w' => e = .returned (.bool true) ∧ W = w' := fun W => by
    have hb : bits .and .i64 16 15 = 0 := by decide +kernel
    go_enter Tryz.func176, Tryz.ntmps176
    go_wp2
    go_ret
    exact ⟨rfl, rfl⟩
  have htz : ∀ W : World, W.cell? ⟨9, 15, none⟩ = some (.int .u8 4) → Calls Tryz.prog 177 #[.int .u64 16] W fun e w' => e = .returned (.int .i64 4) ∧ W = w' := fun W hc => by
    go_enter Tryz.func177, Tryz.ntmps177
    go_wp2_with (go_at_call 192; refine (tz_calls _ hc).mono ?_; rintro e w' ⟨rfl, rfl⟩)
    go_ret
    exact ⟨rfl, rfl⟩
  go_enter Tryz.func146, Tryz.ntmps146
  go_wp2_with (go_at_call 176; refine (hp2 _).mono ?_; rintro e w' ⟨rfl, rfl⟩)
  go_wp2_with fail
  go_at_call 177
  refine (htz _ ?_).mono ?_
  · exact (HL.out.alloc _).bru
  rintro e w' ⟨rfl, rfl⟩
  go_wp2
  have hz0 : Tryz.zeroCells246.size = 65 := by kernel_rfl
  go_loopw [1, 13] (fun u i wr => ∃ (k m : Nat) (tl : List UInt8) (cs : Array Value), u = .int .u64 m ∧ i = .int .i64 ((65 - k : Nat) : Int) ∧ k ≤ 15 ∧ m < 16 ^ (16 - k) ∧ tl.length = k ∧ Hid (Rs.hx n = Rs.hx m ++ tl) ∧
      wr.heap[w.heap.size]? = some (.cells cs 246 (0, 0)) ∧ cs.size = 65 ∧ Hid (∀ j (b : UInt8), tl[j]? = some b → cs[65 - k + j]? = some (.int .u8 b.toNat)) ∧ Below w.heap.size w wr) (fun u _ _ => (intOf u).toNat)
  case atStart => exact ⟨0, n, [], _, rfl, rfl, by omega, by simpa using hn, rfl, Lib.hid (by simp), heap_alloc_new w _, hz0, Lib.hid (by simp), (Below.refl _ _).alloc (Nat.le_refl _) _⟩
  case round =>
    obtain ⟨k, m, tl, cs, rfl, rfl, hk, hm, htl, HX, hblk, hcs, HT, hb⟩ := hrel
    by_cases h16 : 16 ≤ m
    · obtain ⟨hk14, hm'⟩ := Rs.pow_step hm h16
      have hx' := Lib.hid (Rs.hx_step HX.out h16)
      have hmn : m < 18446744073709551616 := Nat.lt_of_lt_of_le hm (Nat.pow_le_pow_right (by omega) (by omega) : 16 ^ (16 - k) ≤ 16 ^ 16)
      have hand := and15 m hmn
      obtain ⟨d, hd⟩ : ∃ d, d = m % 16 := ⟨_, rfl⟩
      have hd16 : d < 16 := by omega
      rw [← hd] at hand hx'
      have HD := Lib.hid hd
      clear hd
      obtain ⟨e, he⟩ : ∃ e, e + k = 64 := ⟨64 - k, by omega⟩
      have he1 : e + k ≤ 64 := by omega
      have he2 : 64 ≤ e + k := by omega
      have c0 : ∃ v, wr.cell? ⟨w.heap.size, e, none⟩ = some v := ⟨_, (cell_of_row wr w.heap.size e cs _ (0, 0) hblk).trans (Array.getElem?_eq_getElem (by omega))⟩
      obtain ⟨v0, c0⟩ := c0
      have f0 : wr.frozen? ⟨w.heap.size, e, none⟩ = false := by simp [World.frozen?, hblk]
      have hidx : (65 - k : Nat) = e + 1 := by omega
      rw [hidx]
      have HB := Lib.hid (show _ ∧ _ ∧ _ ∧ _ from ⟨hblk, hcs, hb, htl⟩)
      clear hm HX hblk hcs hidx he htl hb
      have hdg := Rs.dig_at d hd16
      generalize hld : Rs.ldig d = dg at hdg hx'
      have HLD := Lib.hid hld
      clear hld
      go_wp2
      obtain ⟨hblk, hcs, hb, htl⟩ := HB.out
      refine ⟨⟨k + 1, m / 16, dg :: tl, _, by go_num, by rw [show 65 - (k + 1) = e by omega], by omega, hm', by simp [htl], hx', heap_setCell_same wr _ e cs _ _ hblk, by simpa using hcs, Lib.hid (Rs.tl_set hcs (by omega) (by omega) HT.out), hb.setCell (Nat.le_refl _) _⟩, by simp [intOf]; omega⟩
    · have hm16 : m < 16 := by omega
      obtain ⟨e, he⟩ : ∃ e, e + k = 64 := ⟨64 - k, by omega⟩
      have he1 : e + k ≤ 64 := by omega
      have he2 : 64 ≤ e + k := by omega
      have he65 : e < 65 := by omega
      have hxn : Rs.hx n = Rs.ldig m :: tl := by rw [HX.out, Rs.hx_lt hm16]; rfl
      have c0 : ∃ v, wr.cell? ⟨w.heap.size, e, none⟩ = some v := ⟨_, (cell_of_row wr w.heap.size e cs _ (0, 0) hblk).trans (Array.getElem?_eq_getElem (by omega))⟩
      obtain ⟨v0, c0⟩ := c0
      have f0 : wr.frozen? ⟨w.heap.size, e, none⟩ = false := by simp [World.frozen?, hblk]
      have hidx : (65 - k : Nat) = e + 1 := by omega
      have hdg := Rs.dig_at m hm16
      generalize Rs.ldig m = dg at hdg hxn
      have hblk2 := heap_setCell_same wr w.heap.size e cs _ (.int .u8 dg.toNat) hblk
      have hset := Rs.tl_set (b := dg) hcs (by omega) he HT.out
      have hcv : (convert 71 9 (.slice (some ⟨w.heap.size, e, none⟩) (65 - e) (65 - e))).run Tryz.prog (wr.setCell ⟨w.heap.size, e, none⟩ (.int .u8 dg.toNat)) = .ok (.string ⟨(Rs.hx n).toArray⟩) (wr.setCell ⟨w.heap.size, e, none⟩ (.int .u8 dg.toNat)) := by
        have h := run_convert_bytes_back (P := Tryz.prog) (wr.setCell ⟨w.heap.size, e, none⟩ (.int .u8 dg.toNat)) 71 9 5 ⟨w.heap.size, e, none⟩ (65 - e) (Rs.hx n) Tryz.underlying71 Tryz.underlying5 Tryz.underlying9 (fun j hj => by
          rw [Addr.add_lit, cell_of_row _ _ _ _ _ _ hblk2]
          have := hset j ((Rs.hx n)[j]) (by rw [← hxn]; exact List.getElem?_eq_getElem hj)
          rw [show 65 - (k + 1) + j = e + j by omega] at this
          exact this)
        rw [show (Rs.hx n).length = 65 - e by rw [hxn]; simp; omega] at h
        exact h
      have HB := Lib.hid (show Below w.heap.size w (wr.setCell ⟨w.heap.size, e, none⟩ (.int .u8 dg.toNat)) from hb.setCell (Nat.le_refl _) _)
      rw [hidx]
      clear hm HX hblk hcs hidx he htl hb hblk2 hset hxn HT
      have hal : Tryz.prog.arrayLen 246 = 65 := by simp [Program.arrayLen, Tryz.underlying246]
      have hsl : ∀ W, (Instr.sliceAt 246 (.pointer (some ⟨w.heap.size, 0, none⟩)) (some (.int .i64 (e : Int))) none none).run Tryz.prog W = .ok (.slice (some ⟨w.heap.size, e, none⟩) (65 - e) (65 - e)) W := fun W => by
        rw [run_sliceAt_array_l W 246 ⟨w.heap.size, 0, none⟩ (by simp [Program.arrayLen, Program.elem, Tryz.underlying246]) .i64 (e : Int) (by omega) (by rw [hal]; omega)]
        have h65 : ¬ 65 = e := by omega
        rw [hal]
        go_simp
        all_goals first | omega | (rw [if_neg h65]; simp) | simp [h65]
      go_wp2
      go_ret2
      exact ⟨rfl, HB.out⟩
theorem fb_calls (n : Nat) (hn : n < 18446744073709551616) (w : World) (hL : Lv w) :
    Calls Tryz.prog 146 #[.slice none 0 0, .int .u64 n, .int .i64 16, .bool false, .bool false] w fun e w' => e = .returned (.tuple #[.slice none 0 0, .string ⟨(Rs.hx n).toArray⟩]) ∧ Below w.heap.size w w' := fb_lb n hn w ⟨by have := hL.sz; omega, hL.bru⟩
end Go.Proofs.YtimahlimmblgkaaGreatDoor
namespace Go.Proofs.YtimahlimmblgkaaGreatDoor
namespace Rs
theorem hexDig_fin : ∀ d : Fin 16, Lib.upperB (ldig d.val) = hexDig d.val := by decide
theorem hexDig_eq (d : Nat) (h : d < 16) : Lib.upperB (ldig d) = hexDig d := hexDig_fin ⟨d, h⟩
theorem hexT_eq : ∀ (f n : Nat), n < 16 ^ (f + 1) → Lib.toUpperA (hx n) = hexT (f + 1) n
  | 0, n, h => by
    have hn : n < 16 := by simpa using h
    rw [hx_lt hn, hexT, if_pos hn]
    simp [Lib.toUpperA, hexDig_eq n hn]
  | f + 1, n, h => by
    by_cases hn : n < 16
    · rw [hx_lt hn, hexT, if_pos hn]
      simp [Lib.toUpperA, hexDig_eq n hn]
    · rw [hx_ge (by omega), hexT, if_neg hn]
      have ih := hexT_eq f (n / 16) (by rw [Nat.pow_succ] at h; exact Nat.div_lt_of_lt_mul (by rw [Nat.mul_comm]; exact h))
      simp only [Lib.toUpperA, List.map_append, List.map_cons, List.map_nil] at ih ⊢
      rw [ih, hexDig_eq _ (by omega)]
theorem ldig_fin : ∀ d : Fin 16, (ldig d.val).toNat < 128 := by decide
theorem hx_ascii (n : Nat) : ∀ b ∈ hx n, b.toNat < 128 := by
  induction n using Nat.strongRecOn with
  | _ n ih =>
    by_cases hn : n < 16
    · rw [hx_lt hn]
      intro b hb
      simp only [List.mem_cons, List.not_mem_nil, or_false] at hb
      subst hb
      exact ldig_fin ⟨n, hn⟩
    · rw [hx_ge (by omega)]
      intro b hb
      rw [List.mem_append] at hb
      rcases hb with hb | hb
      · exact ih (n / 16) (by omega) b hb
      · simp only [List.mem_cons, List.not_mem_nil, or_false] at hb
        subst hb
        exact ldig_fin ⟨n % 16, by omega⟩
theorem hx_len : ∀ (f n : Nat), n < 16 ^ (f + 1) → (hx n).length ≤ f + 1
  | 0, n, h => by rw [hx_lt (by simpa using h)]; simp
  | f + 1, n, h => by
    by_cases hn : n < 16
    · rw [hx_lt hn]; simp
    · rw [hx_ge (by omega)]
      have ih := hx_len f (n / 16) (by rw [Nat.pow_succ] at h; exact Nat.div_lt_of_lt_mul (by rw [Nat.mul_comm]; exact h))
      simp; omega
theorem sp_fin : ∀ c : Fin 127, 33 ≤ c.val → decide (0 ≤ Lib.indexByte [92, 91, 93, 94, 45] (c.val : Int).toNat.toUInt8) = !plainB (c.val : Int) := by decide +kernel
theorem sp_eq (c : Int) (h0 : 33 ≤ c) (h1 : c ≤ 126) : decide (0 ≤ Lib.indexByte [92, 91, 93, 94, 45] c.toNat.toUInt8) = !plainB c := by
  have h := sp_fin ⟨c.toNat, by omega⟩ (by simp only; omega)
  rw [show ((⟨c.toNat, by omega⟩ : Fin 127).val : Int) = c by simp only; omega] at h
  exact h
theorem enc_fin : ∀ c : Fin 128, (Utf8.encode (c.val : Int)) = ⟨#[UInt8.ofNat c.val]⟩ := by decide +kernel
theorem enc_ascii (c : Int) (h0 : 0 ≤ c) (h1 : c < 128) : Utf8.encode c = ⟨#[UInt8.ofNat c.toNat]⟩ := by
  have h := enc_fin ⟨c.toNat, by omega⟩
  rw [show ((⟨c.toNat, by omega⟩ : Fin 128).val : Int) = c by simp only; omega] at h
  exact h
end Rs
open Go.RowKit
end Go.Proofs.YtimahlimmblgkaaGreatDoor
namespace Go.Proofs.YtimahlimmblgkaaGreatDoor
open Go.RowKit
set_option maxHeartbeats 1000000 in
set_option maxRecDepth 100000 in
theorem fi_calls (n : Nat) (hn : n < 9223372036854775808) (w : World) (hL : Lv w) :
    Calls Tryz.prog 105 #[.int .i64 n, .int .i64 16] w fun e w' => e = .returned (.string ⟨(Rs.hx n).toArray⟩) ∧ Below w.heap.size w w' := by
  have hf := fb_calls n (by omega) w hL
  clear hL
  generalize Rs.hx n = H at hf ⊢
  have hin : Calls Tryz.prog 116 #[.int .i64 n, .int .i64 16] w fun e w' => e = .returned (.string ⟨H.toArray⟩) ∧ Below w.heap.size w w' := by
    go_enter Tryz.func116, Tryz.ntmps116
    go_wp2_with (go_at_call 146; refine hf.mono ?_; clear hf; rintro e w' ⟨rfl, hb⟩)
    go_ret
    exact ⟨rfl, hb⟩
  clear hf
  go_enter Tryz.func105, Tryz.ntmps105
  go_wp2_with (go_at_call 116; refine hin.mono ?_; clear hin; rintro e w' ⟨rfl, hb⟩)
  go_ret
  exact ⟨rfl, hb⟩
set_option maxHeartbeats 1000000 in
set_option maxRecDepth 100000 in
theorem mark_calls (c : Int) (h0 : 0 ≤ c) (h1 : c ≤ 1114111) (w : World) (hL : Lv w) :
    Calls Tryz.prog 132 #[.int .i64 c] w fun e w' => e = .returned (.string ⟨(Rs.markS c).toArray⟩) ∧ Below w.heap.size w w' := by
  have hcr := fun h1 => Tryz.strings_ContainsRune_ascii ⟨#[92, 91, 93, 94, 45]⟩ c w h0 h1
  have hsp := Rs.sp_eq c
  by_cases hp : Rs.plainB c = true
  · have hpp := hp
    simp only [Rs.plainB, decide_eq_true_eq] at hpp
    obtain ⟨p1, p2, _⟩ := hpp
    have hcr := hcr (by omega)
    rw [show (⟨#[92, 91, 93, 94, 45]⟩ : ByteArray).data.toList = [92, 91, 93, 94, 45] from rfl, hsp p1 p2, hp] at hcr
    have hw32 : IntKind.i32.wrap c = c := by rw [IntKind.wrap_i32]; omega
    have he := Lib.hid (Rs.enc_ascii c h0 (by omega))
    have hm : Hid (Rs.markS c = [UInt8.ofNat c.toNat]) := Lib.hid (by simp [Rs.markS, hp])
    clear hp hsp hL
    go_enter Tryz.func132, Tryz.ntmps132
    go_wp2_with (go_at_call 106; refine hcr.mono ?_; clear hcr; rintro e w' ⟨rfl, rfl⟩)
    go_ret
    exact ⟨by rw [he.out, hm.out]; rfl, Below.refl _ _⟩
  · have hp' : Rs.plainB c = false := by simpa using hp
    have hm : Hid (Rs.markS c = [92, 120, 123] ++ Rs.hexT 16 c.toNat ++ [125]) := Lib.hid (by simp [Rs.markS, hp'])
    have hcn : c.toNat < 16 ^ 16 := Nat.lt_of_lt_of_le (show c.toNat < 1114112 by omega) (by decide)
    have hx := Lib.hid (Rs.hexT_eq 15 c.toNat hcn)
    have hlen := Rs.hx_len 15 c.toNat hcn
    have hfi := fi_calls c.toNat (by omega) w hL
    rw [show ((c.toNat : Nat) : Int) = c by omega] at hfi
    have hup := fun W => str_ToUpper_ascii ⟨(Rs.hx c.toNat).toArray⟩ W (by simp only [ByteArray.size]; simp; omega) (fun j b hb => Rs.hx_ascii c.toNat b (by simpa using List.mem_of_getElem? hb))
    simp only at hup
    have hcr' : 33 ≤ c → c ≤ 126 → Calls Tryz.prog 106 #[.string ⟨#[92, 91, 93, 94, 45]⟩, .int .i32 c] w fun e w' => e = .returned (.bool true) ∧ w' = w := fun p1 p2 => by
      have hcr := hcr (by omega)
      rw [show (⟨#[92, 91, 93, 94, 45]⟩ : ByteArray).data.toList = [92, 91, 93, 94, 45] from rfl, hsp p1 p2, hp'] at hcr
      exact hcr
    clear hcr hsp hp hp' hL
    rw [← hx.out] at hm
    have hUl : (Lib.toUpperA (Rs.hx c.toNat)).length ≤ 16 := by simpa [Lib.toUpperA] using hlen
    clear hx hlen
    generalize Lib.toUpperA (Rs.hx c.toNat) = U at hup hm hUl
    have ha1 : ∀ W, (Op.stringOp .add ⟨#[92, 120, 123]⟩ ⟨U.toArray⟩).run Tryz.prog W = .ok (.string ⟨([92, 120, 123] ++ U).toArray⟩) W := fun W => run_string_add_lists W [92, 120, 123] U (by simp) (by omega)
    have ha2 : ∀ W, (Op.stringOp .add ⟨([92, 120, 123] ++ U).toArray⟩ ⟨#[125]⟩).run Tryz.prog W = .ok (.string ⟨([92, 120, 123] ++ U ++ [125]).toArray⟩) W := fun W => run_string_add_lists W ([92, 120, 123] ++ U) [125] (by simp; omega) (by simp)
    generalize hM2 : [92, 120, 123] ++ U ++ [125] = M2 at ha2 hm
    generalize hM1 : [92, 120, 123] ++ U = M1 at ha1 ha2
    clear hM1 hM2 hUl
    generalize Rs.hx c.toNat = H at hfi hup
    have hw32 : IntKind.i32.wrap c = c := by rw [IntKind.wrap_i32]; omega
    by_cases hin : 33 ≤ c ∧ c ≤ 126
    · obtain ⟨p1, p2⟩ := hin
      have hcr := hcr' p1 p2
      clear hcr'
      go_enter Tryz.func132, Tryz.ntmps132
      go_wp2_with (first
        | (go_at_call 106; refine hcr.mono ?_; clear hcr; rintro e w' ⟨rfl, rfl⟩)
        | (go_at_call 105; refine hfi.mono ?_; clear hfi; rintro e w1 ⟨rfl, hb1⟩)
        | (go_at_call 104; refine (hup _).mono ?_; clear hup; rintro e w2 ⟨rfl, hb2⟩))
      go_ret
      exact ⟨by rw [hm.out]; rfl, hb1.trans (hb2.mono hb1.size)⟩
    · clear hcr'
      have hd : (decide (32 < c) && decide (c < 127)) = false := by simp; omega
      by_cases p1 : 32 < c
      · have p2 : ¬ c < 127 := by omega
        clear hd hin
        go_enter Tryz.func132, Tryz.ntmps132
        go_wp2_with (first
          | (go_at_call 105; refine hfi.mono ?_; clear hfi; rintro e w1 ⟨rfl, hb1⟩)
          | (go_at_call 104; refine (hup _).mono ?_; clear hup; rintro e w2 ⟨rfl, hb2⟩))
        go_ret
        exact ⟨by rw [hm.out]; rfl, hb1.trans (hb2.mono hb1.size)⟩
      · clear hd hin
        go_enter Tryz.func132, Tryz.ntmps132
        go_wp2_with (first
          | (go_at_call 105; refine hfi.mono ?_; clear hfi; rintro e w1 ⟨rfl, hb1⟩)
          | (go_at_call 104; refine (hup _).mono ?_; clear hup; rintro e w2 ⟨rfl, hb2⟩))
        go_ret
        exact ⟨by rw [hm.out]; rfl, hb1.trans (hb2.mono hb1.size)⟩
end Go.Proofs.YtimahlimmblgkaaGreatDoor
