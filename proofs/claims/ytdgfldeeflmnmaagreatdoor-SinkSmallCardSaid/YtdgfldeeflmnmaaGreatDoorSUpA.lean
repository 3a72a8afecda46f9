/- Texts of the claim, put together: PuA, UpA. -/
import Derived.Test.YtdgfldeeflmnmaaGreatDoorSBaA
import Derived.Lib.Strings
import Derived.Lib.Walk
import Derived.Lib.ConvBytes
import Derived.Lib.AtoiAllMem
import Derived.Lib.ParseIntB
import Derived.Lib.ParseIntBMem
import Derived.Lib.IfaceEq
import Derived.Laws.Strings3
import Derived.Laws.Closers25
import Derived.Laws.Closers25b
import Derived.Laws.BitsAllLaws
import Derived.Laws.BitsLemmas
import Derived.BigCall
import Derived.BigGuard
import Derived.Test.YtdgfldeeflmnmaaGreatDoorSLaid
import Derived.Laws.Bits64
import Derived.Outline
import Derived.Lib.UnsafeStr
import Derived.Test.YtdgfldeeflmnmaaGreatDoorSBlA
import Derived.Lib.Case
import Derived.Lib.TrimByte
import Derived.Lib.Join
import Derived.Laws.Rows
import Derived.Laws.NewBlocks
import Derived.Laws.IdiomStrings
namespace Go.Proofs.YtdgfldeeflmnmaaGreatDoor
namespace Rs
def hexM (M acc : Nat) : List UInt8 → Lib.NumEnd Nat
  | [] => .ok acc
  | c :: r => match hexD (c.toNat : Int) with
    | some d => if M < acc * 16 + d.toNat then .range else hexM M (acc * 16 + d.toNat) r
    | none => Lib.NumEnd.syntax
/-- the byte with the bit 32 set -/
def lowB (c : Nat) : Nat := c ||| 32
def lowT (c : Nat) : Bool := (match hexD (c : Int) with
  | some d => (decide (c ≤ 57) && decide (48 ≤ c) && decide (d = (c : Int) - 48)) || (!(decide (48 ≤ c) && decide (c ≤ 57)) && decide (97 ≤ lowB c) && decide (lowB c ≤ 102) && decide (d = (lowB c : Int) - 87) && decide (c ≠ 95))
  | none => !(decide (48 ≤ c) && decide (c ≤ 57)) && (decide (lowB c < 97) || decide (103 ≤ lowB c))) && decide (lowB c < 256)
theorem low_all : ∀ c : Fin 256, lowT c.val = true := by decide +kernel
theorem low_tab (c : Nat) (hc : c < 256) : (match hexD (c : Int) with
    | some d => (c ≤ 57 ∧ 48 ≤ c ∧ d = (c : Int) - 48) ∨ (¬ (48 ≤ c ∧ c ≤ 57) ∧ 97 ≤ lowB c ∧ lowB c ≤ 102 ∧ d = (lowB c : Int) - 87 ∧ c ≠ 95)
    | none => ¬ (48 ≤ c ∧ c ≤ 57) ∧ (lowB c < 97 ∨ 103 ≤ lowB c)) ∧ lowB c < 256 := by
  have h := low_all ⟨c, hc⟩
  unfold lowT at h
  dsimp only at h
  cases hd : hexD (c : Int) with
  | none => rw [hd] at h; simp at h ⊢; omega
  | some d => rw [hd] at h; simp at h ⊢; omega
end Rs
open Go.RowKit
theorem lower_calls (c : Int) (w : World) : Calls Tryz.prog 149 #[.int .u8 c] w fun e w' => e = .returned (.int .u8 (bits .or .u8 c 32)) ∧ w = w' := by
  go_enter Tryz.func149, Tryz.ntmps149
  go_wp2
  go_ret
  exact ⟨rfl, rfl⟩
theorem lower_eq (c : Nat) (hc : c < 256) : bits .or .u8 (c : Int) 32 = (Rs.lowB c : Int) := by
  show bits .or .u8 (c : Int) ((32 : Nat) : Int) = _
  unfold Rs.lowB
  have h : ∀ c : Fin 256, bits .or .u8 (c.val : Int) ((32 : Nat) : Int) = ((c.val ||| 32 : Nat) : Int) := by decide +kernel
  exact h ⟨c, hc⟩
end Go.Proofs.YtdgfldeeflmnmaaGreatDoor
namespace Go.Proofs.YtdgfldeeflmnmaaGreatDoor
open Go.RowKit
structure Lv (w : World) : Prop where
  sz : 8 < w.heap.size
  syn : ∃ te pe, w.cell? ⟨2, 0, none⟩ = some (.iface te pe)
  rng : ∃ te pe, w.cell? ⟨3, 0, none⟩ = some (.iface te pe)
  tab : Lib.Utf8Tabs 5 6 w
  bru : w.cell? ⟨8, 15, none⟩ = some (.int .u8 4)
theorem Lv.below {w w1 : World} (h : Lv w) (hb : Below w.heap.size w w1) : Lv w1 := by
  have hs := h.sz
  refine ⟨by have := hb.size; omega, ?_, ?_, Utf8Tabs_below h.tab hb, ?_⟩
  · obtain ⟨te, pe, e⟩ := h.syn
    exact ⟨te, pe, (hb.cell (p := ⟨2, 0, none⟩) (by simp only; omega)).trans e⟩
  · obtain ⟨te, pe, e⟩ := h.rng
    exact ⟨te, pe, (hb.cell (p := ⟨3, 0, none⟩) (by simp only; omega)).trans e⟩
  · exact (hb.cell (p := ⟨8, 15, none⟩) (by simp only; omega)).trans h.bru
theorem Lv.alloc {w : World} (h : Lv w) (o : Obj) : Lv (w.alloc o) := h.below ((Below.refl _ _).alloc (Nat.le_refl _) o)
theorem bytesBelow (w : World) (t : ByteArray) : Below w.heap.size w (Lib.bytesWorld w 5 t) := by
  unfold Lib.bytesWorld
  exact Lib.below_freeze ((Below.drew (Below.refl _ _)).alloc (Nat.le_refl _) _) (p := ⟨w.heap.size, _, none⟩) (Nat.le_refl _) _
set_option maxHeartbeats 1000000 in
set_option maxRecDepth 100000 in
theorem tz_calls (w : World) (hc : w.cell? ⟨8, 15, none⟩ = some (.int .u8 4)) : Calls Tryz.prog 197 #[.int .u64 16] w fun e w' => e = .returned (.int .i64 4) ∧ w = w' := by
  have hbits : bits .and .u64 16 (IntKind.u64.wrap (-16)) = 16 := by decide +kernel
  have hw : IntKind.u64.wrap (16 * 285870213051353865) / 288230376151711744 = 15 := by decide +kernel
  go_enter Tryz.func197, Tryz.ntmps197
  go_wp2
  go_ret
  exact ⟨rfl, rfl⟩
end Go.Proofs.YtdgfldeeflmnmaaGreatDoor
namespace Go.Proofs.YtdgfldeeflmnmaaGreatDoor
open Go.RowKit
end Go.Proofs.YtdgfldeeflmnmaaGreatDoor
namespace Go.Proofs.YtdgfldeeflmnmaaGreatDoor
namespace Rs
def ldig (d : Nat) : UInt8 := UInt8.ofNat (if d < 10 then 48 + d else 87 + d)
/-- the hexadecimal digits of a number, small letters -/
def hx (n : Nat) : List UInt8 := if _h : n < 16 then [ldig n] else hx (n / 16) ++ [ldig (n % 16)]
termination_by n
theorem hx_lt {n : Nat} (h : n < 16) : hx n = [ldig n] := by rw [hx, dif_pos h]
theorem hx_ge {n : Nat} (h : 16 ≤ n) : hx n = hx (n / 16) ++ [ldig (n % 16)] := by rw [hx, dif_neg (by omega)]
theorem hx_step {n u : Nat} {tl : List UInt8} (h : hx n = hx u ++ tl) (hu : 16 ≤ u) : hx n = hx (u / 16) ++ (ldig (u % 16) :: tl) := by
  rw [h, hx_ge hu]; simp
theorem dig_fin : ∀ d : Fin 16, (({ data := #[48, 49, 50, 51, 52, 53, 54, 55, 56, 57, 97, 98, 99, 100, 101, 102, 103, 104, 105, 106, 107, 108, 109, 110, 111, 112, 113, 114, 115, 116, 117, 118, 119, 120, 121, 122] } : ByteArray)[d.val]'(Nat.lt_of_lt_of_le d.isLt (by decide))).toNat = (ldig d.val).toNat := by decide
theorem dig_at (d : Nat) (h : d < 16) : (({ data := #[48, 49, 50, 51, 52, 53, 54, 55, 56, 57, 97, 98, 99, 100, 101, 102, 103, 104, 105, 106, 107, 108, 109, 110, 111, 112, 113, 114, 115, 116, 117, 118, 119, 120, 121, 122] } : ByteArray)[d]'(Nat.lt_of_lt_of_le h (by decide))).toNat = (ldig d).toNat := dig_fin ⟨d, h⟩
theorem tl_set {cs : Array Value} {tl : List UInt8} {k e : Nat} {b : UInt8} (hcs : cs.size = 65) (hk : k ≤ 15) (he : e + k = 64) (h : ∀ j (b : UInt8), tl[j]? = some b → cs[65 - k + j]? = some (.int .u8 b.toNat)) :
    ∀ j (c : UInt8), (b :: tl)[j]? = some c → (cs.setIfInBounds e (.int .u8 b.toNat))[65 - (k + 1) + j]? = some (.int .u8 c.toNat) := by
  intro j c hj
  rw [show 65 - (k + 1) + j = e + j by omega, Array.getElem?_setIfInBounds]
  match j, hj with
  | 0, hj => simp at hj; subst hj; rw [if_pos (Nat.add_zero e).symm, if_pos (by omega)]
  | j + 1, hj =>
    rw [if_neg (by omega), show e + (j + 1) = 65 - k + j by omega]
    exact h j c (by simpa using hj)
theorem pow_step {u k : Nat} (h : u < 16 ^ (16 - k)) (hu : 16 ≤ u) : k ≤ 14 ∧ u / 16 < 16 ^ (16 - (k + 1)) := by
  have hk : k ≤ 14 := by
    rcases Nat.lt_or_ge k 15 with h1 | h1
    · omega
    · have : 16 ^ (16 - k) ≤ 16 ^ 1 := Nat.pow_le_pow_right (by omega) (by omega)
      omega
  refine ⟨hk, ?_⟩
  rw [show 16 - k = (16 - (k + 1)) + 1 by omega, Nat.pow_succ] at h
  exact Nat.div_lt_of_lt_mul (by rw [Nat.mul_comm]; exact h)
end Rs
open Go.RowKit
theorem and15 (u : Nat) (hu : u < 18446744073709551616) : bits .and .u64 (u : Int) 15 = ((u % 16 : Nat) : Int) := by
  have h := Nat.and_two_pow_sub_one_eq_mod u 4
  show IntKind.u64.wrap ((BitVec.ofInt 64 (u : Int) &&& BitVec.ofInt 64 15).toNat : Int) = _
  rw [BitVec.toNat_and]
  have e1 : (BitVec.ofInt 64 (u : Int)).toNat = u := by rw [BitVec.ofInt_natCast, BitVec.toNat_ofNat]; exact Nat.mod_eq_of_lt hu
  have e2 : (BitVec.ofInt 64 15).toNat = 15 := by decide
  rw [e1, e2, IntKind.wrap_u64]
  have h' : u &&& 15 = u % 16 := h
  rw [h']
  omega
/-- what formatBits reads of the variables -/
structure Lb (w : World) : Prop where
  sz : 8 < w.heap.size
  bru : w.cell? ⟨8, 15, none⟩ = some (.int .u8 4)
theorem Lb.below {w w1 : World} (h : Lb w) (hb : Below w.heap.size w w1) : Lb w1 :=
  ⟨Nat.lt_of_lt_of_le h.sz hb.size, (hb.cell (p := ⟨8, 15, none⟩) h.sz).trans h.bru⟩
theorem Lb.alloc {w : World} (h : Lb w) (o : Obj) : Lb (w.alloc o) := h.below ((Below.refl _ _).alloc (Nat.le_refl _) o)
set_option maxHeartbeats 4000000 in
set_option maxRecDepth 100000 in
theorem fb_lb (n : Nat) (hn : n < 18446744073709551616) (w : World) (hL : Lb w) :
    Calls Tryz.prog 134 #[.slice none 0 0, .int .u64 n, .int .i64 16, .bool false, .bool false] w fun e w' => e = .returned (.tuple #[.slice none 0 0, .string ⟨(Rs.hx n).toArray⟩]) ∧ Below w.heap.size w w' := by
  have hbr := hL.bru
  have hsz := hL.sz
  have HL := Lib.hid hL
  clear hL
  have hp2 : ∀ W : World, Calls Tryz.prog 169 #[.int .i64 16] W fun e w' => e = .returned (.bool true) ∧ W = w' := fun W => by
    have hb : bits .and .i64 16 15 = 0 := by decide +kernel
    go_enter Tryz.func169, Tryz.ntmps169
    go_wp2
    go_ret
    exact ⟨rfl, rfl⟩
  have htz : ∀ W : World, W.cell? ⟨8, 15, none⟩ = some (.int .u8 4) → Calls Tryz.prog 170 #[.int .u64 16] W fun e w' => e = .returned (.int .i64 4) ∧ W = w' := fun W hc => by
    go_enter Tryz.func170, Tryz.ntmps170
    go_wp2_with (go_at_call 197; refine (tz_calls _ hc).mono ?_; rintro e w' ⟨rfl, rfl⟩)
    go_ret
    exact ⟨rfl, rfl⟩
  go_enter Tryz.func134, Tryz.ntmps134
  go_wp2_with (go_at_call 169; refine (hp2 _).mono ?_; rintro e w' ⟨rfl, rfl⟩)
  go_wp2_with fail
  go_at_call 170
  refine (htz _ ?_).mono ?_
  · exact (HL.out.alloc _).bru
  rintro e w' ⟨rfl, rfl⟩
  go_wp2
  have hz0 : Tryz.zeroCells229.size = 65 := by kernel_rfl
  go_loopw [1, 13] (fun u i wr => ∃ (k m : Nat) (tl : List UInt8) (cs : Array Value), u = .int .u64 m ∧ i = .int .i64 ((65 - k : Nat) : Int) ∧ k ≤ 15 ∧ m < 16 ^ (16 - k) ∧ tl.length = k ∧ Hid (Rs.hx n = Rs.hx m ++ tl) ∧
      wr.heap[w.heap.size]? = some (.cells cs 229 (0, 0)) ∧ cs.size = 65 ∧ Hid (∀ j (b : UInt8), tl[j]? = some b → cs[65 - k + j]? = some (.int .u8 b.toNat)) ∧ Below w.heap.size w wr) (fun u _ _ => (intOf u).toNat)
  case atStart => exact ⟨0, n, [], _, rfl, rfl, by omega, by simpa using hn, rfl, Lib.hid (by simp), heap_alloc_new w _, hz0, Lib.hid (by simp), (Below.refl _ _).alloc (Nat.le_refl _) _⟩
  case round =>
    obtain ⟨k, m, tl, cs, rfl, rfl, hk, hm, htl, HX, hblk, hcs, HT, hb⟩ := hrel
    by_cases h16 : 16 ≤ m
    · obtain ⟨hk14, hm'⟩ := Rs.pow_step hm h16
      have hx' := Lib.hid (Rs.hx_step HX.out h16)
      have hmn : m < 18446744073709551616 := Nat.lt_of_lt_of_le hm (Nat.pow_le_pow_right (by omega) (by omega) : 16 ^ (16 - k) ≤ 16 ^ 16)
      have hand := and15 m hmn
      obtain ⟨d, hd⟩ : ∃ d, d = m % 16 := ⟨_, rfl⟩
      have hd16 : d < 16 := by omega
      rw [← hd] at hand hx'
      have HD := Lib.hid hd
      clear hd
      obtain ⟨e, he⟩ : ∃ e, e + k = 64 := ⟨64 - k, by omega⟩
      have he1 : e + k ≤ 64 := by omega
      have he2 : 64 ≤ e + k := by omega
      have c0 : ∃ v, wr.cell? ⟨w.heap.size, e, none⟩ = some v := ⟨_, (cell_of_row wr w.heap.size e cs _ (0, 0) hblk).trans (Array.getElem?_eq_getElem (by omega))⟩
      obtain ⟨v0, c0⟩ := c0
      have f0 : wr.frozen? ⟨w.heap.size, e, none⟩ = false := by simp [World.frozen?, hblk]
      have hidx : (65 - k : Nat) = e + 1 := by omega
      rw [hidx]
      have HB := Lib.hid (show _ ∧ _ ∧ _ ∧ _ from ⟨hblk, hcs, hb, htl⟩)
      clear hm HX hblk hcs hidx he htl hb
      have hdg := Rs.dig_at d hd16
      generalize hld : Rs.ldig d = dg at hdg hx'
      have HLD := Lib.hid hld
      clear hld
      go_wp2
      obtain ⟨hblk, hcs, hb, htl⟩ := HB.out
      refine ⟨⟨k + 1, m / 16, dg :: tl, _, by go_num, by rw [show 65 - (k + 1) = e by omega], by omega, hm', by simp [htl], hx', heap_setCell_same wr _ e cs _ _ hblk, by simpa using hcs, Lib.hid (Rs.tl_set hcs (by omega) (by omega) HT.out), hb.setCell (Nat.le_refl _) _⟩, by simp [intOf]; omega⟩
    · have hm16 : m < 16 := by omega
      obtain ⟨e, he⟩ : ∃ e, e + k = 64 := ⟨64 - k, by omega⟩
      have he1 : e + k ≤ 64 := by omega
      have he2 : 64 ≤ e + k := by omega
      have he65 : e < 65 := by omega
      have hxn : Rs.hx n = Rs.ldig m :: tl := by rw [HX.out, Rs.hx_lt hm16]; rfl
      have c0 : ∃ v, wr.cell? ⟨w.heap.size, e, none⟩ = some v := ⟨_, (cell_of_row wr w.heap.size e cs _ (0, 0) hblk).trans (Array.getElem?_eq_getElem (by omega))⟩
      obtain ⟨v0, c0⟩ := c0
      have f0 : wr.frozen? ⟨w.heap.size, e, none⟩ = false := by simp [World.frozen?, hblk]
      have hidx : (65 - k : Nat) = e + 1 := by omega
      have hdg := Rs.dig_at m hm16
      generalize Rs.ldig m = dg at hdg hxn
      have hblk2 := heap_setCell_same wr w.heap.size e cs _ (.int .u8 dg.toNat) hblk
      have hset := Rs.tl_set (b := dg) hcs (by omega) he HT.out
      have hcv : (convert 115 9 (.slice (some ⟨w.heap.size, e, none⟩) (65 - e) (65 - e))).run Tryz.prog (wr.setCell ⟨w.heap.size, e, none⟩ (.int .u8 dg.toNat)) = .ok (.string ⟨(Rs.hx n).toArray⟩) (wr.setCell ⟨w.heap.size, e, none⟩ (.int .u8 dg.toNat)) := by
        have h := run_convert_bytes_back (P := Tryz.prog) (wr.setCell ⟨w.heap.size, e, none⟩ (.int .u8 dg.toNat)) 115 9 5 ⟨w.heap.size, e, none⟩ (65 - e) (Rs.hx n) Tryz.underlying115 Tryz.underlying5 Tryz.underlying9 (fun j hj => by
          rw [Addr.add_lit, cell_of_row _ _ _ _ _ _ hblk2]
          have := hset j ((Rs.hx n)[j]) (by rw [← hxn]; exact List.getElem?_eq_getElem hj)
          rw [show 65 - (k + 1) + j = e + j by omega] at this
          exact this)
        rw [show (Rs.hx n).length = 65 - e by rw [hxn]; simp; omega] at h
        exact h
      have HB := Lib.hid (show Below w.heap.size w (wr.setCell ⟨w.heap.size, e, none⟩ (.int .u8 dg.toNat)) from hb.setCell (Nat.le_refl _) _)
      rw [hidx]
      clear hm HX hblk hcs hidx he htl hb hblk2 hset hxn HT
      have hal : Tryz.prog.arrayLen 229 = 65 := by simp [Program.arrayLen, Tryz.underlying229]
      have hsl : ∀ W, (Instr.sliceAt 229 (.pointer (some ⟨w.heap.size, 0, none⟩)) (some (.int .i64 (e : Int))) none none).run Tryz.prog W = .ok (.slice (some ⟨w.heap.size, e, none⟩) (65 - e) (65 - e)) W := fun W => by
        rw [run_sliceAt_array_l W 229 ⟨w.heap.size, 0, none⟩ (by simp [Program.arrayLen, Program.elem, Tryz.underlying229]) .i64 (e : Int) (by omega) (by rw [hal]; omega)]
        have h65 : ¬ 65 = e := by omega
        rw [hal]
        go_simp
        all_goals first | omega | (rw [if_neg h65]; simp) | simp [h65]
      go_wp2
      go_ret2
      exact ⟨rfl, HB.out⟩
end Go.Proofs.YtdgfldeeflmnmaaGreatDoor
namespace Go.Proofs.YtdgfldeeflmnmaaGreatDoor
namespace Rs
theorem hx_len : ∀ (f n : Nat), n < 16 ^ (f + 1) → (hx n).length ≤ f + 1
  | 0, n, h => by rw [hx_lt (by simpa using h)]; simp
  | f + 1, n, h => by
    by_cases hn : n < 16
    · rw [hx_lt hn]; simp
    · rw [hx_ge (by omega)]
      have ih := hx_len f (n / 16) (by rw [Nat.pow_succ] at h; exact Nat.div_lt_of_lt_mul (by rw [Nat.mul_comm]; exact h))
      simp; omega
end Rs
open Go.RowKit
end Go.Proofs.YtdgfldeeflmnmaaGreatDoor
