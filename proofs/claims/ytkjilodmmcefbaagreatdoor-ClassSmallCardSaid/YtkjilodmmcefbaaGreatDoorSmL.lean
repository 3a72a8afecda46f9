/- The law's long: it returns true. -/
import Derived.Test.YtkjilodmmcefbaaGreatDoorTls
import Derived.Test.YtkjilodmmcefbaaGreatDoorBkP
namespace Go.Proofs.YtkjilodmmcefbaaGreatDoor
open Go.RowKit Go.Shelf
namespace Rs
def lg (n : Nat) : S := (List.range n).map fun (i : Nat) => (3 * (i : Int), 3 * (i : Int) + 1)
theorem lg_len (n : Nat) : (lg n).length = n := by simp [lg]
theorem lg_succ (n : Nat) : lg (n + 1) = lg n ++ [(3 * (n : Int), 3 * (n : Int) + 1)] := by simp [lg, List.range_succ]
theorem lg_take : (lg 4097).take 4096 = lg 4096 := by
  rw [lg_succ 4096, List.take_left' (lg_len 4096)]
theorem lg_right : right (lg 4097) = true := by decide +kernel
theorem lg_right0 : right (lg 4096) = true := by decide +kernel
theorem lg_cnt (n : Nat) : cnt (lg n) = 2 * (n : Int) := by
  induction n with
  | zero => rfl
  | succ n ih =>
    rw [lg_succ, cnt_append, ih]
    simp only [cnt]
    omega
theorem lg_cntE : cntE (lg 4097) = 8194 := by
  unfold cntE
  rw [lg_right, lg_cnt]
  rfl
theorem of_ok {l : S} (h : right l = true) (hl : l.length ≤ 4096) : ofErr l = 0 ∧ ofE l = l := by
  have ha : l.all rgB = true := all_rgB (right_rg h)
  constructor
  · unfold ofErr; rw [if_neg (by omega), if_pos ha]
  · unfold ofE; rw [if_pos ⟨hl, ha⟩, setOf_self h]
theorem of_many {l : S} (hl : 4096 < l.length) : ofErr l = 5 := by unfold ofErr; rw [if_pos hl]
theorem text_len {l : S} (h : right l = true) : (textS l).length ≤ 41 * l.length + 19 := by
  unfold textS
  split
  · rw [show allT.length = 19 by decide]; omega
  · have := flat_len l (right_rg h)
    simp only [List.length_append, List.length_singleton]
    omega
theorem text_ok {l : S} (h : right l = true) : textE l = textS l := by unfold textE; rw [if_pos h]
theorem lg_of0 : ofErr (lg 4096) = 0 ∧ ofE (lg 4096) = lg 4096 := of_ok lg_right0 (Nat.le_of_eq (lg_len 4096))
theorem lg_of1 : ofErr (lg 4097) = 5 := of_many (by rw [lg_len]; exact Nat.lt_succ_self _)
theorem lg_text : textE (lg 4097) = textS (lg 4097) ∧ (textS (lg 4097)).length ≤ 168000 := by
  refine ⟨text_ok lg_right, ?_⟩
  have := text_len lg_right
  rw [lg_len] at this
  omega
theorem lg_read : readF (textS (lg 4097)) = some (lg 4097, (textS (lg 4097)).length) := read_self lg_right
end Rs
theorem Sl.take3 {w : World} {a : Option Addr} {cap : Nat} {l : Rs.S} (h : Sl w a cap l) (k : Nat) : Sl w a cap (l.take k) := by
  refine ⟨fun hne => ?_, fun e => ?_, h.sp⟩
  · have hl : l ≠ [] := fun e => hne (by rw [e]; simp)
    obtain ⟨b, off, e, h1, h2⟩ := h.rd hl
    refine ⟨b, off, e, h1, fun i r hr => h2 i r ?_⟩
    rw [List.getElem?_take] at hr
    split at hr
    · exact hr
    · cases hr
  · rw [(h.nil e).1]
    exact ⟨by simp, (h.nil e).2⟩
theorem long_of0 {a : Option Addr} {cap : Nat} {W : World} (h : Sl W a cap (Rs.lg 4097)) : Calls Tryz.prog 28 #[.slice a 4096 cap] W fun e w' => ∃ b c, ∃ n : Nat, e = .returned (.tuple #[.slice b n c, .int .i64 0]) ∧ ((n : Int) == 4096) = true ∧ Below W.heap.size W w' := by
  have hs := h.take3 4096
  rw [Rs.lg_take] at hs
  have hc := Of_calls a cap (Rs.lg 4096) W hs (by rw [Rs.lg_len]; omega)
  rw [Rs.lg_of0.1, Rs.lg_of0.2, Rs.lg_len] at hc
  refine hc.mono fun e w' ⟨v, h1, h2, h3⟩ => ?_
  obtain ⟨b, c, rfl, hn, _⟩ := Sl.of_own h2
  exact ⟨b, c, _, h1, by rw [Rs.lg_len]; rfl, h3⟩
theorem long_of1 {a : Option Addr} {cap k : Nat} (hk : k = 4097) {W : World} (h : Sl W a cap (Rs.lg 4097)) : Calls Tryz.prog 28 #[.slice a k cap] W fun e w' => ∃ v, e = .returned (.tuple #[v, .int .i64 5]) ∧ Below W.heap.size W w' := by
  subst hk
  have hc := Of_calls a cap (Rs.lg 4097) W h (by rw [Rs.lg_len]; omega)
  rw [Rs.lg_of1, Rs.lg_len] at hc
  exact hc.mono fun e w' ⟨v, h1, _, h3⟩ => ⟨v, h1, h3⟩
theorem long_text {a : Option Addr} {cap k : Nat} (hk : k = 4097) {W : World} (h : Sl W a cap (Rs.lg 4097)) (hL : Lv W) : Calls Tryz.prog 16 #[.slice a k cap] W fun e w' => e = .returned (.tuple #[.string ⟨(Rs.textS (Rs.lg 4097)).toArray⟩, .int .i64 0]) ∧ Below W.heap.size W w' := by
  subst hk
  have hc := text_calls a cap (Rs.lg 4097) W h (by rw [Rs.lg_len]; omega) hL
  rw [Rs.lg_text.1, Rs.lg_right, Rs.lg_len] at hc
  exact hc
theorem long_read {k : Nat} (hk : k = 4097) {t : ByteArray} {W : World} (ht : t.data.toList = Rs.textS (Rs.lg 4097)) (hL : Lv W) : Calls Tryz.prog 17 #[.string t] W fun e w' => ∃ b c, e = .returned (.tuple #[.slice b k c, .int .i64 (t.size : Int), .int .i64 0]) ∧ Sl w' b c (Rs.lg 4097) ∧ Below W.heap.size W w' := by
  subst hk
  have hsz : t.size = (Rs.textS (Rs.lg 4097)).length := by rw [← ht, Lib.size_eq]
  have hc := read_calls t W hL (by rw [hsz]; have := Rs.lg_text.2; omega)
  obtain ⟨e1, e2, e3⟩ := Rs.read_some Rs.lg_read
  refine hc.mono fun e w' h => ?_
  unfold RdPost at h
  rw [ht, e1, e2, e3] at h
  obtain ⟨v, h1, h2, h3⟩ := h
  obtain ⟨b, c, rfl, hn, hs⟩ := Sl.of_own h2
  rw [Rs.lg_len, ← hsz] at h1
  exact ⟨b, c, h1, hs, h3⟩
theorem long_eq {k : Nat} (hk : k = 4097) {a b : Option Addr} {ca cb : Nat} {W : World} (ha : Sl W a ca (Rs.lg 4097)) (hb : Sl W b cb (Rs.lg 4097)) : Calls Tryz.prog 18 #[.slice a k ca, .slice b k cb] W fun e w' => e = .returned (.bool true) ∧ ∃ n, w' = W.drewN n := by
  subst hk
  have hc := eqR_calls a b ca cb (Rs.lg 4097) (Rs.lg 4097) W ha.rd hb.rd (by rw [Rs.lg_len]; omega)
  rw [Rs.lg_len, show decide (Rs.lg 4097 = Rs.lg 4097) = true from decide_eq_true rfl] at hc
  exact hc
theorem long_cnt {k : Nat} (hk : k = 4097) {a : Option Addr} {cap : Nat} {W : World} (h : Sl W a cap (Rs.lg 4097)) : Calls Tryz.prog 24 #[.slice a k cap] W fun e w' => e = .returned (.int .i64 (2 * (k : Int))) ∧ Below W.heap.size W w' := by
  subst hk
  have hc := count_E a cap (Rs.lg 4097) W h.rd (fun b off e => (h.sp _ e).2) (by rw [Rs.lg_len]; omega)
  rw [Rs.lg_cntE, Rs.lg_len] at hc
  exact hc
theorem own_cap {W : World} {base n k cap : Nat} {a : Option Addr} {xs : List Value} (h : W.ownsRow base 34 2 (.slice a k cap) n xs) : k ≤ cap := by
  rcases h.2 with ⟨e, h0⟩ | ⟨g, cap', cur, e, hb, hg, hc, hm, hs, ht⟩
  · cases e; exact Nat.le_refl _
  · cases e; exact hc
theorem own_at {W : World} {base k : Nat} {v : Value} {l : Rs.S} (h : W.ownsRow base 34 2 v k (rFlat l)) (hl : l.length = k) : ∃ a cap, v = .slice a k cap ∧ Sl W a cap l ∧ k ≤ cap := by
  obtain ⟨a, cap, rfl, _, hs⟩ := Sl.of_own h
  have hc := own_cap h
  rw [hl] at hc ⊢
  exact ⟨a, cap, rfl, hs, hc⟩
set_option maxRecDepth 100000 in
set_option maxHeartbeats 4000000 in
theorem long_calls (w : World) (hL : Lv w) : Calls Tryz.prog 35 #[] w fun e w' => e = .returned (.bool true) ∧ Below w.heap.size w w' := by
  have HAB := Lib.hid hL
  clear hL
  go_enter Tryz.func35, Tryz.ntmps35
  go_wp2
  go_loopw [1, 2, 12] (fun v _ i wr => ∃ k : Nat, k ≤ 4097 ∧ i = .int .i64 k ∧ wr.ownsRow w.heap.size 34 2 v k (rFlat (Rs.lg k)) ∧ Below w.heap.size w wr) (fun _ _ i _ => 4097 - (intOf i).toNat)
  case atStart => exact ⟨0, Nat.zero_le _, rfl, World.ownsRow_nil _ _ _ _, Below.refl _ _⟩
  case round =>
    obtain ⟨k, hk, rfl, hrow, hb⟩ := hrel
    have hbs := hb.size
    by_cases hlt : k < 4097
    · have hw1 : IntKind.i64.wrap (3 * (k : Int)) = 3 * (k : Int) := by rw [IntKind.wrap_i64]; omega
      have hw2 : IntKind.i64.wrap (3 * (k : Int) + 1) = 3 * (k : Int) + 1 := by rw [IntKind.wrap_i64]; omega
      have HR := Lib.hid (And.intro hrow hb)
      clear hrow hb
      go_wp2_with (at_builtin; refine wpList_append_R rfl _ _ 25 34 rfl Tryz.underlying25 Tryz.info34 w.heap.size u1 k (rFlat (Rs.lg k)) rfl (HR.out.1.alloc _) (some ⟨wr.heap.size, 0, none⟩) [(3 * (k : Int), 3 * (k : Int) + 1)] 1 rfl (Sl.alloc_new wr [(3 * (k : Int), 3 * (k : Int) + 1)] _) (by simp; omega) (by simp; omega) ?_; rintro v2 w2 hown2 - hb2)
      go_roundw
      case rel =>
        refine ⟨k + 1, by omega, by go_num, ?_, hb2 _ (HR.out.2.alloc hbs _)⟩
        rw [Rs.lg_succ, rFlat_append]
        exact hown2
      case measure => simp [intOf]; omega
    · have hk' : k = 4097 := by omega
      obtain ⟨a1, c1, rfl, hs1, hcap⟩ := own_at hrow (Rs.lg_len k)
      have hge : (4097 : Int) ≤ (k : Int) := by omega
      have hlt0 : decide ((k : Int) < 4097) = false := decide_eq_false (by omega)
      have hc4 : 4096 ≤ c1 := by omega
      have hmul : IntKind.i64.wrap (2 * (k : Int)) = 2 * (k : Int) := by rw [IntKind.wrap_i64]; omega
      have HS := Lib.hid (show Sl wr a1 c1 (Rs.lg 4097) by rw [hk'] at hs1; exact hs1)
      have HK := Lib.hid hk'
      have HB := Lib.hid hb
      clear hrow hs1 hb hlt hk hk' hcap
      go_wp2_with fail
      go_at_call 28
      refine (long_of0 HS.out).mono ?_
      rintro e w1 ⟨b2, c2, n2, rfl, hn2, hb⟩
      have HS1 := Lib.hid (HS.out.below hb)
      have HB1 := Lib.hid (Bthen HB.out hb)
      clear hb
      go_wp2_with fail
      go_at_call 28
      refine (long_of1 HK.out HS1.out).mono ?_
      rintro e w2 ⟨v2, rfl, hb⟩
      have HS2 := Lib.hid (HS1.out.below hb)
      have HB2 := Lib.hid (Bthen HB1.out hb)
      clear hb
      go_wp2_with fail
      go_at_call 16
      refine (long_text HK.out HS2.out (HAB.out.below HB2.out)).mono ?_
      rintro e w3 ⟨rfl, hb⟩
      have HS3 := Lib.hid (HS2.out.below hb)
      have HB3 := Lib.hid (Bthen HB2.out hb)
      clear hb
      obtain ⟨t, ht⟩ : ∃ t : ByteArray, t = ⟨(Rs.textS (Rs.lg 4097)).toArray⟩ := ⟨_, rfl⟩
      have HT : Hid (t.data.toList = Rs.textS (Rs.lg 4097)) := Lib.hid (by rw [ht])
      rw [← ht]
      clear ht
      go_wp2_with fail
      go_at_call 17
      refine (long_read HK.out HT.out (HAB.out.below HB3.out)).mono ?_
      rintro e w4 ⟨b4, c4, rfl, hs, hb⟩
      have HR4 := Lib.hid hs
      have HS4 := Lib.hid (HS3.out.below hb)
      have HB4 := Lib.hid (Bthen HB3.out hb)
      clear hs hb
      go_wp2_with fail
      go_at_call 18
      refine (long_eq HK.out HR4.out HS4.out).mono ?_
      rintro e w5 ⟨rfl, nn, rfl⟩
      have hb : Below w4.heap.size w4 (w4.drewN nn) := below_drewN (Below.refl _ _) _
      generalize w4.drewN nn = w5 at *
      have HS5 := Lib.hid (HS4.out.below hb)
      have HB5 := Lib.hid (Bthen HB4.out hb)
      clear hb
      go_wp2_with fail
      go_at_call 24
      refine (long_cnt HK.out HS5.out).mono ?_
      rintro e w6 ⟨rfl, hb⟩
      have HB6 := Lib.hid (Bthen HB5.out hb)
      clear hb
      go_wp2_with fail
      go_ret
      exact ⟨rfl, HB6.out⟩
end Go.Proofs.YtkjilodmmcefbaaGreatDoor
