/- Texts of the claim, put together: TrA. -/
import Derived.Test.YtimahlimmblgkaaGreatDoorPTqF
import Derived.Test.YtimahlimmblgkaaGreatDoorPLaid
import Derived.Test.YtimahlimmblgkaaGreatDoorPReA
import Derived.Lib.AppendIntMem
import Derived.Lib.ItoaLen
import Derived.Lib.IndexBytes
namespace Go.Proofs.YtimahlimmblgkaaGreatDoor.Sy
open Go Go.RowKit
/-- what the parser reads of the variables -/
structure Vs (w : World) : Prop where
  lv : Lv w
  pow : Lib.TabIs Tryz.prog w "internal/strconv.uint64pow10" .u64 Lib.pow10Tab
  cut : ∃ m, w.cell? ⟨3, 0, none⟩ = some (.int .i64 m)
theorem Vs.below {w w' : World} (h : Vs w) (hb : Below w.heap.size w w') : Vs w' := by
  refine ⟨h.lv.below hb, Lib.tabBelow_of_tabIs h.pow w' hb, ?_⟩
  obtain ⟨m, e⟩ := h.cut
  exact ⟨m, (hb.cell (p := ⟨3, 0, none⟩) (cell_lt e)).trans e⟩
/-- block p is a parser of s that stands at k -/
def Pa (w : World) (p : Nat) (s : ByteArray) (k : Nat) : Prop := w.heap[p]? = some (.cells #[.string s, .int .i64 (k : Int)] 104 (0, 0))
theorem ex_drop (s : ByteArray) (k : Nat) : (s.extract k s.size).data.toList = s.data.toList.drop k := Lib.extract_to_end s k
theorem len_d (s : ByteArray) : s.data.toList.length = s.size := by simp
theorem Pa.set {w : World} {p : Nat} {s : ByteArray} {k : Nat} (h : Pa w p s k) (j : Nat) : Pa (w.setCell ⟨p, 1, none⟩ (.int .i64 (j : Int))) p s j := by
  unfold Pa at *
  unfold World.setCell
  simp only [Array.getElem?_modify, h]
  rfl
theorem Pa.drewN {w : World} {p : Nat} {s : ByteArray} {k : Nat} (h : Pa w p s k) (n : Nat) : Pa (w.drewN n) p s k := h
theorem Pa.lt {w : World} {p : Nat} {s : ByteArray} {k : Nat} (h : Pa w p s k) : p < w.heap.size := (isT_of h).lt
theorem Fr.drwN {X : Nat → Prop} {w w' : World} (h : Fr X w w') (n : Nat) : Fr X w (w'.drewN n) := ⟨h.os, h.tape, h.output, h.size, h.block⟩
theorem Fr.of_bel {X : Nat → Prop} {w w' : World} (h : Below w.heap.size w w') : Fr X w w' := ⟨h.os, h.tape, h.output, h.size, fun i hi _ => h.block i hi⟩
set_option maxRecDepth 100000 in
set_option maxHeartbeats 2000000 in
theorem take_yes (p : Nat) (s t : ByteArray) (k : Nat) (w : World) (hp : Pa w p s k) (hk : k + t.size ≤ s.size) (hs : s.size ≤ 1000000) (h : Lib.hasPrefix (s.data.toList.drop k) t.data.toList = true) :
    Calls Tryz.prog 80 #[.pointer (some ⟨p, 0, none⟩), .string t] w fun e w' => e = .returned (.bool true) ∧ Pa w' p s (k + t.size) ∧ Fr (fun q => q = p) w w' := by
  have c0 : w.cell? ⟨p, 0, none⟩ = some (.string s) := block_cell hp 0 _ rfl
  have c1 : w.cell? ⟨p, 1, none⟩ = some (.int .i64 (k : Int)) := block_cell hp 1 _ rfl
  have f1 := block_froz hp 1
  have HP := Lib.hid hp
  have hc : Hid (∀ W, Calls Tryz.prog 67 #[.string (s.extract k s.size), .string t] W fun e w' => e = .returned (.bool true) ∧ w' = W) := Lib.hid (fun W => by
    have := Tryz.strings_HasPrefix (s.extract k s.size) t W
    rw [ex_drop, h] at this
    exact this)
  have hks : k ≤ s.size := by omega
  clear h hp
  go_enter Tryz.func80, Tryz.ntmps80
  go_wp2_with fail
  go_quiet ((go_at_call 67; exact Calls.quiet_of_same (hc.out _)))
  go_wp2_with fail
  go_ret
  have e : Value.int IntKind.i64 ((k : Int) + (t.size : Int)) = .int .i64 ((k + t.size : Nat) : Int) := by go_num
  rw [e]
  exact ⟨rfl, (HP.out.drewN _).set _, Fr.setCell (Fr.drwN (Fr.refl _ _) _) (by exact rfl) _⟩
set_option maxRecDepth 100000 in
set_option maxHeartbeats 2000000 in
theorem take_no (p : Nat) (s t : ByteArray) (k : Nat) (w : World) (hp : Pa w p s k) (hks : k ≤ s.size) (_hs : s.size ≤ 1000000) (h : Lib.hasPrefix (s.data.toList.drop k) t.data.toList = false) :
    Calls Tryz.prog 80 #[.pointer (some ⟨p, 0, none⟩), .string t] w fun e w' => e = .returned (.bool false) ∧ Pa w' p s k ∧ Fr (fun q => q = p) w w' := by
  have c0 : w.cell? ⟨p, 0, none⟩ = some (.string s) := block_cell hp 0 _ rfl
  have c1 : w.cell? ⟨p, 1, none⟩ = some (.int .i64 (k : Int)) := block_cell hp 1 _ rfl
  have HP := Lib.hid hp
  have hc : Hid (∀ W, Calls Tryz.prog 67 #[.string (s.extract k s.size), .string t] W fun e w' => e = .returned (.bool false) ∧ w' = W) := Lib.hid (fun W => by
    have := Tryz.strings_HasPrefix (s.extract k s.size) t W
    rw [ex_drop, h] at this
    exact this)
  clear h hp
  go_enter Tryz.func80, Tryz.ntmps80
  go_wp2_with fail
  go_quiet ((go_at_call 67; exact Calls.quiet_of_same (hc.out _)))
  go_wp2_with fail
  go_ret
  exact ⟨rfl, HP.out.drewN _, Fr.drwN (Fr.refl _ _) _⟩
theorem itoa_calls (n : Int) (h0 : -9223372036854775808 ≤ n) (h1 : n ≤ 9223372036854775807) (w : World) (hV : Vs w) :
    Calls Tryz.prog 60 #[.int .i64 n] w fun e w' => e = .returned (.string ⟨(Lib.itoa n).toArray⟩) ∧ Below w.heap.size w w' :=
  (Tryz.strconv_Itoa n h0 h1 w hV.pow).mono fun e w' h => ⟨h.1, by obtain ⟨k, os, rfl⟩ := h.2; exact Lib.below_grow _ _ (Nat.le_refl _) _ _⟩
/-- Atoi: either a number and no error, or some number and an error -/
def AtoiPost (l : B) (w : World) (e : Ending) (w' : World) : Prop :=
  ((∃ v, Lib.atoiAll l = .ok v ∧ i64 v ∧ e = .returned (.tuple #[.int .i64 v, .nilIface])) ∨ ((∀ v, Lib.atoiAll l ≠ .ok v) ∧ ∃ n te pe, i64 n ∧ e = .returned (.tuple #[.int .i64 n, .iface te pe]))) ∧ Below w.heap.size w w'
theorem atoi_range {l : B} {v : Int} (h : Lib.atoiAll l = .ok v) : i64 v := by
  unfold i64
  unfold Lib.atoiAll at h
  split at h
  · cases h
  · rename_i c r
    dsimp only at h
    split at h
    · cases h
    · cases h
    · rename_i u _
      split at h
      · cases h
      · rename_i h1
        split at h
        · cases h
        · rename_i h2
          simp only [Lib.NumEnd.ok.injEq] at h
          subst h
          by_cases hn : c.toNat = 45
          · simp only [hn, if_true]
            simp only [hn, true_and, Nat.not_lt] at h2
            omega
          · simp only [hn, if_false]
            simp only [hn, not_false_eq_true, true_and, Nat.not_le] at h1
            omega
theorem atoi_calls (s : ByteArray) (hs : s.size ≤ 10000000) (w : World) (hV : Vs w) : Calls Tryz.prog 91 #[.string s] w (AtoiPost s.data.toList w) := by
  rcases h : Lib.atoiAll s.data.toList with v | _ | _
  next =>
    refine (Tryz.strconv_Atoi_ok s (by omega) v h w).mono ?_
    rintro e w' ⟨rfl, hw⟩
    refine ⟨.inl ⟨v, h, atoi_range h, rfl⟩, ?_⟩
    rcases hw with rfl | ⟨t, rfl⟩
    · exact Below.refl _ _
    · exact bytesBelow w t
  next =>
    obtain ⟨te, pe, hc⟩ := hV.lv.syn
    refine (Tryz.strconv_Atoi_syntax s (by omega) h _ w hc (.inr ⟨_, _, rfl⟩)).mono ?_
    rintro e w' ⟨N, rfl, _, _, hb⟩
    exact ⟨.inr ⟨(fun u hu => by rw [h] at hu; cases hu), 0, _, _, ⟨by decide, by decide⟩, rfl⟩, hb⟩
  next =>
    obtain ⟨te, pe, hc⟩ := hV.lv.rng
    refine (Tryz.strconv_Atoi_range s (by omega) h _ w hc (.inr ⟨_, _, rfl⟩)).mono ?_
    rintro e w' ⟨N, rfl, _, _, hb⟩
    refine ⟨.inr ⟨(fun u hu => by rw [h] at hu; cases hu), _, _, _, ?_, rfl⟩, hb⟩
    unfold i64 Lib.atoiSat
    split <;> decide
/-- number: the number that a word is, and true; or some number, and false -/
def NumPost (l : B) (w : World) (e : Ending) (w' : World) : Prop :=
  ((∃ v, number l = some v ∧ e = .returned (.tuple #[.int .i64 v, .bool true])) ∨ (number l = none ∧ ∃ n, i64 n ∧ e = .returned (.tuple #[.int .i64 n, .bool false]))) ∧ Below w.heap.size w w'
theorem str_toList {a b : ByteArray} (h : a.toList = b.toList) : a = b := by
  rw [ByteArray.toList_eq, ByteArray.toList_eq] at h
  exact ByteArray.ext (Array.toList_inj.1 h)
theorem str_eq {s : ByteArray} {l : B} : (⟨l.toArray⟩ : ByteArray) = s ↔ l = s.data.toList := by
  obtain ⟨⟨m⟩⟩ := s
  simp
set_option maxRecDepth 100000 in
set_option maxHeartbeats 4000000 in
theorem number_calls (s : ByteArray) (hs : s.size ≤ 10000000) (w : World) (hV : Vs w) : Calls Tryz.prog 141 #[.string s] w (NumPost s.data.toList w) := by
  have HV := Lib.hid hV
  clear hV
  have hcall := atoi_calls s hs w HV.out
  have HC := Lib.hid hcall
  clear hcall
  go_enter Tryz.func141, Tryz.ntmps141
  go_wp2_with fail
  refine HC.out.mono ?_
  rintro e w1 ⟨h, hb⟩
  have HB := Lib.hid hb
  clear hb
  rcases h with ⟨v, hv, hi, rfl⟩ | ⟨hno, n, te, pe, hi, rfl⟩
  · obtain ⟨hi0, hi1⟩ := hi
    have HA := Lib.hid hv
    clear hv
    rcases (show v < 0 ∨ (0 ≤ v ∧ 1000 < v) ∨ (0 ≤ v ∧ v ≤ 1000) by omega) with h | ⟨h, h2⟩ | ⟨h, h2⟩
    · have hnum : Hid (number s.data.toList = none) := Lib.hid (by unfold number; rw [HA.out]; dsimp only; rw [if_neg (by omega)])
      have d1 : decide ((0 : Int) ≤ v) = false := by simp; omega
      go_wp2_with fail
      go_ret2
      exact ⟨.inr ⟨hnum.out, v, ⟨hi0, hi1⟩, rfl⟩, HB.out⟩
    · have hnum : Hid (number s.data.toList = none) := Lib.hid (by unfold number; rw [HA.out]; dsimp only; rw [if_neg (by omega)])
      have d1 : decide ((0 : Int) ≤ v) = true := by simp; omega
      have d2 : decide (v ≤ (1000 : Int)) = false := by simp; omega
      go_wp2_with fail
      go_ret2
      exact ⟨.inr ⟨hnum.out, v, ⟨hi0, hi1⟩, rfl⟩, HB.out⟩
    · have d1 : decide ((0 : Int) ≤ v) = true := by simp; omega
      have d2 : decide (v ≤ (1000 : Int)) = true := by simp; omega
      have hit := itoa_calls v hi0 hi1 w1 (HV.out.below HB.out)
      obtain ⟨t, ht⟩ : ∃ q : ByteArray, q = ⟨(Lib.itoa v).toArray⟩ := ⟨_, rfl⟩
      rw [← ht] at hit
      have HT := Lib.hid ht
      have HI := Lib.hid hit
      clear ht hit
      go_wp2_with fail
      refine HI.out.mono ?_
      rintro e w2 ⟨rfl, hb2⟩
      have HB2 := Lib.hid (Bthen HB.out hb2)
      clear hb2
      by_cases he : t = s
      · have hnum : Hid (number s.data.toList = some v) := Lib.hid (by
          unfold number; rw [HA.out]; dsimp only; rw [if_pos ⟨h, h2, str_eq.1 (HT.out.symm.trans he)⟩])
        have hq : (t.toList == s.toList) = true := by rw [he]; exact beq_self_eq_true _
        clear he
        go_wp2_with fail
        go_ret2
        exact ⟨.inl ⟨v, hnum.out, rfl⟩, HB2.out⟩
      · have hnum : Hid (number s.data.toList = none) := Lib.hid (by
          unfold number; rw [HA.out]; dsimp only; rw [if_neg (fun e => he (HT.out.trans (str_eq.2 e.2.2)))])
        have hq : (t.toList == s.toList) = false := beq_eq_false_iff_ne.2 (fun e => he (str_toList e))
        clear he
        go_wp2_with fail
        go_ret2
        exact ⟨.inr ⟨hnum.out, v, ⟨hi0, hi1⟩, rfl⟩, HB2.out⟩
  · have hnum : Hid (number s.data.toList = none) := Lib.hid (by
      unfold number
      split
      · rename_i v hv; exact absurd hv (hno v)
      · rfl)
    clear hno
    go_wp2_with fail
    go_ret2
    exact ⟨.inr ⟨hnum.out, n, hi, rfl⟩, HB.out⟩
end Go.Proofs.YtimahlimmblgkaaGreatDoor.Sy
