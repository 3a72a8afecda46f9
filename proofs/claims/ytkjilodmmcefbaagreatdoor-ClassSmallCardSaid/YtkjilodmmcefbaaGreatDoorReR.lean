/- Several parts in one text: ReR, ReS, Rds. -/
import Derived.Test.YtkjilodmmcefbaaGreatDoorItS
import Derived.Test.YtkjilodmmcefbaaGreatDoorBkP
import Derived.Test.YtkjilodmmcefbaaGreatDoorJns
/- The reference's Read. -/
namespace Go.Proofs.YtkjilodmmcefbaaGreatDoor
open Go.RowKit Go.Shelf
namespace Rs
theorem rd_short {l : List UInt8} (h : l.length < 2 ∨ bt l 0 ≠ 91) : readF l = none := by
  unfold readF
  by_cases h0 : bt l 0 = 91
  · have hl : l.length < 2 := by
      rcases h with h | h
      · exact h
      · exact (h h0).elim
    have h1 : bt l 1 = 0 := bt_ge (by omega)
    rw [if_neg (by simp [h0]), if_neg (by omega), List.drop_of_length_le (by omega), items_nil]
  · rw [if_pos h0]
theorem rd_fail {l : List UInt8} {n k0 : Nat} (hn : l.length = n) (hk : (if bt l 1 = 94 then 2 else 1) = k0) (h : itemsS (n + 1) (l.drop k0) true [] = none) : readF l = none := by
  unfold readF
  split
  · rfl
  · rw [hn, hk, h]
theorem rd_set {l : List UInt8} {n k : Nat} {acc : S} (hn : l.length = n) (h0 : bt l 0 = 91) (h1 : bt l 1 ≠ 94) (hk : k < n) (h : itemsS (n + 1) (l.drop 1) true [] = some (acc, l.drop (k + 1))) : readF l = some (setOf acc, k + 1) := by
  unfold readF
  rw [if_neg (by simp [h0]), hn, if_neg h1, h]
  simp only
  rw [if_neg h1, List.length_drop, hn, show n - (n - (k + 1)) = k + 1 by omega]
theorem rd_not {l : List UInt8} {n k : Nat} {acc : S} (hn : l.length = n) (h0 : bt l 0 = 91) (h1 : bt l 1 = 94) (hk : k < n) (h : itemsS (n + 1) (l.drop 2) true [] = some (acc, l.drop (k + 1))) : readF l = some (notS (setOf acc), k + 1) := by
  unfold readF
  rw [if_neg (by simp [h0]), hn, if_pos h1, h]
  simp only
  rw [if_pos h1, List.length_drop, hn, show n - (n - (k + 1)) = k + 1 by omega]
theorem jf_noset {acc : S} (h : ∀ r ∈ acc, rg r) (c : Int) : mem c (notS (setOf acc)) = jf acc [] false false false true c := by
  rw [jf_no, notS_mem (setOf_right acc h), setOf_mem acc h]
  cases pt c <;> simp
theorem jf_toset {acc : S} (h : ∀ r ∈ acc, rg r) (c : Int) : mem c (setOf acc) = jf acc [] true false false false c := by
  rw [jf_set, setOf_mem acc h]
theorem rg_bd {l : S} (h : ∀ r ∈ l, rg r) : ∀ r ∈ l, Bd r := fun r hr => by
  obtain ⟨g1, g2, g3⟩ := h r hr
  exact ⟨g1, by omega, by omega, g3⟩
end Rs
theorem own_lift {W W' : World} {base n size : Nat} {T : TypeId} {v : Value} {xs : List Value} (h : W.ownsRow base T size v n xs) (ho : Below W.heap.size W W') : W'.ownsRow base T size v n xs := by
  refine ⟨h.1, ?_⟩
  rcases h.2 with hn | ⟨g, cap, cur, hv, hb, hg, rest⟩
  · exact .inl hn
  · exact .inr ⟨g, cap, cur, hv, hb, (ho.block g (Array.getElem?_eq_some_iff.1 hg).1).trans hg, rest⟩
def RdI6 (s : ByteArray) (k0 : Nat) (w : World) (at' v : Value) (wr : World) : Prop := ∃ k acc, at' = .int .i64 ((k : Nat) : Int) ∧ RtRel s k0 w k acc v wr
theorem rread_short (s : ByteArray) (w : World) (h : s.size < 2 ∨ ∃ g0 : 0 < s.size, 2 ≤ s.size ∧ ((((s[0]'g0).toNat : Int)) != 91) = true) :
    Calls Tryz.prog 41 #[.string s] w (RtPost s w) := by
  have hn : Rs.readF s.data.toList = none := Rs.rd_short (by
    rcases h with h | ⟨g0, _, h⟩
    · left; rw [← Lib.size_eq]; exact h
    · right; rw [Rs.esc_get g0]; simpa using h)
  have HN := Lib.hid hn
  clear hn
  rcases h with h | ⟨g0, h2, h⟩
  all_goals
    go_enter Tryz.func41, Tryz.ntmps41
    go_wp2
    go_ret3
    exact RtPost.no HN.out (Below.refl _ _)
set_option maxRecDepth 100000 in
set_option maxHeartbeats 4000000 in
theorem rread_set (s : ByteArray) (w : World) (hs : s.size ≤ 12000) (g1 : 1 < s.size) (h0 : ((((s[0]'(Nat.lt_trans (by decide) g1)).toNat : Int)) != 91) = false) (h1 : ((((s[1]'g1).toNat : Int)) == 94) = false) :
    Calls Tryz.prog 41 #[.string s] w (RtPost s w) := by
  have hlen : s.data.toList.length = s.size := by rw [Lib.size_eq]
  have b0 : Rs.bt s.data.toList 0 = 91 := by rw [Rs.esc_get (Nat.lt_trans (by decide) g1)]; simpa using h0
  have b1 : Rs.bt s.data.toList 1 ≠ 94 := by rw [Rs.esc_get g1]; simpa using h1
  have HL := Lib.hid (And.intro hlen (And.intro b0 b1))
  have hstart : RdI6 s 1 w (.int .i64 1) (.slice none 0 0) w := ⟨1, [], rfl, Nat.le_refl _, by omega, Below.refl _ _, World.ownsRow_nil _ _ _ _, by simp, by simp, s.size, by omega, by simp⟩
  have HS := Lib.hid hstart
  clear hlen b0 b1 hstart
  go_enter Tryz.func41, Tryz.ntmps41
  go_wp2
  go_loopw [5, 7] (fun a v wr => RdI6 s 1 w a v wr) (fun a _ _ => s.size - (intOf a).toNat)
  case atStart => exact HS.out
  case round =>
    clear HS
    obtain ⟨k, acc, rfl, hrel⟩ := hrel
    have hks := hrel.ks
    have hle := hrel.le
    have hl8 := hrel.len
    have hks' : (k : Int) ≤ (s.size : Int) := by omega
    have HR := Lib.hid hrel
    clear hrel
    by_cases hd : k ≠ 1 ∧ Rs.bt (s.data.toList.drop k) 0 = 93
    · have hlt : k < s.size := by
        rcases Nat.lt_or_ge k s.size with h2 | h2
        · exact h2
        · have := hd.2
          rw [Rs.bt_drop, Rs.bt_ge (by rw [HL.out.1]; omega)] at this; omega
      have hne : ((k : Int) == 1) = false := by have := hd.1; simp; omega
      have hq : ((((s[k]'hlt).toNat : Int)) != 93) = false := by
        have h93 := hd.2
        rw [Rs.bt_drop, Nat.add_zero, Rs.esc_get hlt] at h93
        rw [h93]; rfl
      have hns : ((k : Int) == (s.size : Int)) = false := by simp; omega
      have hwk : IntKind.i64.wrap ((k : Int) + 1) = (k : Int) + 1 := by rw [IntKind.wrap_i64]; omega
      have HE := Lib.hid (Rs.rd_set HL.out.1 HL.out.2.1 HL.out.2.2 hlt (HR.out.done hd.1 hd.2))
      obtain ⟨a, cap, rfl, _, hsl⟩ := Sl.of_ownT HR.out.row
      have hj := join_calls a none cap 0 acc [] (Rs.setOf acc) true false false false wr hsl (Sl.nil0 _) (by omega) (by simp) (Rs.rg_bd HR.out.rg) (fun r hr => by cases hr) (Rs.setOf_right acc HR.out.rg) (Rs.jf_toset HR.out.rg)
      have HB := Lib.hid HR.out.blw
      clear hd hsl HR
      go_wp2_with fail
      go_at_call 73
      refine hj.mono ?_
      clear hj
      rintro e w2 ⟨v2, rfl, hown, hb2⟩
      have HF := Lib.hid (And.intro (ownsRow_base hown HB.out.size) (Bthen HB.out hb2))
      clear hown hb2
      go_wp2
      go_ret3
      exact RtPost.yes HE.out HF.out.2 HF.out.1
    · by_cases he : k = s.size ∧ k ≠ 1
      · obtain ⟨rfl, hk0⟩ := he
        have hne : ((s.size : Int) == 1) = false := by simp; omega
        have HE := Lib.hid (RtPost.no (Rs.rd_fail HL.out.1 (if_neg HL.out.2.2) HR.out.out) HR.out.blw)
        clear hd HR
        go_wp2
        go_ret3
        exact HE.out
      · have hir := fun W => ritem_calls (s.extract k s.size) (decide (k = 1)) W (by rw [ByteArray.size_extract]; omega)
        rw [ext_list] at hir
        have HD := Lib.hid hd
        obtain ⟨first, hfst⟩ : ∃ b : Bool, decide (k = 1) = b := ⟨_, rfl⟩
        have hcase : (k = 1 ∧ first = true ∧ ((k : Int) == 1) = true) ∨ (∃ hlt : k < s.size, ((k : Int) == 1) = false ∧ first = false ∧ ((((s[k]'hlt).toNat : Int)) != 93) = true) := by
          by_cases hk : k = 1
          · exact .inl ⟨hk, by rw [← hfst]; simpa using hk, by rw [hk]; rfl⟩
          · right
            have hlt : k < s.size := by omega
            refine ⟨hlt, by simp; omega, by rw [← hfst]; simpa using hk, ?_⟩
            have h93 : ¬ Rs.bt (s.data.toList.drop k) 0 = 93 := fun e => hd ⟨hk, e⟩
            rw [Rs.bt_drop, Nat.add_zero, Rs.esc_get hlt] at h93
            simpa using h93
        rw [hfst] at hir
        have HFST := Lib.hid hfst
        clear hfst hd he
        generalize hX : s.extract k s.size = X at *
        cases hI : Rs.itemS (s.data.toList.drop k) first with
        | none =>
          obtain ⟨e1, e2⟩ := Rs.item_no hI
          have HE := Lib.hid (HR.out.fail HD.out (by rw [HFST.out]; exact hI))
          have hir2 : ∀ W, Calls Tryz.prog 76 #[.string X, .bool first] W fun e w' => ∃ v, e = .returned (.tuple #[v, .int .i64 0]) ∧ Below W.heap.size W w' := fun W => (hir W).mono fun e w' h => by
            obtain ⟨v, h1, _, h3⟩ := h
            rw [e2] at h1
            exact ⟨v, h1, h3⟩
          clear hI e1 e2 hir
          rcases hcase with ⟨-, hf, hq⟩ | ⟨hlt, hq, hf, hq2⟩
          all_goals
            subst hf
            go_wp2_with fail
            go_at_call 76
            refine (hir2 _).mono ?_
            rintro e w1 ⟨v1, rfl, hb1⟩
            have HF := Lib.hid (RtPost.no (Rs.rd_fail HL.out.1 (if_neg HL.out.2.2) HE.out) (Bthen HR.out.blw hb1))
            clear hb1
            go_wp2
            go_ret3
            exact HF.out
        | some x =>
          obtain ⟨l, n⟩ := x
          obtain ⟨e1, e2⟩ := Rs.item_yes hI
          obtain ⟨hn1, hn2, hnl, hnr⟩ := Rs.itemS_all hI
          have hkn : k + n ≤ s.size := by rw [List.length_drop, HL.out.1] at hn2; omega
          have hn0 : ((n : Int) == 0) = false := by simp; omega
          have hwn : IntKind.i64.wrap ((k : Int) + n) = (k : Int) + n := by rw [IntKind.wrap_i64]; omega
          have hir2 : ∀ W, Calls Tryz.prog 76 #[.string X, .bool first] W fun e w' => ∃ v, e = .returned (.tuple #[v, .int .i64 (n : Int)]) ∧ w'.ownsRow W.heap.size 59 2 v l.length (rFlat l) ∧ Below W.heap.size W w' := fun W => (hir W).mono fun e w' h => by
            obtain ⟨v, h1, h2, h3⟩ := h
            rw [e2] at h1
            rw [e1] at h2
            exact ⟨v, h1, h2, h3⟩
          have HI := Lib.hid hI
          clear hI e1 e2 hir hn2 hnr
          rcases hcase with ⟨-, hf, hq⟩ | ⟨hlt, hq, hf, hq2⟩
          all_goals
            subst hf
            go_wp2_with fail
            go_at_call 76
            refine (hir2 _).mono ?_
            rintro e w1 ⟨v1, rfl, hown1, hb1⟩
            obtain ⟨a1, c1, rfl, _, hs1⟩ := Sl.of_ownT hown1
            have HW := Lib.hid (And.intro hs1 (Bthen HR.out.blw hb1))
            have HO := Lib.hid (own_lift HR.out.row hb1)
            clear hs1 hown1 hb1
            go_wp2_with (at_builtin; refine wpList_append_R rfl _ _ 58 59 rfl Tryz.underlying58 Tryz.info59 w.heap.size u7 acc.length (rFlat acc) rfl HO.out a1 l c1 rfl HW.out.1 (by omega) HW.out.2.size ?_; rintro v2 w2 hown2 - hb2)
            go_roundw
            case rel => exact ⟨k + n, _, by rw [Int.natCast_add], HR.out.next HD.out (by rw [HFST.out]; exact HI.out) (hb2 _ HW.out.2) hown2⟩
            case measure => simp [intOf]; omega
end Go.Proofs.YtkjilodmmcefbaaGreatDoor
/- The reference's Read behind [^, and all its ways. -/
namespace Go.Proofs.YtkjilodmmcefbaaGreatDoor
open Go.RowKit Go.Shelf
set_option maxRecDepth 100000 in
set_option maxHeartbeats 4000000 in
theorem rread_not (s : ByteArray) (w : World) (hs : s.size ≤ 12000) (g1 : 1 < s.size) (h0 : ((((s[0]'(Nat.lt_trans (by decide) g1)).toNat : Int)) != 91) = false) (h1 : ((((s[1]'g1).toNat : Int)) == 94) = true) :
    Calls Tryz.prog 41 #[.string s] w (RtPost s w) := by
  have hlen : s.data.toList.length = s.size := by rw [Lib.size_eq]
  have b0 : Rs.bt s.data.toList 0 = 91 := by rw [Rs.esc_get (Nat.lt_trans (by decide) g1)]; simpa using h0
  have b1 : Rs.bt s.data.toList 1 = 94 := by rw [Rs.esc_get g1]; simpa using h1
  have HL := Lib.hid (And.intro hlen (And.intro b0 b1))
  have hstart : RdI6 s 2 w (.int .i64 2) (.slice none 0 0) w := ⟨2, [], rfl, Nat.le_refl _, by omega, Below.refl _ _, World.ownsRow_nil _ _ _ _, by simp, by simp, s.size, by omega, by simp⟩
  have HS := Lib.hid hstart
  clear hlen b0 b1 hstart
  go_enter Tryz.func41, Tryz.ntmps41
  go_wp2
  go_loopw [5, 7] (fun a v wr => RdI6 s 2 w a v wr) (fun a _ _ => s.size - (intOf a).toNat)
  case atStart => exact HS.out
  case round =>
    clear HS
    obtain ⟨k, acc, rfl, hrel⟩ := hrel
    have hks := hrel.ks
    have hle := hrel.le
    have hl8 := hrel.len
    have hks' : (k : Int) ≤ (s.size : Int) := by omega
    have HR := Lib.hid hrel
    clear hrel
    by_cases hd : k ≠ 2 ∧ Rs.bt (s.data.toList.drop k) 0 = 93
    · have hlt : k < s.size := by
        rcases Nat.lt_or_ge k s.size with h2 | h2
        · exact h2
        · have := hd.2
          rw [Rs.bt_drop, Rs.bt_ge (by rw [HL.out.1]; omega)] at this; omega
      have hne : ((k : Int) == 2) = false := by have := hd.1; simp; omega
      have hq : ((((s[k]'hlt).toNat : Int)) != 93) = false := by
        have h93 := hd.2
        rw [Rs.bt_drop, Nat.add_zero, Rs.esc_get hlt] at h93
        rw [h93]; rfl
      have hns : ((k : Int) == (s.size : Int)) = false := by simp; omega
      have hwk : IntKind.i64.wrap ((k : Int) + 1) = (k : Int) + 1 := by rw [IntKind.wrap_i64]; omega
      have HE := Lib.hid (Rs.rd_not HL.out.1 HL.out.2.1 HL.out.2.2 hlt (HR.out.done hd.1 hd.2))
      obtain ⟨a, cap, rfl, _, hsl⟩ := Sl.of_ownT HR.out.row
      have hj := join_calls a none cap 0 acc [] (Rs.notS (Rs.setOf acc)) false false false true wr hsl (Sl.nil0 _) (by omega) (by simp) (Rs.rg_bd HR.out.rg) (fun r hr => by cases hr) (Rs.notS_right (Rs.setOf_right acc HR.out.rg)) (Rs.jf_noset HR.out.rg)
      have HB := Lib.hid HR.out.blw
      clear hd hsl HR
      go_wp2_with fail
      go_at_call 73
      refine hj.mono ?_
      clear hj
      rintro e w2 ⟨v2, rfl, hown, hb2⟩
      have HF := Lib.hid (And.intro (ownsRow_base hown HB.out.size) (Bthen HB.out hb2))
      clear hown hb2
      go_wp2
      go_ret3
      exact RtPost.yes HE.out HF.out.2 HF.out.1
    · by_cases he : k = s.size ∧ k ≠ 2
      · obtain ⟨rfl, hk0⟩ := he
        have hne : ((s.size : Int) == 2) = false := by simp; omega
        have HE := Lib.hid (RtPost.no (Rs.rd_fail HL.out.1 (if_pos HL.out.2.2) HR.out.out) HR.out.blw)
        clear hd HR
        go_wp2
        go_ret3
        exact HE.out
      · have hir := fun W => ritem_calls (s.extract k s.size) (decide (k = 2)) W (by rw [ByteArray.size_extract]; omega)
        rw [ext_list] at hir
        have HD := Lib.hid hd
        obtain ⟨first, hfst⟩ : ∃ b : Bool, decide (k = 2) = b := ⟨_, rfl⟩
        have hcase : (k = 2 ∧ first = true ∧ ((k : Int) == 2) = true) ∨ (∃ hlt : k < s.size, ((k : Int) == 2) = false ∧ first = false ∧ ((((s[k]'hlt).toNat : Int)) != 93) = true) := by
          by_cases hk : k = 2
          · exact .inl ⟨hk, by rw [← hfst]; simpa using hk, by rw [hk]; rfl⟩
          · right
            have hlt : k < s.size := by omega
            refine ⟨hlt, by simp; omega, by rw [← hfst]; simpa using hk, ?_⟩
            have h93 : ¬ Rs.bt (s.data.toList.drop k) 0 = 93 := fun e => hd ⟨hk, e⟩
            rw [Rs.bt_drop, Nat.add_zero, Rs.esc_get hlt] at h93
            simpa using h93
        rw [hfst] at hir
        have HFST := Lib.hid hfst
        clear hfst hd he
        generalize hX : s.extract k s.size = X at *
        cases hI : Rs.itemS (s.data.toList.drop k) first with
        | none =>
          obtain ⟨e1, e2⟩ := Rs.item_no hI
          have HE := Lib.hid (HR.out.fail HD.out (by rw [HFST.out]; exact hI))
          have hir2 : ∀ W, Calls Tryz.prog 76 #[.string X, .bool first] W fun e w' => ∃ v, e = .returned (.tuple #[v, .int .i64 0]) ∧ Below W.heap.size W w' := fun W => (hir W).mono fun e w' h => by
            obtain ⟨v, h1, _, h3⟩ := h
            rw [e2] at h1
            exact ⟨v, h1, h3⟩
          clear hI e1 e2 hir
          rcases hcase with ⟨-, hf, hq⟩ | ⟨hlt, hq, hf, hq2⟩
          all_goals
            subst hf
            go_wp2_with fail
            go_at_call 76
            refine (hir2 _).mono ?_
            rintro e w1 ⟨v1, rfl, hb1⟩
            have HF := Lib.hid (RtPost.no (Rs.rd_fail HL.out.1 (if_pos HL.out.2.2) HE.out) (Bthen HR.out.blw hb1))
            clear hb1
            go_wp2
            go_ret3
            exact HF.out
        | some x =>
          obtain ⟨l, n⟩ := x
          obtain ⟨e1, e2⟩ := Rs.item_yes hI
          obtain ⟨hn1, hn2, hnl, hnr⟩ := Rs.itemS_all hI
          have hkn : k + n ≤ s.size := by rw [List.length_drop, HL.out.1] at hn2; omega
          have hn0 : ((n : Int) == 0) = false := by simp; omega
          have hwn : IntKind.i64.wrap ((k : Int) + n) = (k : Int) + n := by rw [IntKind.wrap_i64]; omega
          have hir2 : ∀ W, Calls Tryz.prog 76 #[.string X, .bool first] W fun e w' => ∃ v, e = .returned (.tuple #[v, .int .i64 (n : Int)]) ∧ w'.ownsRow W.heap.size 59 2 v l.length (rFlat l) ∧ Below W.heap.size W w' := fun W => (hir W).mono fun e w' h => by
            obtain ⟨v, h1, h2, h3⟩ := h
            rw [e2] at h1
            rw [e1] at h2
            exact ⟨v, h1, h2, h3⟩
          have HI := Lib.hid hI
          clear hI e1 e2 hir hn2 hnr
          rcases hcase with ⟨-, hf, hq⟩ | ⟨hlt, hq, hf, hq2⟩
          all_goals
            subst hf
            go_wp2_with fail
            go_at_call 76
            refine (hir2 _).mono ?_
            rintro e w1 ⟨v1, rfl, hown1, hb1⟩
            obtain ⟨a1, c1, rfl, _, hs1⟩ := Sl.of_ownT hown1
            have HW := Lib.hid (And.intro hs1 (Bthen HR.out.blw hb1))
            have HO := Lib.hid (own_lift HR.out.row hb1)
            clear hs1 hown1 hb1
            go_wp2_with (at_builtin; refine wpList_append_R rfl _ _ 58 59 rfl Tryz.underlying58 Tryz.info59 w.heap.size u7 acc.length (rFlat acc) rfl HO.out a1 l c1 rfl HW.out.1 (by omega) HW.out.2.size ?_; rintro v2 w2 hown2 - hb2)
            go_roundw
            case rel => exact ⟨k + n, _, by rw [Int.natCast_add], HR.out.next HD.out (by rw [HFST.out]; exact HI.out) (hb2 _ HW.out.2) hown2⟩
            case measure => simp [intOf]; omega
theorem rread_calls (s : ByteArray) (w : World) (hs : s.size ≤ 12000) : Calls Tryz.prog 41 #[.string s] w (RtPost s w) := by
  by_cases h2 : s.size < 2
  · exact rread_short s w (.inl h2)
  · have g1 : 1 < s.size := by omega
    have g0 : 0 < s.size := by omega
    cases h0 : ((((s[0]'g0).toNat : Int)) != 91) with
    | true => exact rread_short s w (.inr ⟨g0, by omega, h0⟩)
    | false =>
      cases h1 : ((((s[1]'g1).toNat : Int)) == 94) with
      | true => exact rread_not s w hs g1 h0 h1
      | false => exact rread_set s w hs g1 h0 h1
end Go.Proofs.YtkjilodmmcefbaaGreatDoor
/- The law's reads: it returns true, whatever the string and the letter. -/
namespace Go.Proofs.YtkjilodmmcefbaaGreatDoor
open Go.RowKit Go.Shelf
namespace Rs
theorem readL_right (s : List UInt8) : right (readL s) = true := by
  unfold readL
  cases h : readF s with
  | none => rfl
  | some x =>
    obtain ⟨l, n⟩ := x
    show right l = true
    unfold readF at h
    split at h
    · cases h
    · split at h
      · cases h
      · rename_i acc r hi
        obtain ⟨hrg, _⟩ := itemsS_ok _ _ _ _ _ _ (by simp) hi
        have hs := setOf_right acc hrg
        cases h
        split
        · exact notS_right hs
        · exact hs
theorem readL_len (s : List UInt8) : (readL s).length ≤ 1114113 := right_len (readL_right s)
end Rs
-- WALK
theorem reads_far (s : ByteArray) (c : Int) (w : World) (hl : 300 < s.size) :
    Calls Tryz.prog 13 #[.string s, .int .u8 c] w fun e w' => e = .returned (.bool true) ∧ Below w.heap.size w w' := by
  go_enter Tryz.func13, Tryz.ntmps13
  go_wp2
  go_ret
  exact ⟨rfl, Below.refl _ _⟩
set_option maxRecDepth 100000 in
set_option maxHeartbeats 8000000 in
theorem reads_near (s : ByteArray) (c : Int) (w : World) (hL : Lv w) (hl : s.size ≤ 300) :
    Calls Tryz.prog 13 #[.string s, .int .u8 c] w fun e w' => e = .returned (.bool true) ∧ Below w.heap.size w w' := by
    have HAB := Lib.hid hL
    clear hL
    have HB := Lib.hid (Below.refl w.heap.size w)
    have LO := Lib.hid (Rs.readL_len s.data.toList)
    have LN := Lib.hid (Rs.namedS_rg c).2
    go_enter Tryz.func13, Tryz.ntmps13
    go_wp2_with fail
    go_at_call 17
    have hcall := read_calls s w (HAB.out.below HB.out) (by omega)
    refine hcall.mono ?_
    clear hcall
    rintro e w1 ⟨v, rfl, hown, hb⟩
    obtain ⟨aL, cL, rfl, hs, hbk⟩ := own_all hown
    have HZ1 : Hid (w.heap.size ≤ w1.heap.size) := Lib.hid hb.size
    replace HB := Lib.hid (Bthen HB.out hb)
    have HsL := Lib.hid hs
    have BkL : Hid (In aL w.heap.size w1.heap.size) := Lib.hid hbk
    have BlL := Lib.hid (own_blk hown)
    clear hs hbk hown hb
    go_wp2_with fail
    go_at_call 41
    have hcall := rread_calls s w1 (by omega)
    refine hcall.mono ?_
    clear hcall
    rintro e w2 ⟨v, rfl, hown, hb⟩
    obtain ⟨aM, cM, rfl, hs, hbk⟩ := own_all hown
    replace HsL := Lib.hid (HsL.out.below hb)
    replace BlL := Lib.hid (fun hne => by obtain ⟨g, e, h⟩ := BlL.out hne; exact (⟨g, e, h.below hb⟩ : ∃ g, aL = some ⟨g, 0, none⟩ ∧ Blk w2 g _))
    have HZ2 : Hid (w1.heap.size ≤ w2.heap.size) := Lib.hid hb.size
    replace HB := Lib.hid (Bthen HB.out hb)
    have HsM := Lib.hid hs
    have BkM : Hid (In aM w1.heap.size w2.heap.size) := Lib.hid hbk
    clear hs hbk hown hb
    generalize hRN : Rs.readN s.data.toList = RN at *
    clear hRN
    go_wp2_with fail
    go_at_call 22
    have hcall := escape_calls s w2 (HAB.out.below HB.out) (by omega)
    refine hcall.mono ?_
    clear hcall
    rintro e w3 ⟨rfl, hb⟩
    replace HsL := Lib.hid (HsL.out.below hb)
    replace HsM := Lib.hid (HsM.out.below hb)
    replace BlL := Lib.hid (fun hne => by obtain ⟨g, e, h⟩ := BlL.out hne; exact (⟨g, e, h.below hb⟩ : ∃ g, aL = some ⟨g, 0, none⟩ ∧ Blk w3 g _))
    have HZ3 : Hid (w2.heap.size ≤ w3.heap.size) := Lib.hid hb.size
    replace HB := Lib.hid (Bthen HB.out hb)
    clear hb
    go_wp2_with fail
    go_at_call 42
    have hcall := refEscape_calls s w3 (by omega)
    refine hcall.mono ?_
    clear hcall
    rintro e w4 ⟨rfl, hb⟩
    replace HsL := Lib.hid (HsL.out.below hb)
    replace HsM := Lib.hid (HsM.out.below hb)
    replace BlL := Lib.hid (fun hne => by obtain ⟨g, e, h⟩ := BlL.out hne; exact (⟨g, e, h.below hb⟩ : ∃ g, aL = some ⟨g, 0, none⟩ ∧ Blk w4 g _))
    have HZ4 : Hid (w3.heap.size ≤ w4.heap.size) := Lib.hid hb.size
    replace HB := Lib.hid (Bthen HB.out hb)
    clear hb
    generalize hEC : Rs.escC s.data.toList = EC at *
    clear hEC
    generalize hEN : Rs.escN s.data.toList = EN at *
    clear hEN
    generalize hEE : Rs.escE s.data.toList = EE at *
    clear hEE
    go_wp2_with fail
    go_at_call 21
    have hcall := named_calls c w4
    refine hcall.mono ?_
    clear hcall
    rintro e w5 ⟨v, rfl, hown, hb⟩
    obtain ⟨aS, cS, rfl, hs, hbk⟩ := own_all hown
    replace HsL := Lib.hid (HsL.out.below hb)
    replace HsM := Lib.hid (HsM.out.below hb)
    replace BlL := Lib.hid (fun hne => by obtain ⟨g, e, h⟩ := BlL.out hne; exact (⟨g, e, h.below hb⟩ : ∃ g, aL = some ⟨g, 0, none⟩ ∧ Blk w5 g _))
    have HZ5 : Hid (w4.heap.size ≤ w5.heap.size) := Lib.hid hb.size
    replace HB := Lib.hid (Bthen HB.out hb)
    have HsS := Lib.hid hs
    have BkS : Hid (In aS w4.heap.size w5.heap.size) := Lib.hid hbk
    have BlS := Lib.hid (own_blk hown)
    clear hs hbk hown hb
    go_wp2_with fail
    go_at_call 43
    have hcall := refNamed_calls c w5
    refine hcall.mono ?_
    clear hcall
    rintro e w6 ⟨v, rfl, hown, hb⟩
    obtain ⟨aN, cN, rfl, hs, hbk⟩ := own_all hown
    replace HsL := Lib.hid (HsL.out.below hb)
    replace HsM := Lib.hid (HsM.out.below hb)
    replace HsS := Lib.hid (HsS.out.below hb)
    replace BlL := Lib.hid (fun hne => by obtain ⟨g, e, h⟩ := BlL.out hne; exact (⟨g, e, h.below hb⟩ : ∃ g, aL = some ⟨g, 0, none⟩ ∧ Blk w6 g _))
    replace BlS := Lib.hid (fun hne => by obtain ⟨g, e, h⟩ := BlS.out hne; exact (⟨g, e, h.below hb⟩ : ∃ g, aS = some ⟨g, 0, none⟩ ∧ Blk w6 g _))
    have HZ6 : Hid (w5.heap.size ≤ w6.heap.size) := Lib.hid hb.size
    replace HB := Lib.hid (Bthen HB.out hb)
    have HsN := Lib.hid hs
    have BkN : Hid (In aN w5.heap.size w6.heap.size) := Lib.hid hbk
    clear hs hbk hown hb
    generalize hNB : Rs.namedB c = NB at *
    clear hNB
    go_wp2_with fail
    go_at_call 44
    have hcall := same_true aL aM cL cM _ (Rs.readE s.data.toList) w6 HsL.out HsM.out (by have := LO.out; omega)
    refine hcall.mono ?_
    clear hcall
    rintro e w7 ⟨rfl, hb⟩
    replace HsL := Lib.hid (HsL.out.below hb)
    replace HsM := Lib.hid (HsM.out.below hb)
    replace HsS := Lib.hid (HsS.out.below hb)
    replace HsN := Lib.hid (HsN.out.below hb)
    replace BlL := Lib.hid (fun hne => by obtain ⟨g, e, h⟩ := BlL.out hne; exact (⟨g, e, h.below hb⟩ : ∃ g, aL = some ⟨g, 0, none⟩ ∧ Blk w7 g _))
    replace BlS := Lib.hid (fun hne => by obtain ⟨g, e, h⟩ := BlS.out hne; exact (⟨g, e, h.below hb⟩ : ∃ g, aS = some ⟨g, 0, none⟩ ∧ Blk w7 g _))
    have HZ7 : Hid (w6.heap.size ≤ w7.heap.size) := Lib.hid hb.size
    replace HB := Lib.hid (Bthen HB.out hb)
    clear hb
    generalize hRE : Rs.readE s.data.toList = RE at *
    clear hRE
    clear HsM
    go_wp2_with fail
    go_at_call 46
    have hcall := theirs_calls aS cS (Rs.namedS c) w7 HsS.out (by have := LN.out; omega)
    refine hcall.mono ?_
    clear hcall
    rintro e w8 ⟨v, rfl, hown, hb⟩
    obtain ⟨aT, cT, rfl, hs, hbk⟩ := own_all hown
    replace HsL := Lib.hid (HsL.out.below hb)
    replace HsS := Lib.hid (HsS.out.below hb)
    replace HsN := Lib.hid (HsN.out.below hb)
    replace BlL := Lib.hid (fun hne => by obtain ⟨g, e, h⟩ := BlL.out hne; exact (⟨g, e, h.below hb⟩ : ∃ g, aL = some ⟨g, 0, none⟩ ∧ Blk w8 g _))
    replace BlS := Lib.hid (fun hne => by obtain ⟨g, e, h⟩ := BlS.out hne; exact (⟨g, e, h.below hb⟩ : ∃ g, aS = some ⟨g, 0, none⟩ ∧ Blk w8 g _))
    have HZ8 : Hid (w7.heap.size ≤ w8.heap.size) := Lib.hid hb.size
    replace HB := Lib.hid (Bthen HB.out hb)
    have HsT := Lib.hid hs
    have BkT : Hid (In aT w7.heap.size w8.heap.size) := Lib.hid hbk
    clear hs hbk hown hb
    go_wp2_with fail
    go_at_call 45
    have hcall := eq6_calls aT aN cT cN (Rs.namedS c) (Rs.namedS c) w8 HsT.out HsN.out (by have := LN.out; omega)
    rw [show decide (Rs.namedS c = Rs.namedS c) = true from decide_eq_true rfl] at hcall
    refine hcall.mono ?_
    clear hcall
    rintro e w9 ⟨rfl, nX, rfl⟩
    have hb : Below w8.heap.size w8 (w8.drewN nX) := below_drewN (Below.refl _ _) _
    generalize w8.drewN nX = w9 at *
    replace HsL := Lib.hid (HsL.out.below hb)
    replace HsS := Lib.hid (HsS.out.below hb)
    replace HsN := Lib.hid (HsN.out.below hb)
    replace HsT := Lib.hid (HsT.out.below hb)
    replace BlL := Lib.hid (fun hne => by obtain ⟨g, e, h⟩ := BlL.out hne; exact (⟨g, e, h.below hb⟩ : ∃ g, aL = some ⟨g, 0, none⟩ ∧ Blk w9 g _))
    replace BlS := Lib.hid (fun hne => by obtain ⟨g, e, h⟩ := BlS.out hne; exact (⟨g, e, h.below hb⟩ : ∃ g, aS = some ⟨g, 0, none⟩ ∧ Blk w9 g _))
    have HZ9 : Hid (w8.heap.size ≤ w9.heap.size) := Lib.hid hb.size
    replace HB := Lib.hid (Bthen HB.out hb)
    clear hb
    clear HsT
    go_wp2_with fail
    go_at_call 47
    have hcall := spoil2 aS aL cS cL (Rs.namedS c) (Rs.readL s.data.toList) 25 w9 (fun p e => (HsS.out.sp p e).2) (fun p e => (HsL.out.sp p e).2) BlS.out BlL.out (by have := LN.out; omega) (by have := LO.out; omega)
    refine hcall.mono ?_
    clear hcall
    rintro e w10 ⟨rfl, hb⟩
    replace HsN := Lib.hid (hb.sl HsN.out (fun p e hm => (List.mem_append.1 hm).elim (In.not BkN.out BkS.out (by have := HZ1.out; have := HZ2.out; have := HZ3.out; have := HZ4.out; have := HZ5.out; have := HZ6.out; have := HZ7.out; have := HZ8.out; have := HZ9.out; omega) p e) (In.not BkN.out BkL.out (by have := HZ1.out; have := HZ2.out; have := HZ3.out; have := HZ4.out; have := HZ5.out; have := HZ6.out; have := HZ7.out; have := HZ8.out; have := HZ9.out; omega) p e)))
    have HZ10 : Hid (w9.heap.size ≤ w10.heap.size) := Lib.hid hb.size
    replace HB := Lib.hid (HB.out.trans (hb.toB (fun i hi => (List.mem_append.1 hi).elim (In.ge BkS.out (by have := HZ1.out; have := HZ2.out; have := HZ3.out; have := HZ4.out; have := HZ5.out; have := HZ6.out; have := HZ7.out; have := HZ8.out; have := HZ9.out; omega) i) (In.ge BkL.out (by have := HZ1.out; have := HZ2.out; have := HZ3.out; have := HZ4.out; have := HZ5.out; have := HZ6.out; have := HZ7.out; have := HZ8.out; have := HZ9.out; omega) i)) (by have := HZ1.out; have := HZ2.out; have := HZ3.out; have := HZ4.out; have := HZ5.out; have := HZ6.out; have := HZ7.out; have := HZ8.out; have := HZ9.out; omega)))
    clear hb HsS HsL BlS BlL
    go_wp2_with fail
    go_at_call 21
    have hcall := named_calls c w10
    refine hcall.mono ?_
    clear hcall
    rintro e w11 ⟨v, rfl, hown, hb⟩
    obtain ⟨aG, cG, rfl, hs, hbk⟩ := own_all hown
    replace HsN := Lib.hid (HsN.out.below hb)
    have HZ11 : Hid (w10.heap.size ≤ w11.heap.size) := Lib.hid hb.size
    replace HB := Lib.hid (Bthen HB.out hb)
    have HsG := Lib.hid hs
    have BkG : Hid (In aG w10.heap.size w11.heap.size) := Lib.hid hbk
    clear hs hbk hown hb
    generalize hNB : Rs.namedB c = NB2 at *
    clear hNB
    go_wp2_with fail
    go_at_call 46
    have hcall := theirs_calls aG cG (Rs.namedS c) w11 HsG.out (by have := LN.out; omega)
    refine hcall.mono ?_
    clear hcall
    rintro e w12 ⟨v, rfl, hown, hb⟩
    obtain ⟨aZ, cZ, rfl, hs, hbk⟩ := own_all hown
    replace HsN := Lib.hid (HsN.out.below hb)
    replace HsG := Lib.hid (HsG.out.below hb)
    have HZ12 : Hid (w11.heap.size ≤ w12.heap.size) := Lib.hid hb.size
    replace HB := Lib.hid (Bthen HB.out hb)
    have HsZ := Lib.hid hs
    have BkZ : Hid (In aZ w11.heap.size w12.heap.size) := Lib.hid hbk
    clear hs hbk hown hb
    go_wp2_with fail
    go_at_call 45
    have hcall := eq6_calls aZ aN cZ cN (Rs.namedS c) (Rs.namedS c) w12 HsZ.out HsN.out (by have := LN.out; omega)
    rw [show decide (Rs.namedS c = Rs.namedS c) = true from decide_eq_true rfl] at hcall
    refine hcall.mono ?_
    clear hcall
    rintro e w13 ⟨rfl, nX, rfl⟩
    have hb : Below w12.heap.size w12 (w12.drewN nX) := below_drewN (Below.refl _ _) _
    generalize w12.drewN nX = w13 at *
    replace HsN := Lib.hid (HsN.out.below hb)
    replace HsG := Lib.hid (HsG.out.below hb)
    replace HsZ := Lib.hid (HsZ.out.below hb)
    have HZ13 : Hid (w12.heap.size ≤ w13.heap.size) := Lib.hid hb.size
    replace HB := Lib.hid (Bthen HB.out hb)
    clear hb
    go_wp2_with fail
    go_ret
    exact ⟨rfl, HB.out⟩
set_option maxRecDepth 100000 in
set_option maxHeartbeats 2000000 in
theorem reads_calls (s : ByteArray) (c : Int) (w : World) (hL : Lv w) :
    Calls Tryz.prog 13 #[.string s, .int .u8 c] w fun e w' => e = .returned (.bool true) ∧ Below w.heap.size w w' := by
  rcases Nat.lt_or_ge 300 s.size with h | h
  · exact reads_far s c w h
  · exact reads_near s c w hL h
set_option maxRecDepth 100000 in
set_option maxHeartbeats 2000000 in
theorem ClassReads_calls (s : ByteArray) (c : Int) (w : World) (hL : Lv w) :
    Calls Tryz.prog 3 #[.string s, .int .u8 c] w fun e w' => e = .returned (.bool true) ∧ Below w.heap.size w w' := by
  have hj := reads_calls s c w hL
  have HL := Lib.hid hL
  clear hL
  go_enter Tryz.func3, Tryz.ntmps3
  go_wp2_with fail
  go_at_call 13
  refine hj.mono ?_
  clear hj
  rintro e w1 ⟨rfl, hb⟩
  have HB := Lib.hid hb
  clear hb
  go_wp2_with fail
  go_at_call 14
  refine (awake_calls w1 (HL.out.below HB.out)).mono ?_
  rintro e w2 ⟨rfl, hb⟩
  replace HB := Lib.hid (Bthen HB.out hb)
  clear hb
  go_wp2_with fail
  go_ret
  exact ⟨rfl, HB.out⟩
end Go.Proofs.YtkjilodmmcefbaaGreatDoor
