/- Texts of the claim, put together: ItW. -/
import Derived.Test.YtimahlimmblgkaaGreatDoorPBaC
import Derived.Test.YtimahlimmblgkaaGreatDoorPItP
import Derived.Deep.LoopGhost
namespace Go.Proofs.YtimahlimmblgkaaGreatDoor
open Go.RowKit Go.Shelf
def atOf (R : Nat) (wr : World) : Nat := match wr.cell? ⟨R, 1, none⟩ with | some (.int _ n) => n.toNat | _ => 0
theorem atOf_rb {R : Nat} {wr : World} {s : ByteArray} {k : Nat} (h : Rb wr R s k) : atOf R wr = k := by unfold atOf; rw [h.c1]; simp
/-- is, one byte, as a test on the byte -/
theorem is1 (c : UInt8) (hc : c.toNat ≠ 0) (R : Nat) (s : ByteArray) (k : Nat) (W : World) (h : Rb W R s k) (hk : k ≤ s.size) (hs : s.size ≤ 1000000000000) (b : Bool) (hb : decide (Rs.bt (s.data.toList.drop k) 0 = (c.toNat : Int)) = b) :
    Calls Tryz.prog 167 #[.pointer (some ⟨R, 0, none⟩), .string ⟨#[c]⟩] W fun e w' => e = .returned (.bool b) ∧ ∃ n, w' = W.drewN n := by
  have := is_calls R s ⟨#[c]⟩ k W h hk hs
  rwa [show (⟨#[c]⟩ : ByteArray).data.toList = [c] from rfl, Rs.hp1 _ c hc, hb] at this
theorem is2 (c d : UInt8) (hc : c.toNat ≠ 0) (hd : d.toNat ≠ 0) (R : Nat) (s : ByteArray) (k : Nat) (W : World) (h : Rb W R s k) (hk : k ≤ s.size) (hs : s.size ≤ 1000000000000) (b : Bool) (hb : (decide (Rs.bt (s.data.toList.drop k) 0 = (c.toNat : Int)) && decide (Rs.bt (s.data.toList.drop k) 1 = (d.toNat : Int))) = b) :
    Calls Tryz.prog 167 #[.pointer (some ⟨R, 0, none⟩), .string ⟨#[c, d]⟩] W fun e w' => e = .returned (.bool b) ∧ ∃ n, w' = W.drewN n := by
  have := is_calls R s ⟨#[c, d]⟩ k W h hk hs
  rwa [show (⟨#[c, d]⟩ : ByteArray).data.toList = [c, d] from rfl, Rs.hp2 _ c d hc hd, hb] at this
theorem ItRel.drewN {R : Nat} {s : ByteArray} {k0 : Nat} {w : World} {k : Nat} {acc : Rs.S} {v : Value} {wr : World} (h : ItRel R s k0 w k acc v wr) (n : Nat) : ItRel R s k0 w k acc v (wr.drewN n) :=
  ⟨h.rb, h.le, h.ks, h.onl.drewN n, h.row, h.len, h.rg, h.it⟩
theorem row_onl {R : Nat} {W W' : World} {base n : Nat} {v : Value} {xs : List Value} (h : W.ownsRow base 84 2 v n xs) (ho : Onl R W W') (hR : R < base) : W'.ownsRow base 84 2 v n xs := by
  refine ⟨h.1, ?_⟩
  rcases h.2 with hn | ⟨g, cap, cur, hv, hb, hg, rest⟩
  · exact .inl hn
  · exact .inr ⟨g, cap, cur, hv, hb, (ho.block g (Array.getElem?_eq_some_iff.1 hg).1 (by simp; omega)).trans hg, rest⟩
theorem row_set {R : Nat} {W : World} {base n : Nat} {v : Value} {xs : List Value} (h : W.ownsRow base 84 2 v n xs) (hR : R < base) (u : Value) : (W.setCell ⟨R, 1, none⟩ u).ownsRow base 84 2 v n xs :=
  row_onl h ((Onl.refl R W).set _ rfl u) hR
theorem row_below {W W' : World} {base n : Nat} {v : Value} {xs : List Value} (h : W.ownsRow base 84 2 v n xs) (ho : Below W.heap.size W W') : W'.ownsRow base 84 2 v n xs := by
  refine ⟨h.1, ?_⟩
  rcases h.2 with hn | ⟨g, cap, cur, hv, hb, hg, rest⟩
  · exact .inl hn
  · exact .inr ⟨g, cap, cur, hv, hb, (ho.block g (Array.getElem?_eq_some_iff.1 hg).1).trans hg, rest⟩
theorem ItRel.below {R : Nat} {s : ByteArray} {k0 : Nat} {w : World} {k : Nat} {acc : Rs.S} {v : Value} {wr w' : World} (h : ItRel R s k0 w k acc v wr) (hb : Below wr.heap.size wr w') : ItRel R s k0 w k acc v w' :=
  ⟨h.rb.below hb, h.le, h.ks, h.onl.trans (Onl.of hb), row_below h.row hb, h.len, h.rg, h.it⟩
theorem bt_ext {s : ByteArray} {k i : Nat} (h : k + i < s.size) : (((s[k + i]'h).toNat : Int)) = Rs.bt (s.data.toList.drop k) i := by rw [Rs.bt_drop, Rs.esc_get h]
theorem Rb7 {R B k : Nat} {s : ByteArray} {w6 w7 : World} {o : Obj} (hR : R < B) (h : Rb w6 R s k) (hb : Below B (w6.alloc o) w7) : Rb w7 R s k :=
  (hb.block R hR).trans ((Below.heap_alloc w6 o R h.lt).trans h)
set_option maxRecDepth 100000 in
set_option maxHeartbeats 64000000 in
theorem items_calls (R : Nat) (s : ByteArray) (k0 : Nat) (w : World) (h : Rb w R s k0) (hk : k0 ≤ s.size) (hs : s.size ≤ 100000000000) (hR : max (max 9 5) 6 < R) (hL : Lv w) :
    Calls Tryz.prog 168 #[.pointer (some ⟨R, 0, none⟩)] w (ItPost R s k0 w) := by
  have c1 := h.c1
  have HL := Lib.hid (show _ ∧ _ from ⟨hL, h.lt⟩)
  have hstart : ItRel R s k0 w k0 [] (.slice none 0 0) w := ⟨h, Nat.le_refl _, hk, Onl.refl R w, World.ownsRow_nil _ _ _ _, by simp, by simp, s.size, by omega, by simp⟩
  clear h hL
  go_enter Tryz.func168, Tryz.ntmps168
  go_wp2_with fail
  go_loopw [4] (fun v wr => ∃ k acc, ItRel R s k0 w k acc v wr) (fun _ wr => s.size - atOf R wr)
  case atStart => exact ⟨k0, [], hstart⟩
  case round =>
    clear hstart c1
    obtain ⟨k, acc, hrel⟩ := hrel
    rw [atOf_rb hrel.rb]
    obtain ⟨t, ht⟩ : ∃ t, s.data.toList.drop k = t := ⟨_, rfl⟩
    have hks := hrel.ks
    have hs' : s.size ≤ 1000000000000 := by omega
    by_cases hd : k ≠ k0 ∧ Rs.bt t 0 = 93
    · have c1 := hrel.rb.c1
      have f1 := hrel.rb.f1
      have hne : ((k : Int) == (k0 : Int)) = false := by have := hd.1; simp; omega
      have HD := Lib.hid (show _ ∧ _ from ⟨hrel, hrel.done hd.1 (by rw [ht]; exact hd.2)⟩)
      have hk1 : k + 1 ≤ s.size := by
        have h1 := hd.2
        rw [← ht, Rs.bt_drop] at h1
        rcases Nat.lt_or_ge k s.size with h2 | h2
        · omega
        · rw [Rs.bt_ge (by rw [← Lib.size_eq]; omega)] at h1; omega
      have his := is1 93 (by decide) R s k wr hrel.rb hks hs' true (by rw [ht, hd.2]; rfl)
      clear hrel hd ht
      go_wp2_with fail
      refine his.mono ?_
      rintro e w1 ⟨rfl, q, rfl⟩
      go_wp2
      go_ret2
      exact ItPost.yes (k' := k + 1) ((HD.out.1.onl.drewN q).set _ rfl _) HD.out.2 (row_set (W := wr.drewN q) HD.out.1.row HL.out.2 _) (by have := (HD.out.1.rb.drewN q).set (k + 1); rwa [Int.natCast_add] at this) hk1 rfl HD.out.1.rg (by have := HD.out.1.len; omega)
    · have HC := Lib.hid (show ¬ (k ≠ k0 ∧ Rs.bt (s.data.toList.drop k) 0 = 93) from by rw [ht]; exact hd)
      have HT := Lib.hid ht
      by_cases hfi : k = k0
      · have c1 := hrel.rb.c1
        have hne : ((k : Int) == (k0 : Int)) = true := by simp; omega
        have HF := Lib.hid (show (decide (k = k0) = true) ∧ (k = k0) from ⟨by simpa using hfi, hfi⟩)
        have H1 := Lib.hid hrel
        clear hrel hd ht hfi
        go_wp2_with fail
        clear c1
        generalize wr = w1 at *
        have c0 := H1.out.rb.c0
        have c1 := H1.out.rb.c1
        by_cases h92 : Rs.bt t 0 = 92
        · have his5 := fun W hW => is1 92 (by decide) R s k W hW hks hs' true (by rw [HT.out, h92]; rfl)
          have H45 : Hid (decide (Rs.bt t 0 = ((45 : UInt8).toNat : Int)) = false) := Lib.hid (by rw [h92]; rfl)
          have HD : Hid (¬ (Rs.bt t 0 = 45 ∧ (decide (k = k0) = true ∨ Rs.bt t 1 = 93))) := Lib.hid (fun e => by rw [h92] at e; omega)
          by_cases h2 : k + 1 < s.size
          · have h2' : (k : Int) + 1 < (s.size : Int) := by omega
            have hidx : (((s[k + 1]'h2).toNat : Int)) = Rs.bt t 1 := by rw [bt_ext h2, HT.out]
            have H92 := Lib.hid h92
            have hlen2 : 1 < t.length := by rw [← HT.out, List.length_drop, ← Lib.size_eq]; omega
            obtain ⟨b1, hb1⟩ : ∃ b1, Rs.bt t 1 = b1 := ⟨_, rfl⟩
            rw [hb1] at hidx
            have hnam := fun W => named_calls b1 W
            have HB1 := Lib.hid hb1
            have HL2 := Lib.hid hlen2
            clear h92 hb1 hlen2
            go_big_quiet ((go_at_call 167; exact Calls.quiet_of (his5 _ (H1.out.rb.drewN _))))
            have H2 := Lib.hid (H1.out.drewN nq)
            clear c0 c1 H1 his5
            go_wp2_with fail
            generalize w1.drewN nq = w2 at *
            have c0 := H2.out.rb.c0
            have c1 := H2.out.rb.c1
            have hw1 : IntKind.i64.wrap ((k : Int) + 1) = (k : Int) + 1 := by rw [IntKind.wrap_i64]; omega
            have hw2 : 0 ≤ (k : Int) + 1 := by omega
            have hw3 : ((k : Int) + 1).toNat = k + 1 := by omega
            go_region_held3 (fun w' : World => w'.cell? ⟨R, 0, none⟩ = some (.string s) ∧ w'.cell? ⟨R, 1, none⟩ = some (.int .i64 (k : Int))) (first | go_keep | exact ⟨(hb2.cell (p := ⟨R, 0, none⟩) H2.out.rb.lt).trans H2.out.rb.c0, (hb2.cell (p := ⟨R, 1, none⟩) H2.out.rb.lt).trans H2.out.rb.c1⟩) (first | (go_at_call 137; refine (hnam _).mono ?_; rintro e w3 ⟨v3, rfl, hown3, hb2⟩))
            clear hw1 hw2 hw3
            have H3 := Lib.hid (H2.out.below ((Below.drew (Below.refl _ _)).trans hb2))
            clear c0 c1 hnam hidx
            have c1 := H3.out.rb.c1
            cases hB : Rs.namedB b1
            · have HN : Hid (¬ (Rs.bt t 0 = 92 ∧ 1 < t.length ∧ Rs.namedB (Rs.bt t 1) = true)) := Lib.hid (fun e => by rw [HB1.out, hB] at e; simp at e)
              clear hB hown3 hb2 H2 h2'
              rename_i hh
              clear hh
              have his6 := is1 45 (by decide) R s k w3 H3.out.rb hks hs' false (by rw [HT.out]; exact H45.out)
              go_wp2_with fail
              refine his6.mono ?_
              rintro e w4 ⟨rfl, q4, rfl⟩
              clear his6
              have H4 := Lib.hid (H3.out.drewN q4)
              clear c1 H3
              go_wp2_with fail
              generalize w3.drewN q4 = w4 at *
              refine (point_calls' R s k w4 H4.out.rb hks hs' hR (H4.out.onl.lv hR HL.out.1)).mono ?_
              rintro e w5 ⟨pv, pb, k5, rfl, rb5, hk5, onl5, hm⟩
              rw [HT.out] at hm
              cases hP : Rs.partS t with
              | none =>
                rw [hP] at hm
                dsimp only at hm
                subst hm
                have FIN := Lib.hid (ItPost.no (H4.out.onl.trans onl5) (H4.out.fail HC.out (by rw [HT.out]; exact Rs.item_none HN.out HD.out hP)))
                clear hP rb5 onl5
                go_wp2
                go_ret2
                exact FIN.out
              | some r =>
                obtain ⟨a, n⟩ := r
                have hok := Rs.partS_ok hP
                have HP := Lib.hid hP
                rw [hP] at hm
                dsimp only at hm
                obtain ⟨rfl, hpv, hk5e⟩ := hm
                subst hk5e
                have hpv' := hpv.symm
                subst hpv'
                have hap := (Rs.pt_iff _).1 hok.1
                have hn1 := hok.2.1
                have ha0 : 0 ≤ a := by omega
                have ha1 : a ≤ 1114111 := by omega
                have hlk : acc.length ≤ 8 * k := H4.out.len
                have hszw : w.heap.size ≤ w5.heap.size := Nat.le_trans H4.out.onl.size onl5.size
                have HG1 : Hid (∀ q ∈ [((a, a) : Rs.R)], Rs.rg q) := Lib.hid (fun q hq => by simp at hq; subst hq; exact ⟨by simp only; omega, by simp only; omega, by simp only; omega⟩)
                have HK1 : Hid (k + n ≤ s.size) := Lib.hid hk5
                have H5 := Lib.hid (show Rb w5 R s (k + n) ∧ Onl R w w5 ∧ w5.ownsRow w.heap.size 84 2 u4 acc.length (rFlat acc) from ⟨rb5, H4.out.onl.trans onl5, row_onl H4.out.row onl5 HL.out.2⟩)
                have hbn : Rs.bt (s.data.toList.drop (k + n)) 0 = Rs.bt t n := by rw [← HT.out, Rs.bt_drop, Rs.bt_drop]; rfl
                have hbn1 : Rs.bt (s.data.toList.drop (k + n)) 1 = Rs.bt t (n + 1) := by rw [← HT.out, Rs.bt_drop, Rs.bt_drop]; rfl
                clear hP rb5 onl5 hok hap
                by_cases hq : Rs.bt t n = 45
                · have hk45 : k + n + 1 ≤ s.size := by
                    rw [← hbn, Rs.bt_drop] at hq
                    rcases Nat.lt_or_ge (k + n) s.size with h2 | h2
                    · omega
                    · rw [Rs.bt_ge (by rw [← Lib.size_eq]; omega)] at hq; omega
                  have his7 := fun W hW => is1 45 (by decide) R s (k + n) W hW hk5 hs' true (by rw [hbn, hq]; rfl)
                  by_cases hq2 : Rs.bt t (n + 1) = 93
                  · have his8 := fun W hW => is2 45 93 (by decide) (by decide) R s (k + n) W hW hk5 hs' true (by rw [hbn, hbn1, hq, hq2]; rfl)
                    have HQ : Hid (¬ (Rs.bt t n = 45 ∧ Rs.bt t (n + 1) ≠ 93)) := Lib.hid (fun e => e.2 hq2)
                    clear hq hq2 hbn hbn1
                    go_wp2_with fail
                    refine (his7 _ H5.out.1).mono ?_
                    rintro e w6 ⟨rfl, q6, rfl⟩
                    go_wp2_with fail
                    refine (his8 _ (H5.out.1.drewN q6)).mono ?_
                    rintro e w6 ⟨rfl, q7, rfl⟩
                    have H6 := Lib.hid (show Rb ((w5.drewN q6).drewN q7) R s (k + n) ∧ Onl R w ((w5.drewN q6).drewN q7) ∧ ((w5.drewN q6).drewN q7).ownsRow w.heap.size 84 2 u4 acc.length (rFlat acc) from ⟨H5.out.1, (H5.out.2.1.drewN q6).drewN q7, H5.out.2.2⟩)
                    have hsz6 : w.heap.size ≤ ((w5.drewN q6).drewN q7).heap.size := hszw
                    clear H5 his7 his8 hszw
                    generalize (w5.drewN q6).drewN q7 = w6 at *
                    have HKN := HK1
                    have HG := HG1
                    have HI := Lib.hid (show Rs.itemS (s.data.toList.drop k) (decide (k = k0)) = some ([(a, a)], n) from by rw [HT.out]; exact Rs.item_one HN.out HD.out HP.out HQ.out)
                    clear HQ
                    go_wp2_with (at_builtin; refine wpList_append_R rfl _ _ 24 84 rfl Tryz.underlying24 Tryz.info84 w.heap.size u4 acc.length (rFlat acc) rfl (H6.out.2.2.alloc _) (some ⟨w6.heap.size, 0, none⟩) [(a, a)] 1 rfl (Sl.alloc_new w6 [(a, a)] _) (by simp; omega) (by simp; omega) ?_; intro v7 w7 hrow7 _ hbl7;
                                                                                have hB7 : Below w.heap.size (w6.alloc (.cells (rFlat [(a, a)]).toArray 84)) w7 := hbl7 _ (Below.refl _ _);
                                                                                have H7 := Lib.hid (show _ ∧ _ from ⟨hrow7, hB7⟩);
                                                                                clear hrow7 hbl7 hB7)
                    refine ⟨⟨_, _, H4.out.next HC.out HI.out (by omega) HKN.out (by simp) HG.out (Rb7 HL.out.2 H6.out.1 H7.out.2) ((H6.out.2.1.trans (Onl.of ((Below.refl _ _).alloc (Nat.le_refl _) _))).below H7.out.2) H7.out.1⟩, by rw [atOf_rb (Rb7 HL.out.2 H6.out.1 H7.out.2)]; omega⟩
                  · have his8 := fun W hW => is2 45 93 (by decide) (by decide) R s (k + n) W hW hk5 hs' false (by rw [hbn, hbn1, hq]; simpa using hq2)
                    have HQ : Hid (Rs.bt t n = 45 ∧ Rs.bt t (n + 1) ≠ 93) := Lib.hid ⟨hq, hq2⟩
                    clear hq hq2 hbn hbn1
                    go_wp2_with fail
                    refine (his7 _ H5.out.1).mono ?_
                    rintro e w6 ⟨rfl, q6, rfl⟩
                    go_wp2_with fail
                    refine (his8 _ (H5.out.1.drewN q6)).mono ?_
                    rintro e w6 ⟨rfl, q7, rfl⟩
                    have H6 := Lib.hid (show Rb ((w5.drewN q6).drewN q7) R s (k + n) ∧ Onl R w ((w5.drewN q6).drewN q7) ∧ ((w5.drewN q6).drewN q7).ownsRow w.heap.size 84 2 u4 acc.length (rFlat acc) from ⟨H5.out.1, (H5.out.2.1.drewN q6).drewN q7, H5.out.2.2⟩)
                    clear H5 his7 his8 hszw
                    generalize (w5.drewN q6).drewN q7 = w6 at *
                    have HI2 := Lib.hid (Rs.item_two (first := decide (k = k0)) HN.out HD.out HP.out HQ.out)
                    have c6 := H6.out.1.c1
                    have f6 := H6.out.1.f1
                    have rb8 : Rb (w6.setCell ⟨R, 1, none⟩ (.int .i64 ((k : Int) + (n : Int) + 1))) R s (k + n + 1) := by have := H6.out.1.set (k + n + 1); rwa [show (((k + n + 1 : Nat)) : Int) = (k : Int) + (n : Int) + 1 by omega] at this
                    have o8 : Onl R w (w6.setCell ⟨R, 1, none⟩ (.int .i64 ((k : Int) + (n : Int) + 1))) := H6.out.2.1.set _ rfl _
                    have r8 : (w6.setCell ⟨R, 1, none⟩ (.int .i64 ((k : Int) + (n : Int) + 1))).ownsRow w.heap.size 84 2 u4 acc.length (rFlat acc) := row_set H6.out.2.2 HL.out.2 _
                    have H8 := Lib.hid (show _ ∧ _ ∧ _ from ⟨rb8, o8, r8⟩)
                    clear rb8 o8 r8 H6
                    go_wp2_with fail
                    clear c6 f6
                    generalize w6.setCell ⟨R, 1, none⟩ (.int .i64 ((k : Int) + (n : Int) + 1)) = w8 at *
                    refine (point_calls' R s (k + n + 1) w8 H8.out.1 hk45 hs' hR (H8.out.2.1.lv hR HL.out.1)).mono ?_
                    rintro e w9 ⟨pv, pb, k9, rfl, rb9, hk9, onl9, hm9⟩
                    rw [show s.data.toList.drop (k + n + 1) = t.drop (n + 1) by rw [← HT.out, List.drop_drop]; rfl] at hm9
                    have hi2 := HI2.out
                    clear HI2
                    cases hP2 : Rs.partS (t.drop (n + 1)) with
                    | none =>
                      rw [hP2] at hm9 hi2
                      dsimp only at hm9 hi2
                      subst hm9
                      have FIN := Lib.hid (ItPost.no (H8.out.2.1.trans onl9) (H4.out.fail HC.out (by rw [HT.out]; exact hi2)))
                      clear hi2 hP2 rb9 onl9
                      go_wp2
                      go_ret2
                      exact FIN.out
                    | some r2 =>
                      obtain ⟨b, m⟩ := r2
                      have hok2 := Rs.partS_ok hP2
                      rw [hP2] at hm9 hi2
                      dsimp only at hm9 hi2
                      obtain ⟨rfl, hpv, hk9e⟩ := hm9
                      subst hk9e
                      have hpv' := hpv.symm
                      subst hpv'
                      have hbp := (Rs.pt_iff _).1 hok2.1
                      by_cases hba : b < a
                      · rw [if_pos hba] at hi2
                        have FIN := Lib.hid (ItPost.no (H8.out.2.1.trans onl9) (H4.out.fail HC.out (by rw [HT.out]; exact hi2)))
                        clear hi2 hP2 rb9 onl9 hok2
                        go_wp2
                        go_ret2
                        exact FIN.out
                      · rw [if_neg hba] at hi2
                        have hm1 := hok2.2.1
                        have HKN : Hid (k + (n + 1 + m) ≤ s.size) := Lib.hid (by omega)
                        have hab : a ≤ b := by omega
                        have hb1m : b ≤ 1114111 := by omega
                        have HI := Lib.hid (show Rs.itemS (s.data.toList.drop k) (decide (k = k0)) = some ([(a, b)], n + 1 + m) from by rw [HT.out]; exact hi2)
                        have HG : Hid (∀ q ∈ [((a, b) : Rs.R)], Rs.rg q) := Lib.hid (fun q hq => by simp at hq; subst hq; exact ⟨by simp only; omega, by simp only; omega, by simp only; omega⟩)
                        have H6 := Lib.hid (show Rb w9 R s (k + (n + 1 + m)) ∧ Onl R w w9 ∧ w9.ownsRow w.heap.size 84 2 u4 acc.length (rFlat acc) from ⟨by rw [show k + (n + 1 + m) = k + n + 1 + m by omega]; exact rb9, H8.out.2.1.trans onl9, row_onl H8.out.2.2 onl9 HL.out.2⟩)
                        have hsz6 : w.heap.size ≤ w9.heap.size := H6.out.2.1.size
                        clear hi2 hP2 rb9 onl9 hok2 H8
                        go_wp2_with (at_builtin; refine wpList_append_R rfl _ _ 24 84 rfl Tryz.underlying24 Tryz.info84 w.heap.size u4 acc.length (rFlat acc) rfl (H6.out.2.2.alloc _) (some ⟨w9.heap.size, 0, none⟩) [(a, b)] 1 rfl (Sl.alloc_new w9 [(a, b)] _) (by simp; omega) (by simp; omega) ?_; intro v7 w7 hrow7 _ hbl7;
                                                                                have hB7 : Below w.heap.size (w9.alloc (.cells (rFlat [(a, b)]).toArray 84)) w7 := hbl7 _ (Below.refl _ _);
                                                                                have H7 := Lib.hid (show _ ∧ _ from ⟨hrow7, hB7⟩);
                                                                                clear hrow7 hbl7 hB7)
                        refine ⟨⟨_, _, H4.out.next HC.out HI.out (by omega) HKN.out (by simp) HG.out (Rb7 HL.out.2 H6.out.1 H7.out.2) ((H6.out.2.1.trans (Onl.of ((Below.refl _ _).alloc (Nat.le_refl _) _))).below H7.out.2) H7.out.1⟩, by rw [atOf_rb (Rb7 HL.out.2 H6.out.1 H7.out.2)]; omega⟩
                · have his7 := fun W hW => is1 45 (by decide) R s (k + n) W hW hk5 hs' false (by rw [hbn]; simpa using hq)
                  have HQ : Hid (¬ (Rs.bt t n = 45 ∧ Rs.bt t (n + 1) ≠ 93)) := Lib.hid (fun e => hq e.1)
                  clear hq hbn hbn1
                  go_wp2_with fail
                  refine (his7 _ H5.out.1).mono ?_
                  rintro e w6 ⟨rfl, q6, rfl⟩
                  have H6 := Lib.hid (show Rb (w5.drewN q6) R s (k + n) ∧ Onl R w (w5.drewN q6) ∧ (w5.drewN q6).ownsRow w.heap.size 84 2 u4 acc.length (rFlat acc) from ⟨H5.out.1, H5.out.2.1.drewN q6, H5.out.2.2⟩)
                  have hsz6 : w.heap.size ≤ (w5.drewN q6).heap.size := hszw
                  clear H5 his7 hszw
                  generalize w5.drewN q6 = w6 at *
                  have HKN := HK1
                  have HG := HG1
                  have HI := Lib.hid (show Rs.itemS (s.data.toList.drop k) (decide (k = k0)) = some ([(a, a)], n) from by rw [HT.out]; exact Rs.item_one HN.out HD.out HP.out HQ.out)
                  clear HQ
                  go_wp2_with (at_builtin; refine wpList_append_R rfl _ _ 24 84 rfl Tryz.underlying24 Tryz.info84 w.heap.size u4 acc.length (rFlat acc) rfl (H6.out.2.2.alloc _) (some ⟨w6.heap.size, 0, none⟩) [(a, a)] 1 rfl (Sl.alloc_new w6 [(a, a)] _) (by simp; omega) (by simp; omega) ?_; intro v7 w7 hrow7 _ hbl7;
                                                                              have hB7 : Below w.heap.size (w6.alloc (.cells (rFlat [(a, a)]).toArray 84)) w7 := hbl7 _ (Below.refl _ _);
                                                                              have H7 := Lib.hid (show _ ∧ _ from ⟨hrow7, hB7⟩);
                                                                              clear hrow7 hbl7 hB7)
                  refine ⟨⟨_, _, H4.out.next HC.out HI.out (by omega) HKN.out (by simp) HG.out (Rb7 HL.out.2 H6.out.1 H7.out.2) ((H6.out.2.1.trans (Onl.of ((Below.refl _ _).alloc (Nat.le_refl _) _))).below H7.out.2) H7.out.1⟩, by rw [atOf_rb (Rb7 HL.out.2 H6.out.1 H7.out.2)]; omega⟩
            · have HI := Lib.hid (show Rs.itemS (s.data.toList.drop k) (decide (k = k0)) = some (Rs.namedS b1, 2) from by rw [HT.out, ← HB1.out]; exact Rs.item_named H92.out HL2.out (by rw [HB1.out]; exact hB))
              have hnr := Rs.namedS_rg b1
              obtain ⟨a3, c3, rfl, _, hs3⟩ := Sl.of_own hown3
              have hacc := H3.out.len
              have HS3 := Lib.hid (show _ ∧ _ from ⟨hs3, hnr⟩)
              have hnl := hnr.2
              clear hs3 hnr hown3 hb2 H2 H45
              have hbase : w.heap.size ≤ w3.heap.size := H3.out.onl.size
              have HLt := HL.out.2
              go_wp2_with (at_builtin; refine wpList_append_R rfl _ _ 24 84 rfl Tryz.underlying24 Tryz.info84 w.heap.size u4 acc.length (rFlat acc) rfl H3.out.row a3 (Rs.namedS b1) c3 rfl HS3.out.1 (by omega) hbase ?_; intro v4 w4 hrow4 _ hbl4;
                                                                              have hB4 : Below w.heap.size w3 w4 := hbl4 w3 (Below.refl _ _);
                                                                              have rb4 : Rb w4 R s k := (hB4.block R HLt).trans H3.out.rb;
                                                                              have H4 := Lib.hid (show _ ∧ _ ∧ _ from ⟨hrow4, hB4, rb4⟩);
                                                                              have d1 := rb4.c1;
                                                                              have g1 := rb4.f1;
                                                                              clear hrow4 hbl4 hB4 rb4 c1)
              have hk2 : k + 2 ≤ s.size := by omega
              have rb5 : Rb (w4.setCell ⟨R, 1, none⟩ (.int .i64 ((k : Int) + 2))) R s (k + 2) := by have := H4.out.2.2.set (k + 2); rwa [Int.natCast_add] at this
              refine ⟨⟨k + 2, _, H3.out.next HC.out HI.out (by omega) hk2 HS3.out.2.2 HS3.out.2.1 rb5 ((H3.out.onl.below H4.out.2.1).set _ rfl _) (row_set H4.out.1 HLt _)⟩, by rw [atOf_rb rb5]; omega⟩
          · have hx : decide ((k : Int) + 1 < (s.size : Int)) = false := by simp; omega
            have hx2 : ¬ (k : Int) + 1 < (s.size : Int) := by omega
            have HN : Hid (¬ (Rs.bt t 0 = 92 ∧ 1 < t.length ∧ Rs.namedB (Rs.bt t 1) = true)) := Lib.hid (fun e => by have := e.2.1; rw [← HT.out, List.length_drop, ← Lib.size_eq] at this; omega)
            clear h92
            go_big_quiet ((go_at_call 167; exact Calls.quiet_of (his5 _ (H1.out.rb.drewN _))))
            have H3 := Lib.hid (H1.out.drewN nq)
            clear c0 c1 H1 his5 hx hx2
            generalize w1.drewN nq = w3 at *
            have c1 := H3.out.rb.c1
            have his6 := is1 45 (by decide) R s k w3 H3.out.rb hks hs' false (by rw [HT.out]; exact H45.out)
            go_wp2_with fail
            refine his6.mono ?_
            rintro e w4 ⟨rfl, q4, rfl⟩
            clear his6
            have H4 := Lib.hid (H3.out.drewN q4)
            clear c1 H3
            go_wp2_with fail
            generalize w3.drewN q4 = w4 at *
            refine (point_calls' R s k w4 H4.out.rb hks hs' hR (H4.out.onl.lv hR HL.out.1)).mono ?_
            rintro e w5 ⟨pv, pb, k5, rfl, rb5, hk5, onl5, hm⟩
            rw [HT.out] at hm
            cases hP : Rs.partS t with
            | none =>
              rw [hP] at hm
              dsimp only at hm
              subst hm
              have FIN := Lib.hid (ItPost.no (H4.out.onl.trans onl5) (H4.out.fail HC.out (by rw [HT.out]; exact Rs.item_none HN.out HD.out hP)))
              clear hP rb5 onl5
              go_wp2
              go_ret2
              exact FIN.out
            | some r =>
              obtain ⟨a, n⟩ := r
              have hok := Rs.partS_ok hP
              have HP := Lib.hid hP
              rw [hP] at hm
              dsimp only at hm
              obtain ⟨rfl, hpv, hk5e⟩ := hm
              subst hk5e
              have hpv' := hpv.symm
              subst hpv'
              have hap := (Rs.pt_iff _).1 hok.1
              have hn1 := hok.2.1
              have ha0 : 0 ≤ a := by omega
              have ha1 : a ≤ 1114111 := by omega
              have hlk : acc.length ≤ 8 * k := H4.out.len
              have hszw : w.heap.size ≤ w5.heap.size := Nat.le_trans H4.out.onl.size onl5.size
              have HG1 : Hid (∀ q ∈ [((a, a) : Rs.R)], Rs.rg q) := Lib.hid (fun q hq => by simp at hq; subst hq; exact ⟨by simp only; omega, by simp only; omega, by simp only; omega⟩)
              have HK1 : Hid (k + n ≤ s.size) := Lib.hid hk5
              have H5 := Lib.hid (show Rb w5 R s (k + n) ∧ Onl R w w5 ∧ w5.ownsRow w.heap.size 84 2 u4 acc.length (rFlat acc) from ⟨rb5, H4.out.onl.trans onl5, row_onl H4.out.row onl5 HL.out.2⟩)
              have hbn : Rs.bt (s.data.toList.drop (k + n)) 0 = Rs.bt t n := by rw [← HT.out, Rs.bt_drop, Rs.bt_drop]; rfl
              have hbn1 : Rs.bt (s.data.toList.drop (k + n)) 1 = Rs.bt t (n + 1) := by rw [← HT.out, Rs.bt_drop, Rs.bt_drop]; rfl
              clear hP rb5 onl5 hok hap
              by_cases hq : Rs.bt t n = 45
              · have hk45 : k + n + 1 ≤ s.size := by
                  rw [← hbn, Rs.bt_drop] at hq
                  rcases Nat.lt_or_ge (k + n) s.size with h2 | h2
                  · omega
                  · rw [Rs.bt_ge (by rw [← Lib.size_eq]; omega)] at hq; omega
                exfalso; omega
              · have his7 := fun W hW => is1 45 (by decide) R s (k + n) W hW hk5 hs' false (by rw [hbn]; simpa using hq)
                have HQ : Hid (¬ (Rs.bt t n = 45 ∧ Rs.bt t (n + 1) ≠ 93)) := Lib.hid (fun e => hq e.1)
                clear hq hbn hbn1
                go_wp2_with fail
                refine (his7 _ H5.out.1).mono ?_
                rintro e w6 ⟨rfl, q6, rfl⟩
                have H6 := Lib.hid (show Rb (w5.drewN q6) R s (k + n) ∧ Onl R w (w5.drewN q6) ∧ (w5.drewN q6).ownsRow w.heap.size 84 2 u4 acc.length (rFlat acc) from ⟨H5.out.1, H5.out.2.1.drewN q6, H5.out.2.2⟩)
                have hsz6 : w.heap.size ≤ (w5.drewN q6).heap.size := hszw
                clear H5 his7 hszw
                generalize w5.drewN q6 = w6 at *
                have HKN := HK1
                have HG := HG1
                have HI := Lib.hid (show Rs.itemS (s.data.toList.drop k) (decide (k = k0)) = some ([(a, a)], n) from by rw [HT.out]; exact Rs.item_one HN.out HD.out HP.out HQ.out)
                clear HQ
                go_wp2_with (at_builtin; refine wpList_append_R rfl _ _ 24 84 rfl Tryz.underlying24 Tryz.info84 w.heap.size u4 acc.length (rFlat acc) rfl (H6.out.2.2.alloc _) (some ⟨w6.heap.size, 0, none⟩) [(a, a)] 1 rfl (Sl.alloc_new w6 [(a, a)] _) (by simp; omega) (by simp; omega) ?_; intro v7 w7 hrow7 _ hbl7;
                                                                            have hB7 : Below w.heap.size (w6.alloc (.cells (rFlat [(a, a)]).toArray 84)) w7 := hbl7 _ (Below.refl _ _);
                                                                            have H7 := Lib.hid (show _ ∧ _ from ⟨hrow7, hB7⟩);
                                                                            clear hrow7 hbl7 hB7)
                refine ⟨⟨_, _, H4.out.next HC.out HI.out (by omega) HKN.out (by simp) HG.out (Rb7 HL.out.2 H6.out.1 H7.out.2) ((H6.out.2.1.trans (Onl.of ((Below.refl _ _).alloc (Nat.le_refl _) _))).below H7.out.2) H7.out.1⟩, by rw [atOf_rb (Rb7 HL.out.2 H6.out.1 H7.out.2)]; omega⟩
        · have his5 := fun W hW => is1 92 (by decide) R s k W hW hks hs' false (by rw [HT.out]; simpa using h92)
          have HN : Hid (¬ (Rs.bt t 0 = 92 ∧ 1 < t.length ∧ Rs.namedB (Rs.bt t 1) = true)) := Lib.hid (fun e => h92 e.1)
          clear h92
          go_big_quiet ((go_at_call 167; exact Calls.quiet_of (his5 _ (H1.out.rb.drewN _))))
          have H3 := Lib.hid (H1.out.drewN nq)
          clear c0 c1 H1 his5
          generalize w1.drewN nq = w3 at *
          have c1 := H3.out.rb.c1
          by_cases h45 : Rs.bt t 0 = 45
          · have hk1 : k + 1 ≤ s.size := by
              rw [← HT.out, Rs.bt_drop] at h45
              rcases Nat.lt_or_ge k s.size with h2 | h2
              · omega
              · rw [Rs.bt_ge (by rw [← Lib.size_eq]; omega)] at h45; omega
            have his6 := is1 45 (by decide) R s k w3 H3.out.rb hks hs' true (by rw [HT.out, h45]; rfl)
            have HG : Hid (∀ q ∈ [((45, 45) : Rs.R)], Rs.rg q) := Lib.hid (fun q hq => by simp at hq; subst hq; exact ⟨by decide, by decide, by decide⟩)
            have HI := Lib.hid (show Rs.itemS (s.data.toList.drop k) (decide (k = k0)) = some ([(45, 45)], 1) from by rw [HT.out]; exact Rs.item_dash h45 (.inl HF.out.1))
            clear h45
            go_wp2_with fail
            refine his6.mono ?_
            rintro e w4 ⟨rfl, q4, rfl⟩
            have H4 := Lib.hid (H3.out.drewN q4)
            clear c1 H3 his6
            have c1 := H4.out.rb.c1
            generalize w3.drewN q4 = w4 at *
            have H6 := Lib.hid (show Rb w4 R s k ∧ Onl R w w4 ∧ w4.ownsRow w.heap.size 84 2 u4 acc.length (rFlat acc) from ⟨H4.out.rb, H4.out.onl, H4.out.row⟩)
            have hsz6 : w.heap.size ≤ w4.heap.size := H6.out.2.1.size
            have hlk : acc.length ≤ 8 * k := H4.out.len
            have HLt := HL.out.2
            go_wp2_with (at_builtin; refine wpList_append_R rfl _ _ 24 84 rfl Tryz.underlying24 Tryz.info84 w.heap.size u4 acc.length (rFlat acc) rfl (H6.out.2.2.alloc _) (some ⟨w4.heap.size, 0, none⟩) [(45, 45)] 1 rfl (Sl.alloc_new w4 [(45, 45)] _) (by simp; omega) (by simp; omega) ?_; intro v7 w7 hrow7 _ hbl7;
                                                                                  have hB7 : Below w.heap.size (w4.alloc (.cells (rFlat [(45, 45)]).toArray 84)) w7 := hbl7 _ (Below.refl _ _);
                                                                                  have rb7 := Rb7 HLt H6.out.1 hB7;
                                                                                  have d7 := rb7.c1;
                                                                                  have g7 := rb7.f1;
                                                                                  have H7 := Lib.hid (show _ ∧ _ ∧ _ from ⟨hrow7, hB7, rb7⟩);
                                                                                  clear hrow7 hbl7 hB7 rb7)
            have rb8 : Rb (w7.setCell ⟨R, 1, none⟩ (.int .i64 ((k : Int) + 1))) R s (k + 1) := by have := H7.out.2.2.set (k + 1); rwa [Int.natCast_add] at this
            refine ⟨⟨k + 1, _, H4.out.next HC.out HI.out (by omega) hk1 (by simp) HG.out rb8 (((H6.out.2.1.trans (Onl.of ((Below.refl _ _).alloc (Nat.le_refl _) _))).below H7.out.2.1).set _ rfl _) (row_set H7.out.1 HLt _)⟩, by rw [atOf_rb rb8]; omega⟩
          · have H45 : Hid (decide (Rs.bt t 0 = ((45 : UInt8).toNat : Int)) = false) := Lib.hid (by simpa using h45)
            have HD : Hid (¬ (Rs.bt t 0 = 45 ∧ (decide (k = k0) = true ∨ Rs.bt t 1 = 93))) := Lib.hid (fun e => h45 e.1)
            clear h45
            have his6 := is1 45 (by decide) R s k w3 H3.out.rb hks hs' false (by rw [HT.out]; exact H45.out)
            go_wp2_with fail
            refine his6.mono ?_
            rintro e w4 ⟨rfl, q4, rfl⟩
            clear his6
            have H4 := Lib.hid (H3.out.drewN q4)
            clear c1 H3
            go_wp2_with fail
            generalize w3.drewN q4 = w4 at *
            refine (point_calls' R s k w4 H4.out.rb hks hs' hR (H4.out.onl.lv hR HL.out.1)).mono ?_
            rintro e w5 ⟨pv, pb, k5, rfl, rb5, hk5, onl5, hm⟩
            rw [HT.out] at hm
            cases hP : Rs.partS t with
            | none =>
              rw [hP] at hm
              dsimp only at hm
              subst hm
              have FIN := Lib.hid (ItPost.no (H4.out.onl.trans onl5) (H4.out.fail HC.out (by rw [HT.out]; exact Rs.item_none HN.out HD.out hP)))
              clear hP rb5 onl5
              go_wp2
              go_ret2
              exact FIN.out
            | some r =>
              obtain ⟨a, n⟩ := r
              have hok := Rs.partS_ok hP
              have HP := Lib.hid hP
              rw [hP] at hm
              dsimp only at hm
              obtain ⟨rfl, hpv, hk5e⟩ := hm
              subst hk5e
              have hpv' := hpv.symm
              subst hpv'
              have hap := (Rs.pt_iff _).1 hok.1
              have hn1 := hok.2.1
              have ha0 : 0 ≤ a := by omega
              have ha1 : a ≤ 1114111 := by omega
              have hlk : acc.length ≤ 8 * k := H4.out.len
              have hszw : w.heap.size ≤ w5.heap.size := Nat.le_trans H4.out.onl.size onl5.size
              have HG1 : Hid (∀ q ∈ [((a, a) : Rs.R)], Rs.rg q) := Lib.hid (fun q hq => by simp at hq; subst hq; exact ⟨by simp only; omega, by simp only; omega, by simp only; omega⟩)
              have HK1 : Hid (k + n ≤ s.size) := Lib.hid hk5
              have H5 := Lib.hid (show Rb w5 R s (k + n) ∧ Onl R w w5 ∧ w5.ownsRow w.heap.size 84 2 u4 acc.length (rFlat acc) from ⟨rb5, H4.out.onl.trans onl5, row_onl H4.out.row onl5 HL.out.2⟩)
              have hbn : Rs.bt (s.data.toList.drop (k + n)) 0 = Rs.bt t n := by rw [← HT.out, Rs.bt_drop, Rs.bt_drop]; rfl
              have hbn1 : Rs.bt (s.data.toList.drop (k + n)) 1 = Rs.bt t (n + 1) := by rw [← HT.out, Rs.bt_drop, Rs.bt_drop]; rfl
              clear hP rb5 onl5 hok hap
              by_cases hq : Rs.bt t n = 45
              · have hk45 : k + n + 1 ≤ s.size := by
                  rw [← hbn, Rs.bt_drop] at hq
                  rcases Nat.lt_or_ge (k + n) s.size with h2 | h2
                  · omega
                  · rw [Rs.bt_ge (by rw [← Lib.size_eq]; omega)] at hq; omega
                have his7 := fun W hW => is1 45 (by decide) R s (k + n) W hW hk5 hs' true (by rw [hbn, hq]; rfl)
                by_cases hq2 : Rs.bt t (n + 1) = 93
                · have his8 := fun W hW => is2 45 93 (by decide) (by decide) R s (k + n) W hW hk5 hs' true (by rw [hbn, hbn1, hq, hq2]; rfl)
                  have HQ : Hid (¬ (Rs.bt t n = 45 ∧ Rs.bt t (n + 1) ≠ 93)) := Lib.hid (fun e => e.2 hq2)
                  clear hq hq2 hbn hbn1
                  go_wp2_with fail
                  refine (his7 _ H5.out.1).mono ?_
                  rintro e w6 ⟨rfl, q6, rfl⟩
                  go_wp2_with fail
                  refine (his8 _ (H5.out.1.drewN q6)).mono ?_
                  rintro e w6 ⟨rfl, q7, rfl⟩
                  have H6 := Lib.hid (show Rb ((w5.drewN q6).drewN q7) R s (k + n) ∧ Onl R w ((w5.drewN q6).drewN q7) ∧ ((w5.drewN q6).drewN q7).ownsRow w.heap.size 84 2 u4 acc.length (rFlat acc) from ⟨H5.out.1, (H5.out.2.1.drewN q6).drewN q7, H5.out.2.2⟩)
                  have hsz6 : w.heap.size ≤ ((w5.drewN q6).drewN q7).heap.size := hszw
                  clear H5 his7 his8 hszw
                  generalize (w5.drewN q6).drewN q7 = w6 at *
                  have HKN := HK1
                  have HG := HG1
                  have HI := Lib.hid (show Rs.itemS (s.data.toList.drop k) (decide (k = k0)) = some ([(a, a)], n) from by rw [HT.out]; exact Rs.item_one HN.out HD.out HP.out HQ.out)
                  clear HQ
                  go_wp2_with (at_builtin; refine wpList_append_R rfl _ _ 24 84 rfl Tryz.underlying24 Tryz.info84 w.heap.size u4 acc.length (rFlat acc) rfl (H6.out.2.2.alloc _) (some ⟨w6.heap.size, 0, none⟩) [(a, a)] 1 rfl (Sl.alloc_new w6 [(a, a)] _) (by simp; omega) (by simp; omega) ?_; intro v7 w7 hrow7 _ hbl7;
                                                                              have hB7 : Below w.heap.size (w6.alloc (.cells (rFlat [(a, a)]).toArray 84)) w7 := hbl7 _ (Below.refl _ _);
                                                                              have H7 := Lib.hid (show _ ∧ _ from ⟨hrow7, hB7⟩);
                                                                              clear hrow7 hbl7 hB7)
                  refine ⟨⟨_, _, H4.out.next HC.out HI.out (by omega) HKN.out (by simp) HG.out (Rb7 HL.out.2 H6.out.1 H7.out.2) ((H6.out.2.1.trans (Onl.of ((Below.refl _ _).alloc (Nat.le_refl _) _))).below H7.out.2) H7.out.1⟩, by rw [atOf_rb (Rb7 HL.out.2 H6.out.1 H7.out.2)]; omega⟩
                · have his8 := fun W hW => is2 45 93 (by decide) (by decide) R s (k + n) W hW hk5 hs' false (by rw [hbn, hbn1, hq]; simpa using hq2)
                  have HQ : Hid (Rs.bt t n = 45 ∧ Rs.bt t (n + 1) ≠ 93) := Lib.hid ⟨hq, hq2⟩
                  clear hq hq2 hbn hbn1
                  go_wp2_with fail
                  refine (his7 _ H5.out.1).mono ?_
                  rintro e w6 ⟨rfl, q6, rfl⟩
                  go_wp2_with fail
                  refine (his8 _ (H5.out.1.drewN q6)).mono ?_
                  rintro e w6 ⟨rfl, q7, rfl⟩
                  have H6 := Lib.hid (show Rb ((w5.drewN q6).drewN q7) R s (k + n) ∧ Onl R w ((w5.drewN q6).drewN q7) ∧ ((w5.drewN q6).drewN q7).ownsRow w.heap.size 84 2 u4 acc.length (rFlat acc) from ⟨H5.out.1, (H5.out.2.1.drewN q6).drewN q7, H5.out.2.2⟩)
                  clear H5 his7 his8 hszw
                  generalize (w5.drewN q6).drewN q7 = w6 at *
                  have HI2 := Lib.hid (Rs.item_two (first := decide (k = k0)) HN.out HD.out HP.out HQ.out)
                  have c6 := H6.out.1.c1
                  have f6 := H6.out.1.f1
                  have rb8 : Rb (w6.setCell ⟨R, 1, none⟩ (.int .i64 ((k : Int) + (n : Int) + 1))) R s (k + n + 1) := by have := H6.out.1.set (k + n + 1); rwa [show (((k + n + 1 : Nat)) : Int) = (k : Int) + (n : Int) + 1 by omega] at this
                  have o8 : Onl R w (w6.setCell ⟨R, 1, none⟩ (.int .i64 ((k : Int) + (n : Int) + 1))) := H6.out.2.1.set _ rfl _
                  have r8 : (w6.setCell ⟨R, 1, none⟩ (.int .i64 ((k : Int) + (n : Int) + 1))).ownsRow w.heap.size 84 2 u4 acc.length (rFlat acc) := row_set H6.out.2.2 HL.out.2 _
                  have H8 := Lib.hid (show _ ∧ _ ∧ _ from ⟨rb8, o8, r8⟩)
                  clear rb8 o8 r8 H6
                  go_wp2_with fail
                  clear c6 f6
                  generalize w6.setCell ⟨R, 1, none⟩ (.int .i64 ((k : Int) + (n : Int) + 1)) = w8 at *
                  refine (point_calls' R s (k + n + 1) w8 H8.out.1 hk45 hs' hR (H8.out.2.1.lv hR HL.out.1)).mono ?_
                  rintro e w9 ⟨pv, pb, k9, rfl, rb9, hk9, onl9, hm9⟩
                  rw [show s.data.toList.drop (k + n + 1) = t.drop (n + 1) by rw [← HT.out, List.drop_drop]; rfl] at hm9
                  have hi2 := HI2.out
                  clear HI2
                  cases hP2 : Rs.partS (t.drop (n + 1)) with
                  | none =>
                    rw [hP2] at hm9 hi2
                    dsimp only at hm9 hi2
                    subst hm9
                    have FIN := Lib.hid (ItPost.no (H8.out.2.1.trans onl9) (H4.out.fail HC.out (by rw [HT.out]; exact hi2)))
                    clear hi2 hP2 rb9 onl9
                    go_wp2
                    go_ret2
                    exact FIN.out
                  | some r2 =>
                    obtain ⟨b, m⟩ := r2
                    have hok2 := Rs.partS_ok hP2
                    rw [hP2] at hm9 hi2
                    dsimp only at hm9 hi2
                    obtain ⟨rfl, hpv, hk9e⟩ := hm9
                    subst hk9e
                    have hpv' := hpv.symm
                    subst hpv'
                    have hbp := (Rs.pt_iff _).1 hok2.1
                    by_cases hba : b < a
                    · rw [if_pos hba] at hi2
                      have FIN := Lib.hid (ItPost.no (H8.out.2.1.trans onl9) (H4.out.fail HC.out (by rw [HT.out]; exact hi2)))
                      clear hi2 hP2 rb9 onl9 hok2
                      go_wp2
                      go_ret2
                      exact FIN.out
                    · rw [if_neg hba] at hi2
                      have hm1 := hok2.2.1
                      have HKN : Hid (k + (n + 1 + m) ≤ s.size) := Lib.hid (by omega)
                      have hab : a ≤ b := by omega
                      have hb1m : b ≤ 1114111 := by omega
                      have HI := Lib.hid (show Rs.itemS (s.data.toList.drop k) (decide (k = k0)) = some ([(a, b)], n + 1 + m) from by rw [HT.out]; exact hi2)
                      have HG : Hid (∀ q ∈ [((a, b) : Rs.R)], Rs.rg q) := Lib.hid (fun q hq => by simp at hq; subst hq; exact ⟨by simp only; omega, by simp only; omega, by simp only; omega⟩)
                      have H6 := Lib.hid (show Rb w9 R s (k + (n + 1 + m)) ∧ Onl R w w9 ∧ w9.ownsRow w.heap.size 84 2 u4 acc.length (rFlat acc) from ⟨by rw [show k + (n + 1 + m) = k + n + 1 + m by omega]; exact rb9, H8.out.2.1.trans onl9, row_onl H8.out.2.2 onl9 HL.out.2⟩)
                      have hsz6 : w.heap.size ≤ w9.heap.size := H6.out.2.1.size
                      clear hi2 hP2 rb9 onl9 hok2 H8
                      go_wp2_with (at_builtin; refine wpList_append_R rfl _ _ 24 84 rfl Tryz.underlying24 Tryz.info84 w.heap.size u4 acc.length (rFlat acc) rfl (H6.out.2.2.alloc _) (some ⟨w9.heap.size, 0, none⟩) [(a, b)] 1 rfl (Sl.alloc_new w9 [(a, b)] _) (by simp; omega) (by simp; omega) ?_; intro v7 w7 hrow7 _ hbl7;
                                                                              have hB7 : Below w.heap.size (w9.alloc (.cells (rFlat [(a, b)]).toArray 84)) w7 := hbl7 _ (Below.refl _ _);
                                                                              have H7 := Lib.hid (show _ ∧ _ from ⟨hrow7, hB7⟩);
                                                                              clear hrow7 hbl7 hB7)
                      refine ⟨⟨_, _, H4.out.next HC.out HI.out (by omega) HKN.out (by simp) HG.out (Rb7 HL.out.2 H6.out.1 H7.out.2) ((H6.out.2.1.trans (Onl.of ((Below.refl _ _).alloc (Nat.le_refl _) _))).below H7.out.2) H7.out.1⟩, by rw [atOf_rb (Rb7 HL.out.2 H6.out.1 H7.out.2)]; omega⟩
              · have his7 := fun W hW => is1 45 (by decide) R s (k + n) W hW hk5 hs' false (by rw [hbn]; simpa using hq)
                have HQ : Hid (¬ (Rs.bt t n = 45 ∧ Rs.bt t (n + 1) ≠ 93)) := Lib.hid (fun e => hq e.1)
                clear hq hbn hbn1
                go_wp2_with fail
                refine (his7 _ H5.out.1).mono ?_
                rintro e w6 ⟨rfl, q6, rfl⟩
                have H6 := Lib.hid (show Rb (w5.drewN q6) R s (k + n) ∧ Onl R w (w5.drewN q6) ∧ (w5.drewN q6).ownsRow w.heap.size 84 2 u4 acc.length (rFlat acc) from ⟨H5.out.1, H5.out.2.1.drewN q6, H5.out.2.2⟩)
                have hsz6 : w.heap.size ≤ (w5.drewN q6).heap.size := hszw
                clear H5 his7 hszw
                generalize w5.drewN q6 = w6 at *
                have HKN := HK1
                have HG := HG1
                have HI := Lib.hid (show Rs.itemS (s.data.toList.drop k) (decide (k = k0)) = some ([(a, a)], n) from by rw [HT.out]; exact Rs.item_one HN.out HD.out HP.out HQ.out)
                clear HQ
                go_wp2_with (at_builtin; refine wpList_append_R rfl _ _ 24 84 rfl Tryz.underlying24 Tryz.info84 w.heap.size u4 acc.length (rFlat acc) rfl (H6.out.2.2.alloc _) (some ⟨w6.heap.size, 0, none⟩) [(a, a)] 1 rfl (Sl.alloc_new w6 [(a, a)] _) (by simp; omega) (by simp; omega) ?_; intro v7 w7 hrow7 _ hbl7;
                                                                            have hB7 : Below w.heap.size (w6.alloc (.cells (rFlat [(a, a)]).toArray 84)) w7 := hbl7 _ (Below.refl _ _);
                                                                            have H7 := Lib.hid (show _ ∧ _ from ⟨hrow7, hB7⟩);
                                                                            clear hrow7 hbl7 hB7)
                refine ⟨⟨_, _, H4.out.next HC.out HI.out (by omega) HKN.out (by simp) HG.out (Rb7 HL.out.2 H6.out.1 H7.out.2) ((H6.out.2.1.trans (Onl.of ((Below.refl _ _).alloc (Nat.le_refl _) _))).below H7.out.2) H7.out.1⟩, by rw [atOf_rb (Rb7 HL.out.2 H6.out.1 H7.out.2)]; omega⟩

      · have c1 := hrel.rb.c1
        have hne : ((k : Int) == (k0 : Int)) = false := by simp; omega
        have his := is1 93 (by decide) R s k wr hrel.rb hks hs' false (by rw [ht]; simp; exact fun e => hd ⟨hfi, e⟩)
        have HF := Lib.hid (show (decide (k = k0) = false) ∧ ¬ (k = k0) from ⟨by simpa using hfi, hfi⟩)
        have H0 := Lib.hid hrel
        clear hrel hd ht c1 hfi
        have c1 := H0.out.rb.c1
        go_wp2_with fail
        refine his.mono ?_
        rintro e w1 ⟨rfl, q, rfl⟩
        clear his
        have H1 := Lib.hid (H0.out.drewN q)
        clear c1 H0
        go_wp2_with fail
        generalize wr.drewN q = w1 at *
        have c0 := H1.out.rb.c0
        have c1 := H1.out.rb.c1
        by_cases h92 : Rs.bt t 0 = 92
        · have his5 := fun W hW => is1 92 (by decide) R s k W hW hks hs' true (by rw [HT.out, h92]; rfl)
          have H45 : Hid (decide (Rs.bt t 0 = ((45 : UInt8).toNat : Int)) = false) := Lib.hid (by rw [h92]; rfl)
          have HD : Hid (¬ (Rs.bt t 0 = 45 ∧ (decide (k = k0) = true ∨ Rs.bt t 1 = 93))) := Lib.hid (fun e => by rw [h92] at e; omega)
          by_cases h2 : k + 1 < s.size
          · have h2' : (k : Int) + 1 < (s.size : Int) := by omega
            have hidx : (((s[k + 1]'h2).toNat : Int)) = Rs.bt t 1 := by rw [bt_ext h2, HT.out]
            have H92 := Lib.hid h92
            have hlen2 : 1 < t.length := by rw [← HT.out, List.length_drop, ← Lib.size_eq]; omega
            obtain ⟨b1, hb1⟩ : ∃ b1, Rs.bt t 1 = b1 := ⟨_, rfl⟩
            rw [hb1] at hidx
            have hnam := fun W => named_calls b1 W
            have HB1 := Lib.hid hb1
            have HL2 := Lib.hid hlen2
            clear h92 hb1 hlen2
            go_big_quiet ((go_at_call 167; exact Calls.quiet_of (his5 _ (H1.out.rb.drewN _))))
            have H2 := Lib.hid (H1.out.drewN nq)
            clear c0 c1 H1 his5
            go_wp2_with fail
            generalize w1.drewN nq = w2 at *
            have c0 := H2.out.rb.c0
            have c1 := H2.out.rb.c1
            have hw1 : IntKind.i64.wrap ((k : Int) + 1) = (k : Int) + 1 := by rw [IntKind.wrap_i64]; omega
            have hw2 : 0 ≤ (k : Int) + 1 := by omega
            have hw3 : ((k : Int) + 1).toNat = k + 1 := by omega
            go_region_held3 (fun w' : World => w'.cell? ⟨R, 0, none⟩ = some (.string s) ∧ w'.cell? ⟨R, 1, none⟩ = some (.int .i64 (k : Int))) (first | go_keep | exact ⟨(hb2.cell (p := ⟨R, 0, none⟩) H2.out.rb.lt).trans H2.out.rb.c0, (hb2.cell (p := ⟨R, 1, none⟩) H2.out.rb.lt).trans H2.out.rb.c1⟩) (first | (go_at_call 137; refine (hnam _).mono ?_; rintro e w3 ⟨v3, rfl, hown3, hb2⟩))
            clear hw1 hw2 hw3
            have H3 := Lib.hid (H2.out.below ((Below.drew (Below.refl _ _)).trans hb2))
            clear c0 c1 hnam hidx
            have c1 := H3.out.rb.c1
            cases hB : Rs.namedB b1
            · have HN : Hid (¬ (Rs.bt t 0 = 92 ∧ 1 < t.length ∧ Rs.namedB (Rs.bt t 1) = true)) := Lib.hid (fun e => by rw [HB1.out, hB] at e; simp at e)
              clear hB hown3 hb2 H2 h2'
              rename_i hh
              clear hh
              have his6 := is1 45 (by decide) R s k w3 H3.out.rb hks hs' false (by rw [HT.out]; exact H45.out)
              go_wp2_with fail
              refine his6.mono ?_
              rintro e w4 ⟨rfl, q4, rfl⟩
              clear his6
              have H4 := Lib.hid (H3.out.drewN q4)
              clear c1 H3
              go_wp2_with fail
              generalize w3.drewN q4 = w4 at *
              refine (point_calls' R s k w4 H4.out.rb hks hs' hR (H4.out.onl.lv hR HL.out.1)).mono ?_
              rintro e w5 ⟨pv, pb, k5, rfl, rb5, hk5, onl5, hm⟩
              rw [HT.out] at hm
              cases hP : Rs.partS t with
              | none =>
                rw [hP] at hm
                dsimp only at hm
                subst hm
                have FIN := Lib.hid (ItPost.no (H4.out.onl.trans onl5) (H4.out.fail HC.out (by rw [HT.out]; exact Rs.item_none HN.out HD.out hP)))
                clear hP rb5 onl5
                go_wp2
                go_ret2
                exact FIN.out
              | some r =>
                obtain ⟨a, n⟩ := r
                have hok := Rs.partS_ok hP
                have HP := Lib.hid hP
                rw [hP] at hm
                dsimp only at hm
                obtain ⟨rfl, hpv, hk5e⟩ := hm
                subst hk5e
                have hpv' := hpv.symm
                subst hpv'
                have hap := (Rs.pt_iff _).1 hok.1
                have hn1 := hok.2.1
                have ha0 : 0 ≤ a := by omega
                have ha1 : a ≤ 1114111 := by omega
                have hlk : acc.length ≤ 8 * k := H4.out.len
                have hszw : w.heap.size ≤ w5.heap.size := Nat.le_trans H4.out.onl.size onl5.size
                have HG1 : Hid (∀ q ∈ [((a, a) : Rs.R)], Rs.rg q) := Lib.hid (fun q hq => by simp at hq; subst hq; exact ⟨by simp only; omega, by simp only; omega, by simp only; omega⟩)
                have HK1 : Hid (k + n ≤ s.size) := Lib.hid hk5
                have H5 := Lib.hid (show Rb w5 R s (k + n) ∧ Onl R w w5 ∧ w5.ownsRow w.heap.size 84 2 u4 acc.length (rFlat acc) from ⟨rb5, H4.out.onl.trans onl5, row_onl H4.out.row onl5 HL.out.2⟩)
                have hbn : Rs.bt (s.data.toList.drop (k + n)) 0 = Rs.bt t n := by rw [← HT.out, Rs.bt_drop, Rs.bt_drop]; rfl
                have hbn1 : Rs.bt (s.data.toList.drop (k + n)) 1 = Rs.bt t (n + 1) := by rw [← HT.out, Rs.bt_drop, Rs.bt_drop]; rfl
                clear hP rb5 onl5 hok hap
                by_cases hq : Rs.bt t n = 45
                · have hk45 : k + n + 1 ≤ s.size := by
                    rw [← hbn, Rs.bt_drop] at hq
                    rcases Nat.lt_or_ge (k + n) s.size with h2 | h2
                    · omega
                    · rw [Rs.bt_ge (by rw [← Lib.size_eq]; omega)] at hq; omega
                  have his7 := fun W hW => is1 45 (by decide) R s (k + n) W hW hk5 hs' true (by rw [hbn, hq]; rfl)
                  by_cases hq2 : Rs.bt t (n + 1) = 93
                  · have his8 := fun W hW => is2 45 93 (by decide) (by decide) R s (k + n) W hW hk5 hs' true (by rw [hbn, hbn1, hq, hq2]; rfl)
                    have HQ : Hid (¬ (Rs.bt t n = 45 ∧ Rs.bt t (n + 1) ≠ 93)) := Lib.hid (fun e => e.2 hq2)
                    clear hq hq2 hbn hbn1
                    go_wp2_with fail
                    refine (his7 _ H5.out.1).mono ?_
                    rintro e w6 ⟨rfl, q6, rfl⟩
                    go_wp2_with fail
                    refine (his8 _ (H5.out.1.drewN q6)).mono ?_
                    rintro e w6 ⟨rfl, q7, rfl⟩
                    have H6 := Lib.hid (show Rb ((w5.drewN q6).drewN q7) R s (k + n) ∧ Onl R w ((w5.drewN q6).drewN q7) ∧ ((w5.drewN q6).drewN q7).ownsRow w.heap.size 84 2 u4 acc.length (rFlat acc) from ⟨H5.out.1, (H5.out.2.1.drewN q6).drewN q7, H5.out.2.2⟩)
                    have hsz6 : w.heap.size ≤ ((w5.drewN q6).drewN q7).heap.size := hszw
                    clear H5 his7 his8 hszw
                    generalize (w5.drewN q6).drewN q7 = w6 at *
                    have HKN := HK1
                    have HG := HG1
                    have HI := Lib.hid (show Rs.itemS (s.data.toList.drop k) (decide (k = k0)) = some ([(a, a)], n) from by rw [HT.out]; exact Rs.item_one HN.out HD.out HP.out HQ.out)
                    clear HQ
                    go_wp2_with (at_builtin; refine wpList_append_R rfl _ _ 24 84 rfl Tryz.underlying24 Tryz.info84 w.heap.size u4 acc.length (rFlat acc) rfl (H6.out.2.2.alloc _) (some ⟨w6.heap.size, 0, none⟩) [(a, a)] 1 rfl (Sl.alloc_new w6 [(a, a)] _) (by simp; omega) (by simp; omega) ?_; intro v7 w7 hrow7 _ hbl7;
                                                                                have hB7 : Below w.heap.size (w6.alloc (.cells (rFlat [(a, a)]).toArray 84)) w7 := hbl7 _ (Below.refl _ _);
                                                                                have H7 := Lib.hid (show _ ∧ _ from ⟨hrow7, hB7⟩);
                                                                                clear hrow7 hbl7 hB7)
                    refine ⟨⟨_, _, H4.out.next HC.out HI.out (by omega) HKN.out (by simp) HG.out (Rb7 HL.out.2 H6.out.1 H7.out.2) ((H6.out.2.1.trans (Onl.of ((Below.refl _ _).alloc (Nat.le_refl _) _))).below H7.out.2) H7.out.1⟩, by rw [atOf_rb (Rb7 HL.out.2 H6.out.1 H7.out.2)]; omega⟩
                  · have his8 := fun W hW => is2 45 93 (by decide) (by decide) R s (k + n) W hW hk5 hs' false (by rw [hbn, hbn1, hq]; simpa using hq2)
                    have HQ : Hid (Rs.bt t n = 45 ∧ Rs.bt t (n + 1) ≠ 93) := Lib.hid ⟨hq, hq2⟩
                    clear hq hq2 hbn hbn1
                    go_wp2_with fail
                    refine (his7 _ H5.out.1).mono ?_
                    rintro e w6 ⟨rfl, q6, rfl⟩
                    go_wp2_with fail
                    refine (his8 _ (H5.out.1.drewN q6)).mono ?_
                    rintro e w6 ⟨rfl, q7, rfl⟩
                    have H6 := Lib.hid (show Rb ((w5.drewN q6).drewN q7) R s (k + n) ∧ Onl R w ((w5.drewN q6).drewN q7) ∧ ((w5.drewN q6).drewN q7).ownsRow w.heap.size 84 2 u4 acc.length (rFlat acc) from ⟨H5.out.1, (H5.out.2.1.drewN q6).drewN q7, H5.out.2.2⟩)
                    clear H5 his7 his8 hszw
                    generalize (w5.drewN q6).drewN q7 = w6 at *
                    have HI2 := Lib.hid (Rs.item_two (first := decide (k = k0)) HN.out HD.out HP.out HQ.out)
                    have c6 := H6.out.1.c1
                    have f6 := H6.out.1.f1
                    have rb8 : Rb (w6.setCell ⟨R, 1, none⟩ (.int .i64 ((k : Int) + (n : Int) + 1))) R s (k + n + 1) := by have := H6.out.1.set (k + n + 1); rwa [show (((k + n + 1 : Nat)) : Int) = (k : Int) + (n : Int) + 1 by omega] at this
                    have o8 : Onl R w (w6.setCell ⟨R, 1, none⟩ (.int .i64 ((k : Int) + (n : Int) + 1))) := H6.out.2.1.set _ rfl _
                    have r8 : (w6.setCell ⟨R, 1, none⟩ (.int .i64 ((k : Int) + (n : Int) + 1))).ownsRow w.heap.size 84 2 u4 acc.length (rFlat acc) := row_set H6.out.2.2 HL.out.2 _
                    have H8 := Lib.hid (show _ ∧ _ ∧ _ from ⟨rb8, o8, r8⟩)
                    clear rb8 o8 r8 H6
                    go_wp2_with fail
                    clear c6 f6
                    generalize w6.setCell ⟨R, 1, none⟩ (.int .i64 ((k : Int) + (n : Int) + 1)) = w8 at *
                    refine (point_calls' R s (k + n + 1) w8 H8.out.1 hk45 hs' hR (H8.out.2.1.lv hR HL.out.1)).mono ?_
                    rintro e w9 ⟨pv, pb, k9, rfl, rb9, hk9, onl9, hm9⟩
                    rw [show s.data.toList.drop (k + n + 1) = t.drop (n + 1) by rw [← HT.out, List.drop_drop]; rfl] at hm9
                    have hi2 := HI2.out
                    clear HI2
                    cases hP2 : Rs.partS (t.drop (n + 1)) with
                    | none =>
                      rw [hP2] at hm9 hi2
                      dsimp only at hm9 hi2
                      subst hm9
                      have FIN := Lib.hid (ItPost.no (H8.out.2.1.trans onl9) (H4.out.fail HC.out (by rw [HT.out]; exact hi2)))
                      clear hi2 hP2 rb9 onl9
                      go_wp2
                      go_ret2
                      exact FIN.out
                    | some r2 =>
                      obtain ⟨b, m⟩ := r2
                      have hok2 := Rs.partS_ok hP2
                      rw [hP2] at hm9 hi2
                      dsimp only at hm9 hi2
                      obtain ⟨rfl, hpv, hk9e⟩ := hm9
                      subst hk9e
                      have hpv' := hpv.symm
                      subst hpv'
                      have hbp := (Rs.pt_iff _).1 hok2.1
                      by_cases hba : b < a
                      · rw [if_pos hba] at hi2
                        have FIN := Lib.hid (ItPost.no (H8.out.2.1.trans onl9) (H4.out.fail HC.out (by rw [HT.out]; exact hi2)))
                        clear hi2 hP2 rb9 onl9 hok2
                        go_wp2
                        go_ret2
                        exact FIN.out
                      · rw [if_neg hba] at hi2
                        have hm1 := hok2.2.1
                        have HKN : Hid (k + (n + 1 + m) ≤ s.size) := Lib.hid (by omega)
                        have hab : a ≤ b := by omega
                        have hb1m : b ≤ 1114111 := by omega
                        have HI := Lib.hid (show Rs.itemS (s.data.toList.drop k) (decide (k = k0)) = some ([(a, b)], n + 1 + m) from by rw [HT.out]; exact hi2)
                        have HG : Hid (∀ q ∈ [((a, b) : Rs.R)], Rs.rg q) := Lib.hid (fun q hq => by simp at hq; subst hq; exact ⟨by simp only; omega, by simp only; omega, by simp only; omega⟩)
                        have H6 := Lib.hid (show Rb w9 R s (k + (n + 1 + m)) ∧ Onl R w w9 ∧ w9.ownsRow w.heap.size 84 2 u4 acc.length (rFlat acc) from ⟨by rw [show k + (n + 1 + m) = k + n + 1 + m by omega]; exact rb9, H8.out.2.1.trans onl9, row_onl H8.out.2.2 onl9 HL.out.2⟩)
                        have hsz6 : w.heap.size ≤ w9.heap.size := H6.out.2.1.size
                        clear hi2 hP2 rb9 onl9 hok2 H8
                        go_wp2_with (at_builtin; refine wpList_append_R rfl _ _ 24 84 rfl Tryz.underlying24 Tryz.info84 w.heap.size u4 acc.length (rFlat acc) rfl (H6.out.2.2.alloc _) (some ⟨w9.heap.size, 0, none⟩) [(a, b)] 1 rfl (Sl.alloc_new w9 [(a, b)] _) (by simp; omega) (by simp; omega) ?_; intro v7 w7 hrow7 _ hbl7;
                                                                                have hB7 : Below w.heap.size (w9.alloc (.cells (rFlat [(a, b)]).toArray 84)) w7 := hbl7 _ (Below.refl _ _);
                                                                                have H7 := Lib.hid (show _ ∧ _ from ⟨hrow7, hB7⟩);
                                                                                clear hrow7 hbl7 hB7)
                        refine ⟨⟨_, _, H4.out.next HC.out HI.out (by omega) HKN.out (by simp) HG.out (Rb7 HL.out.2 H6.out.1 H7.out.2) ((H6.out.2.1.trans (Onl.of ((Below.refl _ _).alloc (Nat.le_refl _) _))).below H7.out.2) H7.out.1⟩, by rw [atOf_rb (Rb7 HL.out.2 H6.out.1 H7.out.2)]; omega⟩
                · have his7 := fun W hW => is1 45 (by decide) R s (k + n) W hW hk5 hs' false (by rw [hbn]; simpa using hq)
                  have HQ : Hid (¬ (Rs.bt t n = 45 ∧ Rs.bt t (n + 1) ≠ 93)) := Lib.hid (fun e => hq e.1)
                  clear hq hbn hbn1
                  go_wp2_with fail
                  refine (his7 _ H5.out.1).mono ?_
                  rintro e w6 ⟨rfl, q6, rfl⟩
                  have H6 := Lib.hid (show Rb (w5.drewN q6) R s (k + n) ∧ Onl R w (w5.drewN q6) ∧ (w5.drewN q6).ownsRow w.heap.size 84 2 u4 acc.length (rFlat acc) from ⟨H5.out.1, H5.out.2.1.drewN q6, H5.out.2.2⟩)
                  have hsz6 : w.heap.size ≤ (w5.drewN q6).heap.size := hszw
                  clear H5 his7 hszw
                  generalize w5.drewN q6 = w6 at *
                  have HKN := HK1
                  have HG := HG1
                  have HI := Lib.hid (show Rs.itemS (s.data.toList.drop k) (decide (k = k0)) = some ([(a, a)], n) from by rw [HT.out]; exact Rs.item_one HN.out HD.out HP.out HQ.out)
                  clear HQ
                  go_wp2_with (at_builtin; refine wpList_append_R rfl _ _ 24 84 rfl Tryz.underlying24 Tryz.info84 w.heap.size u4 acc.length (rFlat acc) rfl (H6.out.2.2.alloc _) (some ⟨w6.heap.size, 0, none⟩) [(a, a)] 1 rfl (Sl.alloc_new w6 [(a, a)] _) (by simp; omega) (by simp; omega) ?_; intro v7 w7 hrow7 _ hbl7;
                                                                              have hB7 : Below w.heap.size (w6.alloc (.cells (rFlat [(a, a)]).toArray 84)) w7 := hbl7 _ (Below.refl _ _);
                                                                              have H7 := Lib.hid (show _ ∧ _ from ⟨hrow7, hB7⟩);
                                                                              clear hrow7 hbl7 hB7)
                  refine ⟨⟨_, _, H4.out.next HC.out HI.out (by omega) HKN.out (by simp) HG.out (Rb7 HL.out.2 H6.out.1 H7.out.2) ((H6.out.2.1.trans (Onl.of ((Below.refl _ _).alloc (Nat.le_refl _) _))).below H7.out.2) H7.out.1⟩, by rw [atOf_rb (Rb7 HL.out.2 H6.out.1 H7.out.2)]; omega⟩
            · have HI := Lib.hid (show Rs.itemS (s.data.toList.drop k) (decide (k = k0)) = some (Rs.namedS b1, 2) from by rw [HT.out, ← HB1.out]; exact Rs.item_named H92.out HL2.out (by rw [HB1.out]; exact hB))
              have hnr := Rs.namedS_rg b1
              obtain ⟨a3, c3, rfl, _, hs3⟩ := Sl.of_own hown3
              have hacc := H3.out.len
              have HS3 := Lib.hid (show _ ∧ _ from ⟨hs3, hnr⟩)
              have hnl := hnr.2
              clear hs3 hnr hown3 hb2 H2 H45
              have hbase : w.heap.size ≤ w3.heap.size := H3.out.onl.size
              have HLt := HL.out.2
              go_wp2_with (at_builtin; refine wpList_append_R rfl _ _ 24 84 rfl Tryz.underlying24 Tryz.info84 w.heap.size u4 acc.length (rFlat acc) rfl H3.out.row a3 (Rs.namedS b1) c3 rfl HS3.out.1 (by omega) hbase ?_; intro v4 w4 hrow4 _ hbl4;
                                                                              have hB4 : Below w.heap.size w3 w4 := hbl4 w3 (Below.refl _ _);
                                                                              have rb4 : Rb w4 R s k := (hB4.block R HLt).trans H3.out.rb;
                                                                              have H4 := Lib.hid (show _ ∧ _ ∧ _ from ⟨hrow4, hB4, rb4⟩);
                                                                              have d1 := rb4.c1;
                                                                              have g1 := rb4.f1;
                                                                              clear hrow4 hbl4 hB4 rb4 c1)
              have hk2 : k + 2 ≤ s.size := by omega
              have rb5 : Rb (w4.setCell ⟨R, 1, none⟩ (.int .i64 ((k : Int) + 2))) R s (k + 2) := by have := H4.out.2.2.set (k + 2); rwa [Int.natCast_add] at this
              refine ⟨⟨k + 2, _, H3.out.next HC.out HI.out (by omega) hk2 HS3.out.2.2 HS3.out.2.1 rb5 ((H3.out.onl.below H4.out.2.1).set _ rfl _) (row_set H4.out.1 HLt _)⟩, by rw [atOf_rb rb5]; omega⟩
          · have hx : decide ((k : Int) + 1 < (s.size : Int)) = false := by simp; omega
            have hx2 : ¬ (k : Int) + 1 < (s.size : Int) := by omega
            have HN : Hid (¬ (Rs.bt t 0 = 92 ∧ 1 < t.length ∧ Rs.namedB (Rs.bt t 1) = true)) := Lib.hid (fun e => by have := e.2.1; rw [← HT.out, List.length_drop, ← Lib.size_eq] at this; omega)
            clear h92
            go_big_quiet ((go_at_call 167; exact Calls.quiet_of (his5 _ (H1.out.rb.drewN _))))
            have H3 := Lib.hid (H1.out.drewN nq)
            clear c0 c1 H1 his5 hx hx2
            generalize w1.drewN nq = w3 at *
            have c1 := H3.out.rb.c1
            have his6 := is1 45 (by decide) R s k w3 H3.out.rb hks hs' false (by rw [HT.out]; exact H45.out)
            go_wp2_with fail
            refine his6.mono ?_
            rintro e w4 ⟨rfl, q4, rfl⟩
            clear his6
            have H4 := Lib.hid (H3.out.drewN q4)
            clear c1 H3
            go_wp2_with fail
            generalize w3.drewN q4 = w4 at *
            refine (point_calls' R s k w4 H4.out.rb hks hs' hR (H4.out.onl.lv hR HL.out.1)).mono ?_
            rintro e w5 ⟨pv, pb, k5, rfl, rb5, hk5, onl5, hm⟩
            rw [HT.out] at hm
            cases hP : Rs.partS t with
            | none =>
              rw [hP] at hm
              dsimp only at hm
              subst hm
              have FIN := Lib.hid (ItPost.no (H4.out.onl.trans onl5) (H4.out.fail HC.out (by rw [HT.out]; exact Rs.item_none HN.out HD.out hP)))
              clear hP rb5 onl5
              go_wp2
              go_ret2
              exact FIN.out
            | some r =>
              obtain ⟨a, n⟩ := r
              have hok := Rs.partS_ok hP
              have HP := Lib.hid hP
              rw [hP] at hm
              dsimp only at hm
              obtain ⟨rfl, hpv, hk5e⟩ := hm
              subst hk5e
              have hpv' := hpv.symm
              subst hpv'
              have hap := (Rs.pt_iff _).1 hok.1
              have hn1 := hok.2.1
              have ha0 : 0 ≤ a := by omega
              have ha1 : a ≤ 1114111 := by omega
              have hlk : acc.length ≤ 8 * k := H4.out.len
              have hszw : w.heap.size ≤ w5.heap.size := Nat.le_trans H4.out.onl.size onl5.size
              have HG1 : Hid (∀ q ∈ [((a, a) : Rs.R)], Rs.rg q) := Lib.hid (fun q hq => by simp at hq; subst hq; exact ⟨by simp only; omega, by simp only; omega, by simp only; omega⟩)
              have HK1 : Hid (k + n ≤ s.size) := Lib.hid hk5
              have H5 := Lib.hid (show Rb w5 R s (k + n) ∧ Onl R w w5 ∧ w5.ownsRow w.heap.size 84 2 u4 acc.length (rFlat acc) from ⟨rb5, H4.out.onl.trans onl5, row_onl H4.out.row onl5 HL.out.2⟩)
              have hbn : Rs.bt (s.data.toList.drop (k + n)) 0 = Rs.bt t n := by rw [← HT.out, Rs.bt_drop, Rs.bt_drop]; rfl
              have hbn1 : Rs.bt (s.data.toList.drop (k + n)) 1 = Rs.bt t (n + 1) := by rw [← HT.out, Rs.bt_drop, Rs.bt_drop]; rfl
              clear hP rb5 onl5 hok hap
              by_cases hq : Rs.bt t n = 45
              · have hk45 : k + n + 1 ≤ s.size := by
                  rw [← hbn, Rs.bt_drop] at hq
                  rcases Nat.lt_or_ge (k + n) s.size with h2 | h2
                  · omega
                  · rw [Rs.bt_ge (by rw [← Lib.size_eq]; omega)] at hq; omega
                exfalso; omega
              · have his7 := fun W hW => is1 45 (by decide) R s (k + n) W hW hk5 hs' false (by rw [hbn]; simpa using hq)
                have HQ : Hid (¬ (Rs.bt t n = 45 ∧ Rs.bt t (n + 1) ≠ 93)) := Lib.hid (fun e => hq e.1)
                clear hq hbn hbn1
                go_wp2_with fail
                refine (his7 _ H5.out.1).mono ?_
                rintro e w6 ⟨rfl, q6, rfl⟩
                have H6 := Lib.hid (show Rb (w5.drewN q6) R s (k + n) ∧ Onl R w (w5.drewN q6) ∧ (w5.drewN q6).ownsRow w.heap.size 84 2 u4 acc.length (rFlat acc) from ⟨H5.out.1, H5.out.2.1.drewN q6, H5.out.2.2⟩)
                have hsz6 : w.heap.size ≤ (w5.drewN q6).heap.size := hszw
                clear H5 his7 hszw
                generalize w5.drewN q6 = w6 at *
                have HKN := HK1
                have HG := HG1
                have HI := Lib.hid (show Rs.itemS (s.data.toList.drop k) (decide (k = k0)) = some ([(a, a)], n) from by rw [HT.out]; exact Rs.item_one HN.out HD.out HP.out HQ.out)
                clear HQ
                go_wp2_with (at_builtin; refine wpList_append_R rfl _ _ 24 84 rfl Tryz.underlying24 Tryz.info84 w.heap.size u4 acc.length (rFlat acc) rfl (H6.out.2.2.alloc _) (some ⟨w6.heap.size, 0, none⟩) [(a, a)] 1 rfl (Sl.alloc_new w6 [(a, a)] _) (by simp; omega) (by simp; omega) ?_; intro v7 w7 hrow7 _ hbl7;
                                                                            have hB7 : Below w.heap.size (w6.alloc (.cells (rFlat [(a, a)]).toArray 84)) w7 := hbl7 _ (Below.refl _ _);
                                                                            have H7 := Lib.hid (show _ ∧ _ from ⟨hrow7, hB7⟩);
                                                                            clear hrow7 hbl7 hB7)
                refine ⟨⟨_, _, H4.out.next HC.out HI.out (by omega) HKN.out (by simp) HG.out (Rb7 HL.out.2 H6.out.1 H7.out.2) ((H6.out.2.1.trans (Onl.of ((Below.refl _ _).alloc (Nat.le_refl _) _))).below H7.out.2) H7.out.1⟩, by rw [atOf_rb (Rb7 HL.out.2 H6.out.1 H7.out.2)]; omega⟩
        · have his5 := fun W hW => is1 92 (by decide) R s k W hW hks hs' false (by rw [HT.out]; simpa using h92)
          have HN : Hid (¬ (Rs.bt t 0 = 92 ∧ 1 < t.length ∧ Rs.namedB (Rs.bt t 1) = true)) := Lib.hid (fun e => h92 e.1)
          clear h92
          go_big_quiet ((go_at_call 167; exact Calls.quiet_of (his5 _ (H1.out.rb.drewN _))))
          have H3 := Lib.hid (H1.out.drewN nq)
          clear c0 c1 H1 his5
          generalize w1.drewN nq = w3 at *
          have c1 := H3.out.rb.c1
          by_cases h45 : Rs.bt t 0 = 45
          · have hk1 : k + 1 ≤ s.size := by
              rw [← HT.out, Rs.bt_drop] at h45
              rcases Nat.lt_or_ge k s.size with h2 | h2
              · omega
              · rw [Rs.bt_ge (by rw [← Lib.size_eq]; omega)] at h45; omega
            have his6 := is1 45 (by decide) R s k w3 H3.out.rb hks hs' true (by rw [HT.out, h45]; rfl)
            have HG : Hid (∀ q ∈ [((45, 45) : Rs.R)], Rs.rg q) := Lib.hid (fun q hq => by simp at hq; subst hq; exact ⟨by decide, by decide, by decide⟩)
            by_cases h93 : Rs.bt t 1 = 93
            · have HI := Lib.hid (show Rs.itemS (s.data.toList.drop k) (decide (k = k0)) = some ([(45, 45)], 1) from by rw [HT.out]; exact Rs.item_dash h45 (.inr h93))
              have his7 := fun W hW => is2 45 93 (by decide) (by decide) R s k W hW hks hs' true (by rw [HT.out, h45, h93]; rfl)
              clear h45 h93
              go_wp2_with fail
              refine his6.mono ?_
              rintro e w4 ⟨rfl, q4, rfl⟩
              go_wp2_with fail
              refine (his7 _ (H3.out.rb.drewN q4)).mono ?_
              rintro e w4 ⟨rfl, q5, rfl⟩
              have H4 := Lib.hid ((H3.out.drewN q4).drewN q5)
              clear c1 H3 his6 his7
              have c1 := H4.out.rb.c1
              generalize (w3.drewN q4).drewN q5 = w4 at *
              have H6 := Lib.hid (show Rb w4 R s k ∧ Onl R w w4 ∧ w4.ownsRow w.heap.size 84 2 u4 acc.length (rFlat acc) from ⟨H4.out.rb, H4.out.onl, H4.out.row⟩)
              have hsz6 : w.heap.size ≤ w4.heap.size := H6.out.2.1.size
              have hlk : acc.length ≤ 8 * k := H4.out.len
              have HLt := HL.out.2
              go_wp2_with (at_builtin; refine wpList_append_R rfl _ _ 24 84 rfl Tryz.underlying24 Tryz.info84 w.heap.size u4 acc.length (rFlat acc) rfl (H6.out.2.2.alloc _) (some ⟨w4.heap.size, 0, none⟩) [(45, 45)] 1 rfl (Sl.alloc_new w4 [(45, 45)] _) (by simp; omega) (by simp; omega) ?_; intro v7 w7 hrow7 _ hbl7;
                                                                                    have hB7 : Below w.heap.size (w4.alloc (.cells (rFlat [(45, 45)]).toArray 84)) w7 := hbl7 _ (Below.refl _ _);
                                                                                    have rb7 := Rb7 HLt H6.out.1 hB7;
                                                                                    have d7 := rb7.c1;
                                                                                    have g7 := rb7.f1;
                                                                                    have H7 := Lib.hid (show _ ∧ _ ∧ _ from ⟨hrow7, hB7, rb7⟩);
                                                                                    clear hrow7 hbl7 hB7 rb7)
              have rb8 : Rb (w7.setCell ⟨R, 1, none⟩ (.int .i64 ((k : Int) + 1))) R s (k + 1) := by have := H7.out.2.2.set (k + 1); rwa [Int.natCast_add] at this
              refine ⟨⟨k + 1, _, H4.out.next HC.out HI.out (by omega) hk1 (by simp) HG.out rb8 (((H6.out.2.1.trans (Onl.of ((Below.refl _ _).alloc (Nat.le_refl _) _))).below H7.out.2.1).set _ rfl _) (row_set H7.out.1 HLt _)⟩, by rw [atOf_rb rb8]; omega⟩
            · have his7 := fun W hW => is2 45 93 (by decide) (by decide) R s k W hW hks hs' false (by rw [HT.out, h45]; simpa using h93)
              have HD : Hid (¬ (Rs.bt t 0 = 45 ∧ (decide (k = k0) = true ∨ Rs.bt t 1 = 93))) := Lib.hid (fun e => by
                rcases e.2 with e2 | e2
                · rw [HF.out.1] at e2; cases e2
                · exact h93 e2)
              clear h45 h93
              go_wp2_with fail
              refine his6.mono ?_
              rintro e w4 ⟨rfl, q4, rfl⟩
              go_wp2_with fail
              refine (his7 _ (H3.out.rb.drewN q4)).mono ?_
              rintro e w4 ⟨rfl, q5, rfl⟩
              have H4 := Lib.hid ((H3.out.drewN q4).drewN q5)
              clear c1 H3 his6 his7
              generalize (w3.drewN q4).drewN q5 = w4 at *
              go_wp2_with fail
              refine (point_calls' R s k w4 H4.out.rb hks hs' hR (H4.out.onl.lv hR HL.out.1)).mono ?_
              rintro e w5 ⟨pv, pb, k5, rfl, rb5, hk5, onl5, hm⟩
              rw [HT.out] at hm
              cases hP : Rs.partS t with
              | none =>
                rw [hP] at hm
                dsimp only at hm
                subst hm
                have FIN := Lib.hid (ItPost.no (H4.out.onl.trans onl5) (H4.out.fail HC.out (by rw [HT.out]; exact Rs.item_none HN.out HD.out hP)))
                clear hP rb5 onl5
                go_wp2
                go_ret2
                exact FIN.out
              | some r =>
                obtain ⟨a, n⟩ := r
                have hok := Rs.partS_ok hP
                have HP := Lib.hid hP
                rw [hP] at hm
                dsimp only at hm
                obtain ⟨rfl, hpv, hk5e⟩ := hm
                subst hk5e
                have hpv' := hpv.symm
                subst hpv'
                have hap := (Rs.pt_iff _).1 hok.1
                have hn1 := hok.2.1
                have ha0 : 0 ≤ a := by omega
                have ha1 : a ≤ 1114111 := by omega
                have hlk : acc.length ≤ 8 * k := H4.out.len
                have hszw : w.heap.size ≤ w5.heap.size := Nat.le_trans H4.out.onl.size onl5.size
                have HG1 : Hid (∀ q ∈ [((a, a) : Rs.R)], Rs.rg q) := Lib.hid (fun q hq => by simp at hq; subst hq; exact ⟨by simp only; omega, by simp only; omega, by simp only; omega⟩)
                have HK1 : Hid (k + n ≤ s.size) := Lib.hid hk5
                have H5 := Lib.hid (show Rb w5 R s (k + n) ∧ Onl R w w5 ∧ w5.ownsRow w.heap.size 84 2 u4 acc.length (rFlat acc) from ⟨rb5, H4.out.onl.trans onl5, row_onl H4.out.row onl5 HL.out.2⟩)
                have hbn : Rs.bt (s.data.toList.drop (k + n)) 0 = Rs.bt t n := by rw [← HT.out, Rs.bt_drop, Rs.bt_drop]; rfl
                have hbn1 : Rs.bt (s.data.toList.drop (k + n)) 1 = Rs.bt t (n + 1) := by rw [← HT.out, Rs.bt_drop, Rs.bt_drop]; rfl
                clear hP rb5 onl5 hok hap
                by_cases hq : Rs.bt t n = 45
                · have hk45 : k + n + 1 ≤ s.size := by
                    rw [← hbn, Rs.bt_drop] at hq
                    rcases Nat.lt_or_ge (k + n) s.size with h2 | h2
                    · omega
                    · rw [Rs.bt_ge (by rw [← Lib.size_eq]; omega)] at hq; omega
                  have his7 := fun W hW => is1 45 (by decide) R s (k + n) W hW hk5 hs' true (by rw [hbn, hq]; rfl)
                  by_cases hq2 : Rs.bt t (n + 1) = 93
                  · have his8 := fun W hW => is2 45 93 (by decide) (by decide) R s (k + n) W hW hk5 hs' true (by rw [hbn, hbn1, hq, hq2]; rfl)
                    have HQ : Hid (¬ (Rs.bt t n = 45 ∧ Rs.bt t (n + 1) ≠ 93)) := Lib.hid (fun e => e.2 hq2)
                    clear hq hq2 hbn hbn1
                    go_wp2_with fail
                    refine (his7 _ H5.out.1).mono ?_
                    rintro e w6 ⟨rfl, q6, rfl⟩
                    go_wp2_with fail
                    refine (his8 _ (H5.out.1.drewN q6)).mono ?_
                    rintro e w6 ⟨rfl, q7, rfl⟩
                    have H6 := Lib.hid (show Rb ((w5.drewN q6).drewN q7) R s (k + n) ∧ Onl R w ((w5.drewN q6).drewN q7) ∧ ((w5.drewN q6).drewN q7).ownsRow w.heap.size 84 2 u4 acc.length (rFlat acc) from ⟨H5.out.1, (H5.out.2.1.drewN q6).drewN q7, H5.out.2.2⟩)
                    have hsz6 : w.heap.size ≤ ((w5.drewN q6).drewN q7).heap.size := hszw
                    clear H5 his7 his8 hszw
                    generalize (w5.drewN q6).drewN q7 = w6 at *
                    have HKN := HK1
                    have HG := HG1
                    have HI := Lib.hid (show Rs.itemS (s.data.toList.drop k) (decide (k = k0)) = some ([(a, a)], n) from by rw [HT.out]; exact Rs.item_one HN.out HD.out HP.out HQ.out)
                    clear HQ
                    go_wp2_with (at_builtin; refine wpList_append_R rfl _ _ 24 84 rfl Tryz.underlying24 Tryz.info84 w.heap.size u4 acc.length (rFlat acc) rfl (H6.out.2.2.alloc _) (some ⟨w6.heap.size, 0, none⟩) [(a, a)] 1 rfl (Sl.alloc_new w6 [(a, a)] _) (by simp; omega) (by simp; omega) ?_; intro v7 w7 hrow7 _ hbl7;
                                                                                have hB7 : Below w.heap.size (w6.alloc (.cells (rFlat [(a, a)]).toArray 84)) w7 := hbl7 _ (Below.refl _ _);
                                                                                have H7 := Lib.hid (show _ ∧ _ from ⟨hrow7, hB7⟩);
                                                                                clear hrow7 hbl7 hB7)
                    refine ⟨⟨_, _, H4.out.next HC.out HI.out (by omega) HKN.out (by simp) HG.out (Rb7 HL.out.2 H6.out.1 H7.out.2) ((H6.out.2.1.trans (Onl.of ((Below.refl _ _).alloc (Nat.le_refl _) _))).below H7.out.2) H7.out.1⟩, by rw [atOf_rb (Rb7 HL.out.2 H6.out.1 H7.out.2)]; omega⟩
                  · have his8 := fun W hW => is2 45 93 (by decide) (by decide) R s (k + n) W hW hk5 hs' false (by rw [hbn, hbn1, hq]; simpa using hq2)
                    have HQ : Hid (Rs.bt t n = 45 ∧ Rs.bt t (n + 1) ≠ 93) := Lib.hid ⟨hq, hq2⟩
                    clear hq hq2 hbn hbn1
                    go_wp2_with fail
                    refine (his7 _ H5.out.1).mono ?_
                    rintro e w6 ⟨rfl, q6, rfl⟩
                    go_wp2_with fail
                    refine (his8 _ (H5.out.1.drewN q6)).mono ?_
                    rintro e w6 ⟨rfl, q7, rfl⟩
                    have H6 := Lib.hid (show Rb ((w5.drewN q6).drewN q7) R s (k + n) ∧ Onl R w ((w5.drewN q6).drewN q7) ∧ ((w5.drewN q6).drewN q7).ownsRow w.heap.size 84 2 u4 acc.length (rFlat acc) from ⟨H5.out.1, (H5.out.2.1.drewN q6).drewN q7, H5.out.2.2⟩)
                    clear H5 his7 his8 hszw
                    generalize (w5.drewN q6).drewN q7 = w6 at *
                    have HI2 := Lib.hid (Rs.item_two (first := decide (k = k0)) HN.out HD.out HP.out HQ.out)
                    have c6 := H6.out.1.c1
                    have f6 := H6.out.1.f1
                    have rb8 : Rb (w6.setCell ⟨R, 1, none⟩ (.int .i64 ((k : Int) + (n : Int) + 1))) R s (k + n + 1) := by have := H6.out.1.set (k + n + 1); rwa [show (((k + n + 1 : Nat)) : Int) = (k : Int) + (n : Int) + 1 by omega] at this
                    have o8 : Onl R w (w6.setCell ⟨R, 1, none⟩ (.int .i64 ((k : Int) + (n : Int) + 1))) := H6.out.2.1.set _ rfl _
                    have r8 : (w6.setCell ⟨R, 1, none⟩ (.int .i64 ((k : Int) + (n : Int) + 1))).ownsRow w.heap.size 84 2 u4 acc.length (rFlat acc) := row_set H6.out.2.2 HL.out.2 _
                    have H8 := Lib.hid (show _ ∧ _ ∧ _ from ⟨rb8, o8, r8⟩)
                    clear rb8 o8 r8 H6
                    go_wp2_with fail
                    clear c6 f6
                    generalize w6.setCell ⟨R, 1, none⟩ (.int .i64 ((k : Int) + (n : Int) + 1)) = w8 at *
                    refine (point_calls' R s (k + n + 1) w8 H8.out.1 hk45 hs' hR (H8.out.2.1.lv hR HL.out.1)).mono ?_
                    rintro e w9 ⟨pv, pb, k9, rfl, rb9, hk9, onl9, hm9⟩
                    rw [show s.data.toList.drop (k + n + 1) = t.drop (n + 1) by rw [← HT.out, List.drop_drop]; rfl] at hm9
                    have hi2 := HI2.out
                    clear HI2
                    cases hP2 : Rs.partS (t.drop (n + 1)) with
                    | none =>
                      rw [hP2] at hm9 hi2
                      dsimp only at hm9 hi2
                      subst hm9
                      have FIN := Lib.hid (ItPost.no (H8.out.2.1.trans onl9) (H4.out.fail HC.out (by rw [HT.out]; exact hi2)))
                      clear hi2 hP2 rb9 onl9
                      go_wp2
                      go_ret2
                      exact FIN.out
                    | some r2 =>
                      obtain ⟨b, m⟩ := r2
                      have hok2 := Rs.partS_ok hP2
                      rw [hP2] at hm9 hi2
                      dsimp only at hm9 hi2
                      obtain ⟨rfl, hpv, hk9e⟩ := hm9
                      subst hk9e
                      have hpv' := hpv.symm
                      subst hpv'
                      have hbp := (Rs.pt_iff _).1 hok2.1
                      by_cases hba : b < a
                      · rw [if_pos hba] at hi2
                        have FIN := Lib.hid (ItPost.no (H8.out.2.1.trans onl9) (H4.out.fail HC.out (by rw [HT.out]; exact hi2)))
                        clear hi2 hP2 rb9 onl9 hok2
                        go_wp2
                        go_ret2
                        exact FIN.out
                      · rw [if_neg hba] at hi2
                        have hm1 := hok2.2.1
                        have HKN : Hid (k + (n + 1 + m) ≤ s.size) := Lib.hid (by omega)
                        have hab : a ≤ b := by omega
                        have hb1m : b ≤ 1114111 := by omega
                        have HI := Lib.hid (show Rs.itemS (s.data.toList.drop k) (decide (k = k0)) = some ([(a, b)], n + 1 + m) from by rw [HT.out]; exact hi2)
                        have HG : Hid (∀ q ∈ [((a, b) : Rs.R)], Rs.rg q) := Lib.hid (fun q hq => by simp at hq; subst hq; exact ⟨by simp only; omega, by simp only; omega, by simp only; omega⟩)
                        have H6 := Lib.hid (show Rb w9 R s (k + (n + 1 + m)) ∧ Onl R w w9 ∧ w9.ownsRow w.heap.size 84 2 u4 acc.length (rFlat acc) from ⟨by rw [show k + (n + 1 + m) = k + n + 1 + m by omega]; exact rb9, H8.out.2.1.trans onl9, row_onl H8.out.2.2 onl9 HL.out.2⟩)
                        have hsz6 : w.heap.size ≤ w9.heap.size := H6.out.2.1.size
                        clear hi2 hP2 rb9 onl9 hok2 H8
                        go_wp2_with (at_builtin; refine wpList_append_R rfl _ _ 24 84 rfl Tryz.underlying24 Tryz.info84 w.heap.size u4 acc.length (rFlat acc) rfl (H6.out.2.2.alloc _) (some ⟨w9.heap.size, 0, none⟩) [(a, b)] 1 rfl (Sl.alloc_new w9 [(a, b)] _) (by simp; omega) (by simp; omega) ?_; intro v7 w7 hrow7 _ hbl7;
                                                                                have hB7 : Below w.heap.size (w9.alloc (.cells (rFlat [(a, b)]).toArray 84)) w7 := hbl7 _ (Below.refl _ _);
                                                                                have H7 := Lib.hid (show _ ∧ _ from ⟨hrow7, hB7⟩);
                                                                                clear hrow7 hbl7 hB7)
                        refine ⟨⟨_, _, H4.out.next HC.out HI.out (by omega) HKN.out (by simp) HG.out (Rb7 HL.out.2 H6.out.1 H7.out.2) ((H6.out.2.1.trans (Onl.of ((Below.refl _ _).alloc (Nat.le_refl _) _))).below H7.out.2) H7.out.1⟩, by rw [atOf_rb (Rb7 HL.out.2 H6.out.1 H7.out.2)]; omega⟩
                · have his7 := fun W hW => is1 45 (by decide) R s (k + n) W hW hk5 hs' false (by rw [hbn]; simpa using hq)
                  have HQ : Hid (¬ (Rs.bt t n = 45 ∧ Rs.bt t (n + 1) ≠ 93)) := Lib.hid (fun e => hq e.1)
                  clear hq hbn hbn1
                  go_wp2_with fail
                  refine (his7 _ H5.out.1).mono ?_
                  rintro e w6 ⟨rfl, q6, rfl⟩
                  have H6 := Lib.hid (show Rb (w5.drewN q6) R s (k + n) ∧ Onl R w (w5.drewN q6) ∧ (w5.drewN q6).ownsRow w.heap.size 84 2 u4 acc.length (rFlat acc) from ⟨H5.out.1, H5.out.2.1.drewN q6, H5.out.2.2⟩)
                  have hsz6 : w.heap.size ≤ (w5.drewN q6).heap.size := hszw
                  clear H5 his7 hszw
                  generalize w5.drewN q6 = w6 at *
                  have HKN := HK1
                  have HG := HG1
                  have HI := Lib.hid (show Rs.itemS (s.data.toList.drop k) (decide (k = k0)) = some ([(a, a)], n) from by rw [HT.out]; exact Rs.item_one HN.out HD.out HP.out HQ.out)
                  clear HQ
                  go_wp2_with (at_builtin; refine wpList_append_R rfl _ _ 24 84 rfl Tryz.underlying24 Tryz.info84 w.heap.size u4 acc.length (rFlat acc) rfl (H6.out.2.2.alloc _) (some ⟨w6.heap.size, 0, none⟩) [(a, a)] 1 rfl (Sl.alloc_new w6 [(a, a)] _) (by simp; omega) (by simp; omega) ?_; intro v7 w7 hrow7 _ hbl7;
                                                                              have hB7 : Below w.heap.size (w6.alloc (.cells (rFlat [(a, a)]).toArray 84)) w7 := hbl7 _ (Below.refl _ _);
                                                                              have H7 := Lib.hid (show _ ∧ _ from ⟨hrow7, hB7⟩);
                                                                              clear hrow7 hbl7 hB7)
                  refine ⟨⟨_, _, H4.out.next HC.out HI.out (by omega) HKN.out (by simp) HG.out (Rb7 HL.out.2 H6.out.1 H7.out.2) ((H6.out.2.1.trans (Onl.of ((Below.refl _ _).alloc (Nat.le_refl _) _))).below H7.out.2) H7.out.1⟩, by rw [atOf_rb (Rb7 HL.out.2 H6.out.1 H7.out.2)]; omega⟩
          · have H45 : Hid (decide (Rs.bt t 0 = ((45 : UInt8).toNat : Int)) = false) := Lib.hid (by simpa using h45)
            have HD : Hid (¬ (Rs.bt t 0 = 45 ∧ (decide (k = k0) = true ∨ Rs.bt t 1 = 93))) := Lib.hid (fun e => h45 e.1)
            clear h45
            have his6 := is1 45 (by decide) R s k w3 H3.out.rb hks hs' false (by rw [HT.out]; exact H45.out)
            go_wp2_with fail
            refine his6.mono ?_
            rintro e w4 ⟨rfl, q4, rfl⟩
            clear his6
            have H4 := Lib.hid (H3.out.drewN q4)
            clear c1 H3
            go_wp2_with fail
            generalize w3.drewN q4 = w4 at *
            refine (point_calls' R s k w4 H4.out.rb hks hs' hR (H4.out.onl.lv hR HL.out.1)).mono ?_
            rintro e w5 ⟨pv, pb, k5, rfl, rb5, hk5, onl5, hm⟩
            rw [HT.out] at hm
            cases hP : Rs.partS t with
            | none =>
              rw [hP] at hm
              dsimp only at hm
              subst hm
              have FIN := Lib.hid (ItPost.no (H4.out.onl.trans onl5) (H4.out.fail HC.out (by rw [HT.out]; exact Rs.item_none HN.out HD.out hP)))
              clear hP rb5 onl5
              go_wp2
              go_ret2
              exact FIN.out
            | some r =>
              obtain ⟨a, n⟩ := r
              have hok := Rs.partS_ok hP
              have HP := Lib.hid hP
              rw [hP] at hm
              dsimp only at hm
              obtain ⟨rfl, hpv, hk5e⟩ := hm
              subst hk5e
              have hpv' := hpv.symm
              subst hpv'
              have hap := (Rs.pt_iff _).1 hok.1
              have hn1 := hok.2.1
              have ha0 : 0 ≤ a := by omega
              have ha1 : a ≤ 1114111 := by omega
              have hlk : acc.length ≤ 8 * k := H4.out.len
              have hszw : w.heap.size ≤ w5.heap.size := Nat.le_trans H4.out.onl.size onl5.size
              have HG1 : Hid (∀ q ∈ [((a, a) : Rs.R)], Rs.rg q) := Lib.hid (fun q hq => by simp at hq; subst hq; exact ⟨by simp only; omega, by simp only; omega, by simp only; omega⟩)
              have HK1 : Hid (k + n ≤ s.size) := Lib.hid hk5
              have H5 := Lib.hid (show Rb w5 R s (k + n) ∧ Onl R w w5 ∧ w5.ownsRow w.heap.size 84 2 u4 acc.length (rFlat acc) from ⟨rb5, H4.out.onl.trans onl5, row_onl H4.out.row onl5 HL.out.2⟩)
              have hbn : Rs.bt (s.data.toList.drop (k + n)) 0 = Rs.bt t n := by rw [← HT.out, Rs.bt_drop, Rs.bt_drop]; rfl
              have hbn1 : Rs.bt (s.data.toList.drop (k + n)) 1 = Rs.bt t (n + 1) := by rw [← HT.out, Rs.bt_drop, Rs.bt_drop]; rfl
              clear hP rb5 onl5 hok hap
              by_cases hq : Rs.bt t n = 45
              · have hk45 : k + n + 1 ≤ s.size := by
                  rw [← hbn, Rs.bt_drop] at hq
                  rcases Nat.lt_or_ge (k + n) s.size with h2 | h2
                  · omega
                  · rw [Rs.bt_ge (by rw [← Lib.size_eq]; omega)] at hq; omega
                have his7 := fun W hW => is1 45 (by decide) R s (k + n) W hW hk5 hs' true (by rw [hbn, hq]; rfl)
                by_cases hq2 : Rs.bt t (n + 1) = 93
                · have his8 := fun W hW => is2 45 93 (by decide) (by decide) R s (k + n) W hW hk5 hs' true (by rw [hbn, hbn1, hq, hq2]; rfl)
                  have HQ : Hid (¬ (Rs.bt t n = 45 ∧ Rs.bt t (n + 1) ≠ 93)) := Lib.hid (fun e => e.2 hq2)
                  clear hq hq2 hbn hbn1
                  go_wp2_with fail
                  refine (his7 _ H5.out.1).mono ?_
                  rintro e w6 ⟨rfl, q6, rfl⟩
                  go_wp2_with fail
                  refine (his8 _ (H5.out.1.drewN q6)).mono ?_
                  rintro e w6 ⟨rfl, q7, rfl⟩
                  have H6 := Lib.hid (show Rb ((w5.drewN q6).drewN q7) R s (k + n) ∧ Onl R w ((w5.drewN q6).drewN q7) ∧ ((w5.drewN q6).drewN q7).ownsRow w.heap.size 84 2 u4 acc.length (rFlat acc) from ⟨H5.out.1, (H5.out.2.1.drewN q6).drewN q7, H5.out.2.2⟩)
                  have hsz6 : w.heap.size ≤ ((w5.drewN q6).drewN q7).heap.size := hszw
                  clear H5 his7 his8 hszw
                  generalize (w5.drewN q6).drewN q7 = w6 at *
                  have HKN := HK1
                  have HG := HG1
                  have HI := Lib.hid (show Rs.itemS (s.data.toList.drop k) (decide (k = k0)) = some ([(a, a)], n) from by rw [HT.out]; exact Rs.item_one HN.out HD.out HP.out HQ.out)
                  clear HQ
                  go_wp2_with (at_builtin; refine wpList_append_R rfl _ _ 24 84 rfl Tryz.underlying24 Tryz.info84 w.heap.size u4 acc.length (rFlat acc) rfl (H6.out.2.2.alloc _) (some ⟨w6.heap.size, 0, none⟩) [(a, a)] 1 rfl (Sl.alloc_new w6 [(a, a)] _) (by simp; omega) (by simp; omega) ?_; intro v7 w7 hrow7 _ hbl7;
                                                                              have hB7 : Below w.heap.size (w6.alloc (.cells (rFlat [(a, a)]).toArray 84)) w7 := hbl7 _ (Below.refl _ _);
                                                                              have H7 := Lib.hid (show _ ∧ _ from ⟨hrow7, hB7⟩);
                                                                              clear hrow7 hbl7 hB7)
                  refine ⟨⟨_, _, H4.out.next HC.out HI.out (by omega) HKN.out (by simp) HG.out (Rb7 HL.out.2 H6.out.1 H7.out.2) ((H6.out.2.1.trans (Onl.of ((Below.refl _ _).alloc (Nat.le_refl _) _))).below H7.out.2) H7.out.1⟩, by rw [atOf_rb (Rb7 HL.out.2 H6.out.1 H7.out.2)]; omega⟩
                · have his8 := fun W hW => is2 45 93 (by decide) (by decide) R s (k + n) W hW hk5 hs' false (by rw [hbn, hbn1, hq]; simpa using hq2)
                  have HQ : Hid (Rs.bt t n = 45 ∧ Rs.bt t (n + 1) ≠ 93) := Lib.hid ⟨hq, hq2⟩
                  clear hq hq2 hbn hbn1
                  go_wp2_with fail
                  refine (his7 _ H5.out.1).mono ?_
                  rintro e w6 ⟨rfl, q6, rfl⟩
                  go_wp2_with fail
                  refine (his8 _ (H5.out.1.drewN q6)).mono ?_
                  rintro e w6 ⟨rfl, q7, rfl⟩
                  have H6 := Lib.hid (show Rb ((w5.drewN q6).drewN q7) R s (k + n) ∧ Onl R w ((w5.drewN q6).drewN q7) ∧ ((w5.drewN q6).drewN q7).ownsRow w.heap.size 84 2 u4 acc.length (rFlat acc) from ⟨H5.out.1, (H5.out.2.1.drewN q6).drewN q7, H5.out.2.2⟩)
                  clear H5 his7 his8 hszw
                  generalize (w5.drewN q6).drewN q7 = w6 at *
                  have HI2 := Lib.hid (Rs.item_two (first := decide (k = k0)) HN.out HD.out HP.out HQ.out)
                  have c6 := H6.out.1.c1
                  have f6 := H6.out.1.f1
                  have rb8 : Rb (w6.setCell ⟨R, 1, none⟩ (.int .i64 ((k : Int) + (n : Int) + 1))) R s (k + n + 1) := by have := H6.out.1.set (k + n + 1); rwa [show (((k + n + 1 : Nat)) : Int) = (k : Int) + (n : Int) + 1 by omega] at this
                  have o8 : Onl R w (w6.setCell ⟨R, 1, none⟩ (.int .i64 ((k : Int) + (n : Int) + 1))) := H6.out.2.1.set _ rfl _
                  have r8 : (w6.setCell ⟨R, 1, none⟩ (.int .i64 ((k : Int) + (n : Int) + 1))).ownsRow w.heap.size 84 2 u4 acc.length (rFlat acc) := row_set H6.out.2.2 HL.out.2 _
                  have H8 := Lib.hid (show _ ∧ _ ∧ _ from ⟨rb8, o8, r8⟩)
                  clear rb8 o8 r8 H6
                  go_wp2_with fail
                  clear c6 f6
                  generalize w6.setCell ⟨R, 1, none⟩ (.int .i64 ((k : Int) + (n : Int) + 1)) = w8 at *
                  refine (point_calls' R s (k + n + 1) w8 H8.out.1 hk45 hs' hR (H8.out.2.1.lv hR HL.out.1)).mono ?_
                  rintro e w9 ⟨pv, pb, k9, rfl, rb9, hk9, onl9, hm9⟩
                  rw [show s.data.toList.drop (k + n + 1) = t.drop (n + 1) by rw [← HT.out, List.drop_drop]; rfl] at hm9
                  have hi2 := HI2.out
                  clear HI2
                  cases hP2 : Rs.partS (t.drop (n + 1)) with
                  | none =>
                    rw [hP2] at hm9 hi2
                    dsimp only at hm9 hi2
                    subst hm9
                    have FIN := Lib.hid (ItPost.no (H8.out.2.1.trans onl9) (H4.out.fail HC.out (by rw [HT.out]; exact hi2)))
                    clear hi2 hP2 rb9 onl9
                    go_wp2
                    go_ret2
                    exact FIN.out
                  | some r2 =>
                    obtain ⟨b, m⟩ := r2
                    have hok2 := Rs.partS_ok hP2
                    rw [hP2] at hm9 hi2
                    dsimp only at hm9 hi2
                    obtain ⟨rfl, hpv, hk9e⟩ := hm9
                    subst hk9e
                    have hpv' := hpv.symm
                    subst hpv'
                    have hbp := (Rs.pt_iff _).1 hok2.1
                    by_cases hba : b < a
                    · rw [if_pos hba] at hi2
                      have FIN := Lib.hid (ItPost.no (H8.out.2.1.trans onl9) (H4.out.fail HC.out (by rw [HT.out]; exact hi2)))
                      clear hi2 hP2 rb9 onl9 hok2
                      go_wp2
                      go_ret2
                      exact FIN.out
                    · rw [if_neg hba] at hi2
                      have hm1 := hok2.2.1
                      have HKN : Hid (k + (n + 1 + m) ≤ s.size) := Lib.hid (by omega)
                      have hab : a ≤ b := by omega
                      have hb1m : b ≤ 1114111 := by omega
                      have HI := Lib.hid (show Rs.itemS (s.data.toList.drop k) (decide (k = k0)) = some ([(a, b)], n + 1 + m) from by rw [HT.out]; exact hi2)
                      have HG : Hid (∀ q ∈ [((a, b) : Rs.R)], Rs.rg q) := Lib.hid (fun q hq => by simp at hq; subst hq; exact ⟨by simp only; omega, by simp only; omega, by simp only; omega⟩)
                      have H6 := Lib.hid (show Rb w9 R s (k + (n + 1 + m)) ∧ Onl R w w9 ∧ w9.ownsRow w.heap.size 84 2 u4 acc.length (rFlat acc) from ⟨by rw [show k + (n + 1 + m) = k + n + 1 + m by omega]; exact rb9, H8.out.2.1.trans onl9, row_onl H8.out.2.2 onl9 HL.out.2⟩)
                      have hsz6 : w.heap.size ≤ w9.heap.size := H6.out.2.1.size
                      clear hi2 hP2 rb9 onl9 hok2 H8
                      go_wp2_with (at_builtin; refine wpList_append_R rfl _ _ 24 84 rfl Tryz.underlying24 Tryz.info84 w.heap.size u4 acc.length (rFlat acc) rfl (H6.out.2.2.alloc _) (some ⟨w9.heap.size, 0, none⟩) [(a, b)] 1 rfl (Sl.alloc_new w9 [(a, b)] _) (by simp; omega) (by simp; omega) ?_; intro v7 w7 hrow7 _ hbl7;
                                                                              have hB7 : Below w.heap.size (w9.alloc (.cells (rFlat [(a, b)]).toArray 84)) w7 := hbl7 _ (Below.refl _ _);
                                                                              have H7 := Lib.hid (show _ ∧ _ from ⟨hrow7, hB7⟩);
                                                                              clear hrow7 hbl7 hB7)
                      refine ⟨⟨_, _, H4.out.next HC.out HI.out (by omega) HKN.out (by simp) HG.out (Rb7 HL.out.2 H6.out.1 H7.out.2) ((H6.out.2.1.trans (Onl.of ((Below.refl _ _).alloc (Nat.le_refl _) _))).below H7.out.2) H7.out.1⟩, by rw [atOf_rb (Rb7 HL.out.2 H6.out.1 H7.out.2)]; omega⟩
              · have his7 := fun W hW => is1 45 (by decide) R s (k + n) W hW hk5 hs' false (by rw [hbn]; simpa using hq)
                have HQ : Hid (¬ (Rs.bt t n = 45 ∧ Rs.bt t (n + 1) ≠ 93)) := Lib.hid (fun e => hq e.1)
                clear hq hbn hbn1
                go_wp2_with fail
                refine (his7 _ H5.out.1).mono ?_
                rintro e w6 ⟨rfl, q6, rfl⟩
                have H6 := Lib.hid (show Rb (w5.drewN q6) R s (k + n) ∧ Onl R w (w5.drewN q6) ∧ (w5.drewN q6).ownsRow w.heap.size 84 2 u4 acc.length (rFlat acc) from ⟨H5.out.1, H5.out.2.1.drewN q6, H5.out.2.2⟩)
                have hsz6 : w.heap.size ≤ (w5.drewN q6).heap.size := hszw
                clear H5 his7 hszw
                generalize w5.drewN q6 = w6 at *
                have HKN := HK1
                have HG := HG1
                have HI := Lib.hid (show Rs.itemS (s.data.toList.drop k) (decide (k = k0)) = some ([(a, a)], n) from by rw [HT.out]; exact Rs.item_one HN.out HD.out HP.out HQ.out)
                clear HQ
                go_wp2_with (at_builtin; refine wpList_append_R rfl _ _ 24 84 rfl Tryz.underlying24 Tryz.info84 w.heap.size u4 acc.length (rFlat acc) rfl (H6.out.2.2.alloc _) (some ⟨w6.heap.size, 0, none⟩) [(a, a)] 1 rfl (Sl.alloc_new w6 [(a, a)] _) (by simp; omega) (by simp; omega) ?_; intro v7 w7 hrow7 _ hbl7;
                                                                            have hB7 : Below w.heap.size (w6.alloc (.cells (rFlat [(a, a)]).toArray 84)) w7 := hbl7 _ (Below.refl _ _);
                                                                            have H7 := Lib.hid (show _ ∧ _ from ⟨hrow7, hB7⟩);
                                                                            clear hrow7 hbl7 hB7)
                refine ⟨⟨_, _, H4.out.next HC.out HI.out (by omega) HKN.out (by simp) HG.out (Rb7 HL.out.2 H6.out.1 H7.out.2) ((H6.out.2.1.trans (Onl.of ((Below.refl _ _).alloc (Nat.le_refl _) _))).below H7.out.2) H7.out.1⟩, by rw [atOf_rb (Rb7 HL.out.2 H6.out.1 H7.out.2)]; omega⟩
end Go.Proofs.YtimahlimmblgkaaGreatDoor
