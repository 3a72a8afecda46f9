/- The law's tells: it returns true, whatever the list and the number. -/
import Derived.Test.YtkjilodmmcefbaaGreatDoorJns
import Derived.Test.YtkjilodmmcefbaaGreatDoorMkR
namespace Go.Proofs.YtkjilodmmcefbaaGreatDoor
open Go.RowKit Go.Shelf
namespace Rs
theorem notE_len (l : S) : (notE l).length ≤ 1114113 := by
  unfold notE
  split
  · rename_i h; exact right_len (notS_right h)
  · simp
theorem ofE_len (l : S) : (ofE l).length ≤ 1114113 := by
  unfold ofE
  split
  · rename_i h; exact right_len (setOf_right l (fun r hr => (rgB_iff r).1 (List.all_eq_true.1 h.2 r hr)))
  · simp
theorem has_pt (l : S) (c : Int) : (right l && (pt c && mem c l)) = (right l && mem c l) := by
  cases h : right l
  · rfl
  · cases hm : mem c l
    · simp
    · rw [mem_pt h hm]; rfl
end Rs
theorem ref_has_pt (a : Option Addr) (cap : Nat) (l : Rs.S) (c : Int) (w : World) (hrd : RdR w a l) (hn : l.length < 4611686018427387904) :
    Calls Tryz.prog 67 #[.slice a l.length cap, .int .i64 c] w fun e w' => e = .returned (.bool (Rs.right l && Rs.mem c l)) ∧ ∃ n, w' = w.drewN n := by
  have h := ref_has_calls a cap l c w hrd hn
  rw [Rs.has_pt] at h
  exact h
def Rs.cntE (l : Rs.S) : Int := if Rs.right l then Rs.cnt l else 0
theorem count_E (a : Option Addr) (cap : Nat) (l : Rs.S) (w : World) (hrd : RdR w a l) (hbl : ∀ b off, a = some ⟨b, off, none⟩ → b < w.heap.size) (hn : l.length < 4611686018427387904) :
    Calls Tryz.prog 24 #[.slice a l.length cap] w fun e w' => e = .returned (.int .i64 (Rs.cntE l)) ∧ Below w.heap.size w w' := count_calls a cap l w hrd hbl hn
theorem ref_count_E (a : Option Addr) (cap : Nat) (l : Rs.S) (w : World) (hrd : RdR w a l) (hn : l.length < 4611686018427387904) :
    Calls Tryz.prog 68 #[.slice a l.length cap] w fun e w' => e = .returned (.int .i64 (Rs.cntE l)) ∧ ∃ n, w' = w.drewN n := ref_count_calls a cap l w hrd hn
-- WALK
theorem tells_far (a : Option Addr) (ca : Nat) (l : Rs.S) (c : Int) (w : World) (hl : (60 < l.length ∧ l.length ≤ 4096) ∨ 4100 ≤ l.length) :
    Calls Tryz.prog 26 #[.slice a l.length ca, .int .i64 c] w fun e w' => e = .returned (.bool true) ∧ Below w.heap.size w w' := by
  rcases hl with ⟨h1, h2⟩ | h1
  · go_enter Tryz.func26, Tryz.ntmps26
    go_wp2
    go_ret
    exact ⟨rfl, Below.refl _ _⟩
  · have h2 : ¬ l.length ≤ 4096 := by omega
    have h3 : 60 < l.length := by omega
    go_enter Tryz.func26, Tryz.ntmps26
    go_wp2
    go_ret
    exact ⟨rfl, Below.refl _ _⟩
set_option maxRecDepth 100000 in
set_option maxHeartbeats 8000000 in
theorem tells_mid (a : Option Addr) (ca : Nat) (l : Rs.S) (c : Int) (w : World) (ha : RdR w a l) (na : a = none → l = [] ∧ ca = 0) (h1 : 4096 < l.length) (h2 : l.length < 4100) :
    Calls Tryz.prog 26 #[.slice a l.length ca, .int .i64 c] w fun e w' => e = .returned (.bool true) ∧ Below w.heap.size w w' := by
    have HAB := Lib.hid (show _ ∧ _ from ⟨ha, na⟩)
    clear ha na
    have h3 : 60 < l.length := by omega
    have HB := Lib.hid (Below.refl w.heap.size w)
    have LO := Lib.hid (Rs.ofE_len l)
    have LN := Lib.hid (Rs.notE_len l)
    go_enter Tryz.func26, Tryz.ntmps26
    go_wp2_with fail
    go_at_call 39
    have hcall := cloneR_calls a ca l w HAB.out.1 HAB.out.2 (by omega)
    refine hcall.mono ?_
    clear hcall
    rintro e w1 ⟨v, rfl, hown, hb⟩
    obtain ⟨aX, cX, rfl, hs, hbk⟩ := own_all hown
    have HZ1 : Hid (w.heap.size ≤ w1.heap.size) := Lib.hid hb.size
    replace HB := Lib.hid (Bthen HB.out hb)
    have HsX := Lib.hid hs
    have BkX : Hid (In aX w.heap.size w1.heap.size) := Lib.hid hbk
    clear hs hbk hown hb
    go_wp2_with fail
    go_at_call 46
    have hcall := theirsR_calls a ca l w1 (HAB.out.1.lift HB.out) (by omega)
    refine hcall.mono ?_
    clear hcall
    rintro e w2 ⟨v, rfl, hown, hb⟩
    obtain ⟨aP, cP, rfl, hs, hbk⟩ := own_all hown
    replace HsX := Lib.hid (HsX.out.below hb)
    have HZ2 : Hid (w1.heap.size ≤ w2.heap.size) := Lib.hid hb.size
    replace HB := Lib.hid (Bthen HB.out hb)
    have HsP := Lib.hid hs
    have BkP : Hid (In aP w1.heap.size w2.heap.size) := Lib.hid hbk
    clear hs hbk hown hb
    go_wp2_with fail
    go_at_call 28
    have hcall := Of_calls aX cX l w2 HsX.out (by omega)
    refine hcall.mono ?_
    clear hcall
    rintro e w3 ⟨v, rfl, hown, hb⟩
    obtain ⟨aO, cO, rfl, hs, hbk⟩ := own_all hown
    replace HsX := Lib.hid (HsX.out.below hb)
    replace HsP := Lib.hid (HsP.out.below hb)
    have HZ3 : Hid (w2.heap.size ≤ w3.heap.size) := Lib.hid hb.size
    replace HB := Lib.hid (Bthen HB.out hb)
    have HsO := Lib.hid hs
    have BkO : Hid (In aO w2.heap.size w3.heap.size) := Lib.hid hbk
    have BlO := Lib.hid (own_blk hown)
    clear hs hbk hown hb
    go_wp2_with fail
    go_at_call 32
    have hcall := refOf_calls aP cP l w3 HsP.out (by omega)
    refine hcall.mono ?_
    clear hcall
    rintro e w4 h
    obtain ⟨v, rfl, hown, hb⟩ := h
    obtain ⟨aRO, cRO, rfl, hs, hbk⟩ := own_all hown
    replace HsX := Lib.hid (HsX.out.below hb)
    replace HsP := Lib.hid (HsP.out.below hb)
    replace HsO := Lib.hid (HsO.out.below hb)
    replace BlO := Lib.hid (fun hne => by obtain ⟨g, e, h⟩ := BlO.out hne; exact (⟨g, e, h.below hb⟩ : ∃ g, aO = some ⟨g, 0, none⟩ ∧ Blk w4 g _))
    have HZ4 : Hid (w3.heap.size ≤ w4.heap.size) := Lib.hid hb.size
    replace HB := Lib.hid (Bthen HB.out hb)
    have HsRO := Lib.hid hs
    have BkRO : Hid (In aRO w3.heap.size w4.heap.size) := Lib.hid hbk
    clear hs hbk hown hb
    go_wp2_with fail
    go_at_call 44
    have hcall := same_true aO aRO cO cRO _ (Rs.ofErr l) w4 HsO.out HsRO.out (by have := LO.out; omega)
    refine hcall.mono ?_
    clear hcall
    rintro e w5 ⟨rfl, hb⟩
    replace HsX := Lib.hid (HsX.out.below hb)
    replace HsP := Lib.hid (HsP.out.below hb)
    replace HsO := Lib.hid (HsO.out.below hb)
    replace HsRO := Lib.hid (HsRO.out.below hb)
    replace BlO := Lib.hid (fun hne => by obtain ⟨g, e, h⟩ := BlO.out hne; exact (⟨g, e, h.below hb⟩ : ∃ g, aO = some ⟨g, 0, none⟩ ∧ Blk w5 g _))
    have HZ5 : Hid (w4.heap.size ≤ w5.heap.size) := Lib.hid hb.size
    replace HB := Lib.hid (Bthen HB.out hb)
    clear hb
    clear HsRO
    go_wp2_with fail
    go_ret
    exact ⟨rfl, HB.out⟩
set_option maxRecDepth 100000 in
set_option maxHeartbeats 8000000 in
theorem tells_near (a : Option Addr) (ca : Nat) (l : Rs.S) (c : Int) (w : World) (hL : Lv w) (ha : RdR w a l) (na : a = none → l = [] ∧ ca = 0) (h1 : l.length ≤ 60) :
    Calls Tryz.prog 26 #[.slice a l.length ca, .int .i64 c] w fun e w' => e = .returned (.bool true) ∧ Below w.heap.size w w' := by
    have HAB := Lib.hid (show _ ∧ _ ∧ _ from ⟨ha, na, hL⟩)
    clear ha na hL
    have HB := Lib.hid (Below.refl w.heap.size w)
    have LO := Lib.hid (Rs.ofE_len l)
    have LN := Lib.hid (Rs.notE_len l)
    go_enter Tryz.func26, Tryz.ntmps26
    go_wp2_with fail
    go_at_call 39
    have hcall := cloneR_calls a ca l w HAB.out.1 HAB.out.2.1 (by omega)
    refine hcall.mono ?_
    clear hcall
    rintro e w1 ⟨v, rfl, hown, hb⟩
    obtain ⟨aX, cX, rfl, hs, hbk⟩ := own_all hown
    have HZ1 : Hid (w.heap.size ≤ w1.heap.size) := Lib.hid hb.size
    replace HB := Lib.hid (Bthen HB.out hb)
    have HsX := Lib.hid hs
    have BkX : Hid (In aX w.heap.size w1.heap.size) := Lib.hid hbk
    clear hs hbk hown hb
    go_wp2_with fail
    go_at_call 46
    have hcall := theirsR_calls a ca l w1 (HAB.out.1.lift HB.out) (by omega)
    refine hcall.mono ?_
    clear hcall
    rintro e w2 ⟨v, rfl, hown, hb⟩
    obtain ⟨aP, cP, rfl, hs, hbk⟩ := own_all hown
    replace HsX := Lib.hid (HsX.out.below hb)
    have HZ2 : Hid (w1.heap.size ≤ w2.heap.size) := Lib.hid hb.size
    replace HB := Lib.hid (Bthen HB.out hb)
    have HsP := Lib.hid hs
    have BkP : Hid (In aP w1.heap.size w2.heap.size) := Lib.hid hbk
    clear hs hbk hown hb
    go_wp2_with fail
    go_at_call 28
    have hcall := Of_calls aX cX l w2 HsX.out (by omega)
    refine hcall.mono ?_
    clear hcall
    rintro e w3 ⟨v, rfl, hown, hb⟩
    obtain ⟨aO, cO, rfl, hs, hbk⟩ := own_all hown
    replace HsX := Lib.hid (HsX.out.below hb)
    replace HsP := Lib.hid (HsP.out.below hb)
    have HZ3 : Hid (w2.heap.size ≤ w3.heap.size) := Lib.hid hb.size
    replace HB := Lib.hid (Bthen HB.out hb)
    have HsO := Lib.hid hs
    have BkO : Hid (In aO w2.heap.size w3.heap.size) := Lib.hid hbk
    have BlO := Lib.hid (own_blk hown)
    clear hs hbk hown hb
    go_wp2_with fail
    go_at_call 32
    have hcall := refOf_calls aP cP l w3 HsP.out (by omega)
    refine hcall.mono ?_
    clear hcall
    rintro e w4 h
    obtain ⟨v, rfl, hown, hb⟩ := h
    obtain ⟨aRO, cRO, rfl, hs, hbk⟩ := own_all hown
    replace HsX := Lib.hid (HsX.out.below hb)
    replace HsP := Lib.hid (HsP.out.below hb)
    replace HsO := Lib.hid (HsO.out.below hb)
    replace BlO := Lib.hid (fun hne => by obtain ⟨g, e, h⟩ := BlO.out hne; exact (⟨g, e, h.below hb⟩ : ∃ g, aO = some ⟨g, 0, none⟩ ∧ Blk w4 g _))
    have HZ4 : Hid (w3.heap.size ≤ w4.heap.size) := Lib.hid hb.size
    replace HB := Lib.hid (Bthen HB.out hb)
    have HsRO := Lib.hid hs
    have BkRO : Hid (In aRO w3.heap.size w4.heap.size) := Lib.hid hbk
    clear hs hbk hown hb
    go_wp2_with fail
    go_at_call 44
    have hcall := same_true aO aRO cO cRO _ (Rs.ofErr l) w4 HsO.out HsRO.out (by have := LO.out; omega)
    refine hcall.mono ?_
    clear hcall
    rintro e w5 ⟨rfl, hb⟩
    replace HsX := Lib.hid (HsX.out.below hb)
    replace HsP := Lib.hid (HsP.out.below hb)
    replace HsO := Lib.hid (HsO.out.below hb)
    replace HsRO := Lib.hid (HsRO.out.below hb)
    replace BlO := Lib.hid (fun hne => by obtain ⟨g, e, h⟩ := BlO.out hne; exact (⟨g, e, h.below hb⟩ : ∃ g, aO = some ⟨g, 0, none⟩ ∧ Blk w5 g _))
    have HZ5 : Hid (w4.heap.size ≤ w5.heap.size) := Lib.hid hb.size
    replace HB := Lib.hid (Bthen HB.out hb)
    clear hb
    clear HsRO
    go_wp2_with fail
    go_at_call 20
    have hcall := Not_calls aX cX l w5 HsX.out (by omega)
    refine hcall.mono ?_
    clear hcall
    rintro e w6 ⟨v, rfl, hown, hb⟩
    obtain ⟨aN, cN, rfl, hs, hbk⟩ := own_all hown
    replace HsX := Lib.hid (HsX.out.below hb)
    replace HsP := Lib.hid (HsP.out.below hb)
    replace HsO := Lib.hid (HsO.out.below hb)
    replace BlO := Lib.hid (fun hne => by obtain ⟨g, e, h⟩ := BlO.out hne; exact (⟨g, e, h.below hb⟩ : ∃ g, aO = some ⟨g, 0, none⟩ ∧ Blk w6 g _))
    have HZ6 : Hid (w5.heap.size ≤ w6.heap.size) := Lib.hid hb.size
    replace HB := Lib.hid (Bthen HB.out hb)
    have HsN := Lib.hid hs
    have BkN : Hid (In aN w5.heap.size w6.heap.size) := Lib.hid hbk
    have BlN := Lib.hid (own_blk hown)
    clear hs hbk hown hb
    go_wp2_with fail
    go_at_call 63
    have hcall := refNot_calls aP cP l w6 HsP.out (by omega)
    refine hcall.mono ?_
    clear hcall
    rintro e w7 h
    obtain ⟨v, rfl, hown, hb⟩ := h
    obtain ⟨aRN, cRN, rfl, hs, hbk⟩ := own_all hown
    replace HsX := Lib.hid (HsX.out.below hb)
    replace HsP := Lib.hid (HsP.out.below hb)
    replace HsO := Lib.hid (HsO.out.below hb)
    replace HsN := Lib.hid (HsN.out.below hb)
    replace BlO := Lib.hid (fun hne => by obtain ⟨g, e, h⟩ := BlO.out hne; exact (⟨g, e, h.below hb⟩ : ∃ g, aO = some ⟨g, 0, none⟩ ∧ Blk w7 g _))
    replace BlN := Lib.hid (fun hne => by obtain ⟨g, e, h⟩ := BlN.out hne; exact (⟨g, e, h.below hb⟩ : ∃ g, aN = some ⟨g, 0, none⟩ ∧ Blk w7 g _))
    have HZ7 : Hid (w6.heap.size ≤ w7.heap.size) := Lib.hid hb.size
    replace HB := Lib.hid (Bthen HB.out hb)
    have HsRN := Lib.hid hs
    have BkRN : Hid (In aRN w6.heap.size w7.heap.size) := Lib.hid hbk
    clear hs hbk hown hb
    go_wp2_with fail
    go_at_call 16
    have hcall := text_calls aX cX l w7 HsX.out (by omega) (HAB.out.2.2.below HB.out)
    refine hcall.mono ?_
    clear hcall
    rintro e w8 ⟨rfl, hb⟩
    replace HsX := Lib.hid (HsX.out.below hb)
    replace HsP := Lib.hid (HsP.out.below hb)
    replace HsO := Lib.hid (HsO.out.below hb)
    replace HsN := Lib.hid (HsN.out.below hb)
    replace HsRN := Lib.hid (HsRN.out.below hb)
    replace BlO := Lib.hid (fun hne => by obtain ⟨g, e, h⟩ := BlO.out hne; exact (⟨g, e, h.below hb⟩ : ∃ g, aO = some ⟨g, 0, none⟩ ∧ Blk w8 g _))
    replace BlN := Lib.hid (fun hne => by obtain ⟨g, e, h⟩ := BlN.out hne; exact (⟨g, e, h.below hb⟩ : ∃ g, aN = some ⟨g, 0, none⟩ ∧ Blk w8 g _))
    have HZ8 : Hid (w7.heap.size ≤ w8.heap.size) := Lib.hid hb.size
    replace HB := Lib.hid (Bthen HB.out hb)
    clear hb
    go_wp2_with fail
    go_at_call 64
    have hcall := rtext_calls aP cP l w8 HsP.out.rd (by omega)
    refine hcall.mono ?_
    clear hcall
    rintro e w9 ⟨rfl, hb⟩
    replace HsX := Lib.hid (HsX.out.below hb)
    replace HsP := Lib.hid (HsP.out.below hb)
    replace HsO := Lib.hid (HsO.out.below hb)
    replace HsN := Lib.hid (HsN.out.below hb)
    replace HsRN := Lib.hid (HsRN.out.below hb)
    replace BlO := Lib.hid (fun hne => by obtain ⟨g, e, h⟩ := BlO.out hne; exact (⟨g, e, h.below hb⟩ : ∃ g, aO = some ⟨g, 0, none⟩ ∧ Blk w9 g _))
    replace BlN := Lib.hid (fun hne => by obtain ⟨g, e, h⟩ := BlN.out hne; exact (⟨g, e, h.below hb⟩ : ∃ g, aN = some ⟨g, 0, none⟩ ∧ Blk w9 g _))
    have HZ9 : Hid (w8.heap.size ≤ w9.heap.size) := Lib.hid hb.size
    replace HB := Lib.hid (Bthen HB.out hb)
    clear hb
    generalize hTX : (⟨(Rs.textE l).toArray⟩ : ByteArray) = TX at *
    clear hTX
    go_wp2_with fail
    go_at_call 23
    have hcall := next_calls aX cX l c w9 HsX.out (by omega)
    refine hcall.mono ?_
    clear hcall
    rintro e w10 ⟨rfl, hb⟩
    replace HsX := Lib.hid (HsX.out.below hb)
    replace HsP := Lib.hid (HsP.out.below hb)
    replace HsO := Lib.hid (HsO.out.below hb)
    replace HsN := Lib.hid (HsN.out.below hb)
    replace HsRN := Lib.hid (HsRN.out.below hb)
    replace BlO := Lib.hid (fun hne => by obtain ⟨g, e, h⟩ := BlO.out hne; exact (⟨g, e, h.below hb⟩ : ∃ g, aO = some ⟨g, 0, none⟩ ∧ Blk w10 g _))
    replace BlN := Lib.hid (fun hne => by obtain ⟨g, e, h⟩ := BlN.out hne; exact (⟨g, e, h.below hb⟩ : ∃ g, aN = some ⟨g, 0, none⟩ ∧ Blk w10 g _))
    have HZ10 : Hid (w9.heap.size ≤ w10.heap.size) := Lib.hid hb.size
    replace HB := Lib.hid (Bthen HB.out hb)
    clear hb
    go_wp2_with fail
    go_at_call 65
    have hcall := ref_next_calls aP cP l c w10 HsP.out.rd (by omega)
    refine hcall.mono ?_
    clear hcall
    rintro e w11 ⟨rfl, nn, rfl⟩
    have hb : Below w10.heap.size w10 (w10.drewN nn) := below_drewN (Below.refl _ _) _
    generalize w10.drewN nn = w11 at *
    replace HsX := Lib.hid (HsX.out.below hb)
    replace HsP := Lib.hid (HsP.out.below hb)
    replace HsO := Lib.hid (HsO.out.below hb)
    replace HsN := Lib.hid (HsN.out.below hb)
    replace HsRN := Lib.hid (HsRN.out.below hb)
    replace BlO := Lib.hid (fun hne => by obtain ⟨g, e, h⟩ := BlO.out hne; exact (⟨g, e, h.below hb⟩ : ∃ g, aO = some ⟨g, 0, none⟩ ∧ Blk w11 g _))
    replace BlN := Lib.hid (fun hne => by obtain ⟨g, e, h⟩ := BlN.out hne; exact (⟨g, e, h.below hb⟩ : ∃ g, aN = some ⟨g, 0, none⟩ ∧ Blk w11 g _))
    have HZ11 : Hid (w10.heap.size ≤ w11.heap.size) := Lib.hid hb.size
    replace HB := Lib.hid (Bthen HB.out hb)
    clear hb
    generalize hNN : Rs.nextN l c = NN at *
    clear hNN
    generalize hNB : Rs.nextB l c = NB at *
    clear hNB
    go_wp2_with fail
    go_at_call 44
    have hcall := same_true aN aRN cN cRN _ (Rs.err (Rs.right l)) w11 HsN.out HsRN.out (by have := LN.out; omega)
    refine hcall.mono ?_
    clear hcall
    rintro e w12 ⟨rfl, hb⟩
    replace HsX := Lib.hid (HsX.out.below hb)
    replace HsP := Lib.hid (HsP.out.below hb)
    replace HsO := Lib.hid (HsO.out.below hb)
    replace HsN := Lib.hid (HsN.out.below hb)
    replace HsRN := Lib.hid (HsRN.out.below hb)
    replace BlO := Lib.hid (fun hne => by obtain ⟨g, e, h⟩ := BlO.out hne; exact (⟨g, e, h.below hb⟩ : ∃ g, aO = some ⟨g, 0, none⟩ ∧ Blk w12 g _))
    replace BlN := Lib.hid (fun hne => by obtain ⟨g, e, h⟩ := BlN.out hne; exact (⟨g, e, h.below hb⟩ : ∃ g, aN = some ⟨g, 0, none⟩ ∧ Blk w12 g _))
    have HZ12 : Hid (w11.heap.size ≤ w12.heap.size) := Lib.hid hb.size
    replace HB := Lib.hid (Bthen HB.out hb)
    clear hb
    generalize hER : Rs.err (Rs.right l) = ER at *
    clear hER
    clear HsRN
    go_wp2_with fail
    go_at_call 19
    have hcall := right_calls aX cX l w12 HsX.out.rd (by omega)
    refine hcall.mono ?_
    clear hcall
    rintro e w13 ⟨rfl, hb⟩
    replace HsX := Lib.hid (HsX.out.below hb)
    replace HsP := Lib.hid (HsP.out.below hb)
    replace HsO := Lib.hid (HsO.out.below hb)
    replace HsN := Lib.hid (HsN.out.below hb)
    replace BlO := Lib.hid (fun hne => by obtain ⟨g, e, h⟩ := BlO.out hne; exact (⟨g, e, h.below hb⟩ : ∃ g, aO = some ⟨g, 0, none⟩ ∧ Blk w13 g _))
    replace BlN := Lib.hid (fun hne => by obtain ⟨g, e, h⟩ := BlN.out hne; exact (⟨g, e, h.below hb⟩ : ∃ g, aN = some ⟨g, 0, none⟩ ∧ Blk w13 g _))
    have HZ13 : Hid (w12.heap.size ≤ w13.heap.size) := Lib.hid hb.size
    replace HB := Lib.hid (Bthen HB.out hb)
    clear hb
    go_wp2_with fail
    go_at_call 66
    have hcall := ref_right_b aP cP l w13 HsP.out.rd (by omega)
    refine hcall.mono ?_
    clear hcall
    rintro e w14 ⟨rfl, hb⟩
    replace HsX := Lib.hid (HsX.out.below hb)
    replace HsP := Lib.hid (HsP.out.below hb)
    replace HsO := Lib.hid (HsO.out.below hb)
    replace HsN := Lib.hid (HsN.out.below hb)
    replace BlO := Lib.hid (fun hne => by obtain ⟨g, e, h⟩ := BlO.out hne; exact (⟨g, e, h.below hb⟩ : ∃ g, aO = some ⟨g, 0, none⟩ ∧ Blk w14 g _))
    replace BlN := Lib.hid (fun hne => by obtain ⟨g, e, h⟩ := BlN.out hne; exact (⟨g, e, h.below hb⟩ : ∃ g, aN = some ⟨g, 0, none⟩ ∧ Blk w14 g _))
    have HZ14 : Hid (w13.heap.size ≤ w14.heap.size) := Lib.hid hb.size
    replace HB := Lib.hid (Bthen HB.out hb)
    clear hb
    go_wp2_with fail
    go_at_call 31
    have hcall := has_calls aX cX l c w14 HsX.out (by omega)
    refine hcall.mono ?_
    clear hcall
    rintro e w15 ⟨rfl, hb⟩
    replace HsX := Lib.hid (HsX.out.below hb)
    replace HsP := Lib.hid (HsP.out.below hb)
    replace HsO := Lib.hid (HsO.out.below hb)
    replace HsN := Lib.hid (HsN.out.below hb)
    replace BlO := Lib.hid (fun hne => by obtain ⟨g, e, h⟩ := BlO.out hne; exact (⟨g, e, h.below hb⟩ : ∃ g, aO = some ⟨g, 0, none⟩ ∧ Blk w15 g _))
    replace BlN := Lib.hid (fun hne => by obtain ⟨g, e, h⟩ := BlN.out hne; exact (⟨g, e, h.below hb⟩ : ∃ g, aN = some ⟨g, 0, none⟩ ∧ Blk w15 g _))
    have HZ15 : Hid (w14.heap.size ≤ w15.heap.size) := Lib.hid hb.size
    replace HB := Lib.hid (Bthen HB.out hb)
    clear hb
    go_wp2_with fail
    go_at_call 67
    have hcall := ref_has_pt aP cP l c w15 HsP.out.rd (by omega)
    refine hcall.mono ?_
    clear hcall
    rintro e w16 ⟨rfl, nn, rfl⟩
    have hb : Below w15.heap.size w15 (w15.drewN nn) := below_drewN (Below.refl _ _) _
    generalize w15.drewN nn = w16 at *
    replace HsX := Lib.hid (HsX.out.below hb)
    replace HsP := Lib.hid (HsP.out.below hb)
    replace HsO := Lib.hid (HsO.out.below hb)
    replace HsN := Lib.hid (HsN.out.below hb)
    replace BlO := Lib.hid (fun hne => by obtain ⟨g, e, h⟩ := BlO.out hne; exact (⟨g, e, h.below hb⟩ : ∃ g, aO = some ⟨g, 0, none⟩ ∧ Blk w16 g _))
    replace BlN := Lib.hid (fun hne => by obtain ⟨g, e, h⟩ := BlN.out hne; exact (⟨g, e, h.below hb⟩ : ∃ g, aN = some ⟨g, 0, none⟩ ∧ Blk w16 g _))
    have HZ16 : Hid (w15.heap.size ≤ w16.heap.size) := Lib.hid hb.size
    replace HB := Lib.hid (Bthen HB.out hb)
    clear hb
    go_wp2_with fail
    go_at_call 24
    have hcall := count_E aX cX l w16 HsX.out.rd (fun b off e => (HsX.out.sp _ e).2) (by omega)
    refine hcall.mono ?_
    clear hcall
    rintro e w17 ⟨rfl, hb⟩
    replace HsX := Lib.hid (HsX.out.below hb)
    replace HsP := Lib.hid (HsP.out.below hb)
    replace HsO := Lib.hid (HsO.out.below hb)
    replace HsN := Lib.hid (HsN.out.below hb)
    replace BlO := Lib.hid (fun hne => by obtain ⟨g, e, h⟩ := BlO.out hne; exact (⟨g, e, h.below hb⟩ : ∃ g, aO = some ⟨g, 0, none⟩ ∧ Blk w17 g _))
    replace BlN := Lib.hid (fun hne => by obtain ⟨g, e, h⟩ := BlN.out hne; exact (⟨g, e, h.below hb⟩ : ∃ g, aN = some ⟨g, 0, none⟩ ∧ Blk w17 g _))
    have HZ17 : Hid (w16.heap.size ≤ w17.heap.size) := Lib.hid hb.size
    replace HB := Lib.hid (Bthen HB.out hb)
    clear hb
    go_wp2_with fail
    go_at_call 68
    have hcall := ref_count_E aP cP l w17 HsP.out.rd (by omega)
    refine hcall.mono ?_
    clear hcall
    rintro e w18 ⟨rfl, nn, rfl⟩
    have hb : Below w17.heap.size w17 (w17.drewN nn) := below_drewN (Below.refl _ _) _
    generalize w17.drewN nn = w18 at *
    replace HsX := Lib.hid (HsX.out.below hb)
    replace HsP := Lib.hid (HsP.out.below hb)
    replace HsO := Lib.hid (HsO.out.below hb)
    replace HsN := Lib.hid (HsN.out.below hb)
    replace BlO := Lib.hid (fun hne => by obtain ⟨g, e, h⟩ := BlO.out hne; exact (⟨g, e, h.below hb⟩ : ∃ g, aO = some ⟨g, 0, none⟩ ∧ Blk w18 g _))
    replace BlN := Lib.hid (fun hne => by obtain ⟨g, e, h⟩ := BlN.out hne; exact (⟨g, e, h.below hb⟩ : ∃ g, aN = some ⟨g, 0, none⟩ ∧ Blk w18 g _))
    have HZ18 : Hid (w17.heap.size ≤ w18.heap.size) := Lib.hid hb.size
    replace HB := Lib.hid (Bthen HB.out hb)
    clear hb
    clear HsP
    go_wp2_with fail
    go_at_call 47
    have hcall := spoil2 aO aN cO cN (Rs.ofE l) (Rs.notE l) 25 w18 (fun p e => (HsO.out.sp p e).2) (fun p e => (HsN.out.sp p e).2) BlO.out BlN.out (by have := LO.out; omega) (by have := LN.out; omega)
    refine hcall.mono ?_
    clear hcall
    rintro e w19 ⟨rfl, hb⟩
    replace HsX := Lib.hid (hb.sl HsX.out (fun p e hm => (List.mem_append.1 hm).elim (In.not BkX.out BkO.out (by have := HZ1.out; have := HZ2.out; have := HZ3.out; have := HZ4.out; have := HZ5.out; have := HZ6.out; have := HZ7.out; have := HZ8.out; have := HZ9.out; have := HZ10.out; have := HZ11.out; have := HZ12.out; have := HZ13.out; have := HZ14.out; have := HZ15.out; have := HZ16.out; have := HZ17.out; have := HZ18.out; omega) p e) (In.not BkX.out BkN.out (by have := HZ1.out; have := HZ2.out; have := HZ3.out; have := HZ4.out; have := HZ5.out; have := HZ6.out; have := HZ7.out; have := HZ8.out; have := HZ9.out; have := HZ10.out; have := HZ11.out; have := HZ12.out; have := HZ13.out; have := HZ14.out; have := HZ15.out; have := HZ16.out; have := HZ17.out; have := HZ18.out; omega) p e)))
    have HZ19 : Hid (w18.heap.size ≤ w19.heap.size) := Lib.hid hb.size
    replace HB := Lib.hid (HB.out.trans (hb.toB (fun i hi => (List.mem_append.1 hi).elim (In.ge BkO.out (by have := HZ1.out; have := HZ2.out; have := HZ3.out; have := HZ4.out; have := HZ5.out; have := HZ6.out; have := HZ7.out; have := HZ8.out; have := HZ9.out; have := HZ10.out; have := HZ11.out; have := HZ12.out; have := HZ13.out; have := HZ14.out; have := HZ15.out; have := HZ16.out; have := HZ17.out; have := HZ18.out; omega) i) (In.ge BkN.out (by have := HZ1.out; have := HZ2.out; have := HZ3.out; have := HZ4.out; have := HZ5.out; have := HZ6.out; have := HZ7.out; have := HZ8.out; have := HZ9.out; have := HZ10.out; have := HZ11.out; have := HZ12.out; have := HZ13.out; have := HZ14.out; have := HZ15.out; have := HZ16.out; have := HZ17.out; have := HZ18.out; omega) i)) (by have := HZ1.out; have := HZ2.out; have := HZ3.out; have := HZ4.out; have := HZ5.out; have := HZ6.out; have := HZ7.out; have := HZ8.out; have := HZ9.out; have := HZ10.out; have := HZ11.out; have := HZ12.out; have := HZ13.out; have := HZ14.out; have := HZ15.out; have := HZ16.out; have := HZ17.out; have := HZ18.out; omega)))
    clear hb HsO HsN BlO BlN
    go_wp2_with fail
    go_at_call 18
    have hcall := eqR_calls aX a cX ca l l w19 HsX.out.rd (HAB.out.1.lift HB.out) (by omega)
    rw [show decide (l = l) = true from decide_eq_true rfl] at hcall
    refine hcall.mono ?_
    clear hcall
    rintro e w20 ⟨rfl, nX, rfl⟩
    have hb : Below w19.heap.size w19 (w19.drewN nX) := below_drewN (Below.refl _ _) _
    generalize w19.drewN nX = w20 at *
    replace HsX := Lib.hid (HsX.out.below hb)
    have HZ20 : Hid (w19.heap.size ≤ w20.heap.size) := Lib.hid hb.size
    replace HB := Lib.hid (Bthen HB.out hb)
    clear hb
    go_wp2_with fail
    go_ret
    exact ⟨rfl, HB.out⟩
set_option maxRecDepth 100000 in
set_option maxHeartbeats 2000000 in
theorem tells_calls (a : Option Addr) (ca : Nat) (l : Rs.S) (c : Int) (w : World) (hL : Lv w) (ha : RdR w a l) (na : a = none → l = [] ∧ ca = 0) :
    Calls Tryz.prog 26 #[.slice a l.length ca, .int .i64 c] w fun e w' => e = .returned (.bool true) ∧ Below w.heap.size w w' := by
  rcases (show l.length ≤ 60 ∨ (4096 < l.length ∧ l.length < 4100) ∨ ((60 < l.length ∧ l.length ≤ 4096) ∨ 4100 ≤ l.length) by omega) with h | ⟨h, h'⟩ | h
  · exact tells_near a ca l c w hL ha na h
  · exact tells_mid a ca l c w ha na h h'
  · exact tells_far a ca l c w h
set_option maxRecDepth 100000 in
set_option maxHeartbeats 2000000 in
theorem ClassTells_calls (a : Option Addr) (ca : Nat) (l : Rs.S) (c : Int) (w : World) (hL : Lv w) (ha : RdR w a l) (na : a = none → l = [] ∧ ca = 0) :
    Calls Tryz.prog 7 #[.slice a l.length ca, .int .i64 c] w fun e w' => e = .returned (.bool true) ∧ Below w.heap.size w w' := by
  have hj := tells_calls a ca l c w hL ha na
  have HL := Lib.hid hL
  clear hL ha na
  go_enter Tryz.func7, Tryz.ntmps7
  go_wp2_with fail
  go_at_call 26
  refine hj.mono ?_
  clear hj
  rintro e w1 ⟨rfl, hb⟩
  have HB := Lib.hid hb
  clear hb
  go_wp2_with fail
  go_at_call 14
  refine (awake_calls w1 (HL.out.below HB.out)).mono ?_
  rintro e w2 ⟨rfl, hb⟩
  replace HB := Lib.hid (Bthen HB.out hb)
  clear hb
  go_wp2_with fail
  go_ret
  exact ⟨rfl, HB.out⟩
end Go.Proofs.YtkjilodmmcefbaaGreatDoor
