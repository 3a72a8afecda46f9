/- Texts of the claim, put together: KTt. -/
import Derived.Test.YtdgfldeeflmnmaaGreatDoorSKTq
import Derived.Test.YtdgfldeeflmnmaaGreatDoorSKTo
import Derived.Test.YtdgfldeeflmnmaaGreatDoorSKtB
namespace Go.Proofs.YtdgfldeeflmnmaaGreatDoor.Sk
open Go Go.RowKit
/-- the items behind the first ones -/
def restS (l : List SI) (i : Int) : List SI := if 0 ≤ i ∧ i ≤ l.length then l.drop i.toNat else []
theorem restS_it (l : List SI) (i : Int) : (restS l i).map SI.it = fromS (l.map SI.it) i := by
  unfold restS fromS
  rw [List.length_map]
  split
  · rw [List.map_drop]
  · rfl
theorem restS_mem {l : List SI} {i : Int} {x : SI} (h : x ∈ restS l i) : x ∈ l := by
  unfold restS at h
  split at h
  · exact List.mem_of_mem_drop h
  · cases h
theorem restS_len (l : List SI) (i : Int) : (restS l i).length ≤ l.length := by
  unfold restS
  split
  · rw [List.length_drop]; omega
  · exact Nat.zero_le _
theorem rdF_drop {w : World} {b off : Nat} {xs : List Value} (h : RdF w (some ⟨b, off, none⟩) xs) (n : Nat) : RdF w (some ⟨b, off + n, none⟩) (xs.drop n) := by
  intro hx
  obtain ⟨b', off', e, hl, hc⟩ := h (by intro e; subst e; simp at hx)
  cases e
  refine ⟨b, off + n, rfl, hl, fun j u hu => ?_⟩
  rw [List.getElem?_drop] at hu
  rw [Nat.add_assoc]
  exact hc _ u hu
/-- labels of items that a change leaves as they are -/
theorem RdJ.frP {X : Nat → Prop} {w w' : World} {a : Option Addr} {l : List SI} (h : RdJ w a l) (hf : Fr X w w') (ha : ∀ q, a = some q → ¬ X q.block) (hl : ∀ x ∈ l, ∀ q, x.la = some q → ¬ X q.block) : RdJ w' a l :=
  ⟨h.rd.fr hf ha, fun x hx => (h.lab x hx).fr hf (fun _ q e => hl x hx q e)⟩
theorem RdEj.frP {X : Nat → Prop} {w w' : World} {a : Option Addr} {l : List SE} (h : RdEj w a l) (hf : Fr X w w') (ha : ∀ q, a = some q → ¬ X q.block) (hl : ∀ x ∈ l, ∀ q, x.la = some q → ¬ X q.block) : RdEj w' a l :=
  ⟨h.rd.fr hf ha, fun x hx => (h.lab x hx).fr hf (fun _ q e => hl x hx q e)⟩
theorem jok_of {l m : List SI} (h : JOk m) (he : l.map SI.it = m.map SI.it) : JOk l := by
  have hm : ∀ x ∈ l, ∃ y ∈ m, y.key = x.key ∧ y.e = x.e := fun x hx => by
    obtain ⟨k, hk⟩ := List.mem_iff_getElem?.1 hx
    obtain ⟨y, hy, e1, e2⟩ := map_at he hk
    exact ⟨y, List.mem_of_getElem? hy, e1, e2⟩
  refine ⟨fun x hx => ?_, fun x hx => ?_, fun x hx => ?_⟩
  · obtain ⟨y, hy, e1, _⟩ := hm x hx; rw [← e1]; exact h.ky y hy
  · obtain ⟨y, hy, _, e2⟩ := hm x hx; rw [← e2]; exact h.ln y hy
  · obtain ⟨y, hy, _, e2⟩ := hm x hx; rw [← e2]; exact h.sz y hy
theorem eok_of {l m : List SE} (h : EOk m) (he : l.map SE.e = m.map SE.e) : EOk l := by
  have hm : ∀ x ∈ l, ∃ y ∈ m, y.e = x.e := fun x hx => by
    obtain ⟨k, hk⟩ := List.mem_iff_getElem?.1 hx
    obtain ⟨y, hy, e⟩ := mapE_at he hk
    exact ⟨y, List.mem_of_getElem? hy, e⟩
  refine ⟨fun x hx => ?_, fun x hx => ?_⟩
  · obtain ⟨y, hy, e⟩ := hm x hx; rw [← e]; exact h.ln y hy
  · obtain ⟨y, hy, e⟩ := hm x hx; rw [← e]; exact h.sz y hy
theorem labs_eq {l m : List LL} (h : l.map (fun x : LL => bytesS x.lab) = m.map (fun x : LL => bytesS x.lab)) (hl : ∀ x ∈ l, labRight x.lab = true) (hm : ∀ x ∈ m, labRight x.lab = true) : l.map LL.lab = m.map LL.lab := by
  have hlen : l.length = m.length := by have := congrArg List.length h; simpa using this
  refine List.ext_getElem? fun k => ?_
  rw [List.getElem?_map, List.getElem?_map]
  have hk : (l.map (fun x : LL => bytesS x.lab))[k]? = (m.map (fun x : LL => bytesS x.lab))[k]? := by rw [h]
  rw [List.getElem?_map, List.getElem?_map] at hk
  cases hx : l[k]? with
  | none => rw [hx] at hk; cases hy : m[k]? with
    | none => rfl
    | some y => rw [hy] at hk; cases hk
  | some x =>
    rw [hx] at hk
    cases hy : m[k]? with
    | none => rw [hy] at hk; cases hk
    | some y =>
      rw [hy] at hk
      have := bytesS_inj (hl x (List.mem_of_getElem? hx)) (hm y (List.mem_of_getElem? hy)) (Option.some.inj hk)
      show some x.lab = some y.lab
      rw [this]
theorem spX_range {B : Nat} {w : World} {l : List SE} (h : ∀ x ∈ l, LlF B w x.la x.lc x.e.lab) {k : Nat} (hX : SpX l k) : B ≤ k ∧ k < w.heap.size := by
  obtain ⟨x, hx, q, e, rfl⟩ := hX
  exact ⟨((h x hx).lz q e).1, ((h x hx).lz.bk e).2.lt⟩
theorem slX_range {B : Nat} {w : World} {l : List LL} (h : ∀ x ∈ l, LlF B w x.la x.lc x.lab) {k : Nat} (hX : SlX l k) : B ≤ k ∧ k < w.heap.size := by
  obtain ⟨x, hx, q, e, rfl⟩ := hX
  exact ⟨((h x hx).lz q e).1, ((h x hx).lz.bk e).2.lt⟩
theorem SpS.far {X : Nat → Prop} {l : List SE} {w w' : World} (h : SpS l w) (hf : Fr X w w') (hx : ∀ k, SpX l k → ¬ X k) : SpS l w' := fun y hy => ⟨(h y hy).1, fun q e => by
  obtain ⟨h1, h2, h3, cur, k1, k2⟩ := (h y hy).2 q e
  exact ⟨h1, h2, h3, cur, (hf.block _ (isT_of k1).lt (hx _ ⟨y, hy, q, e, rfl⟩)).trans k1, k2⟩⟩
theorem SlS.far {X : Nat → Prop} {l : List LL} {w w' : World} (h : SlS l w) (hf : Fr X w w') (hx : ∀ k, SlX l k → ¬ X k) : SlS l w' := fun y hy => ⟨(h y hy).1, fun q e => by
  obtain ⟨h1, h2, h3, cur, k1, k2⟩ := (h y hy).2 q e
  exact ⟨h1, h2, h3, cur, (hf.block _ (isT_of k1).lt (hx _ ⟨y, hy, q, e, rfl⟩)).trans k1, k2⟩⟩
theorem isT.bel {B b : Nat} {w w' : World} {t : TypeId} (h : isT w b t) (hb : Below B w w') (hB : w.heap.size ≤ B) : isT w' b t := Fr.isT (Fr.of_below hb) h (fun hx => by have := h.lt; have hx : B ≤ b := hx; omega)
theorem mkE_all {B : Nat} {w : World} {l : List SI} (h : ∀ x ∈ l, LlF B w x.la x.lc x.e.lab) : ∀ x ∈ l.map mkE, LlF B w x.la x.lc x.e.lab := fun x hx => by
  obtain ⟨y, hy, rfl⟩ := List.mem_map.1 hx
  exact h y hy
set_option maxRecDepth 100000 in
set_option maxHeartbeats 8000000 in
theorem looks_calls (w : World) {p base mb n : Nat} {v : Value} {lS : List SI} (hS : SinkAt w p base mb n v lS) (hE : Ev w) (ai : Option Addr) (ci : Nat) (lI : List SI) (hI : RdJ w ai lI) (hIo : JOk lI) (hIr : ∀ y ∈ lI, itemRight (d y.key) y.e = true) (hci : lI.length ≤ ci) (hcm : ci ≤ 9223372036854775807) (hnil : ai = none → ci = 0) (hfm : ∀ q, ai = some q → ∃ b, q = ⟨b, 0, none⟩)
    (he : lS.map SI.it = lI.map SI.it) (name : ByteArray) (hname : name.size ≤ 1100000) (i : Int) (hi0 : -9223372036854775808 ≤ i) (hi1 : i ≤ 9223372036854775807) (hlen : lI.length ≤ 1000000) :
    Calls Tryz.prog 69 #[.pointer (some ⟨p, 0, none⟩), .slice ai lI.length ci, .string name, .int .i64 i] w (TdPost (.bool true) w) := by
  obtain ⟨its, hits⟩ : ∃ q, q = lI.map SI.it := ⟨_, rfl⟩
  have hSi : lS.map SI.it = its := by rw [hits, he]
  have HR := Lib.hid (And.intro hS (And.intro hE (And.intro hI (And.intro hIo hIr))))
  have HT := Lib.hid (And.intro hSi hits)
  have HNI := Lib.hid (And.intro hnil hfm)
  clear hS hE hI hIo hIr he hSi hits hnil hfm
  go_enter Tryz.func69, Tryz.ntmps69
  go_wp2_with fail
  go_at_call 14
  have hcall := all_callsF w HR.out.1
  rw [HT.out.1] at hcall
  refine hcall.mono ?_
  clear hcall
  rintro e w1 ⟨aA, cA, lA, rfl, hownA, hlA, hmA, hb1⟩
  have HA := Lib.hid (And.intro hownA (And.intro hlA (And.intro hmA hb1)))
  have hlAn : lA.length ≤ lI.length := by
    have h1 := congrArg List.length hmA
    rw [HT.out.2, List.length_map, List.length_map] at h1
    omega
  clear hownA hlA hmA hb1
  go_wp2_with fail
  go_at_call 49
  have hcall := from_callsF i w1 (HR.out.1.below HA.out.2.2.2)
  rw [HT.out.1] at hcall
  refine hcall.mono ?_
  clear hcall
  rintro e w2 ⟨aF, cF, lF, rfl, hownF, hlF, hmF, hb2⟩
  have HF := Lib.hid (And.intro hownF (And.intro hlF (And.intro hmF hb2)))
  have HB2 := Lib.hid (Bthen HA.out.2.2.2 hb2)
  clear hownF hlF hmF hb2
  go_wp2_with fail
  go_at_call 80
  have hcall := of_calls name w2 (HR.out.1.below HB2.out)
  rw [HT.out.1] at hcall
  refine hcall.mono ?_
  clear hcall
  rintro e w3 ⟨aO, cO, xO, rfl, hownO, hlO, hmO, hb3⟩
  have HO := Lib.hid (And.intro hownO (And.intro hlO (And.intro hmO hb3)))
  have HB3 := Lib.hid (Bthen HB2.out hb3)
  clear hownO hlO hmO hb3
  go_wp2_with fail
  go_at_call 79
  have hcall := open_calls name hname w3 (HR.out.2.1.below HB3.out).kv (HR.out.1.below HB3.out)
  rw [HT.out.1] at hcall
  refine hcall.mono ?_
  clear hcall
  rintro e w4 ⟨aP, cP, lP, rfl, hoP, hrP, hnP, hrdP, hzP, hbkP, hb4⟩
  have HP := Lib.hid (And.intro hoP (And.intro hrP (And.intro hrdP (And.intro hzP (And.intro hbkP hb4)))))
  have HB4 := Lib.hid (Bthen HB3.out hb4)
  clear hoP hrP hrdP hzP hbkP hb4
  go_wp2_with fail
  go_at_call 81
  have hcall := keys_calls w4 (HR.out.1.below HB4.out)
  rw [HT.out.1] at hcall
  refine hcall.mono ?_
  clear hcall
  rintro e w5 ⟨aK, cK, ks, rfl, hkK, hnK, hownK, hb5⟩
  have HK := Lib.hid (And.intro hkK (And.intro hownK hb5))
  have HB5 := Lib.hid (Bthen HB4.out hb5)
  have H15 := Lib.hid (And.intro (show Below w1.heap.size w1 w5 from Bthen (Bthen (Bthen HF.out.2.2.2 HO.out.2.2.2) HP.out.2.2.2.2.2) hb5) (And.intro (show Below w2.heap.size w2 w5 from Bthen (Bthen HO.out.2.2.2 HP.out.2.2.2.2.2) hb5) (And.intro (show Below w3.heap.size w3 w5 from Bthen HP.out.2.2.2.2.2 hb5) hb5)))
  clear hkK hownK hb5
  go_upto_region 3 with fail
  obtain ⟨q, hq⟩ : ∃ q, q = decide (0 ≤ i ∧ i ≤ (lI.length : Int)) := ⟨_, rfl⟩
  have HQ := Lib.hid hq
  clear hq
  go_cut [37] (fun s37 wx => s37 = .bool q ∧ w5 = wx)
  case first =>
    by_cases h1 : 0 ≤ i
    · by_cases h2 : i ≤ (lI.length : Int)
      · have HQ2 : Hid (q = true) := Lib.hid (by rw [HQ.out]; exact decide_eq_true ⟨h1, h2⟩)
        have d1 : decide (0 ≤ i) = true := decide_eq_true h1
        have d2 : decide (i ≤ (lI.length : Int)) = true := decide_eq_true h2
        go_wp2_with fail
        go_meet
        exact ⟨by rw [HQ2.out], rfl⟩
      · have HQ2 : Hid (q = false) := Lib.hid (by rw [HQ.out]; exact decide_eq_false (fun h => h2 h.2))
        have d1 : decide (0 ≤ i) = true := decide_eq_true h1
        have d2 : decide (i ≤ (lI.length : Int)) = false := decide_eq_false h2
        go_wp2_with fail
        go_meet
        exact ⟨by rw [HQ2.out], rfl⟩
    · have HQ2 : Hid (q = false) := Lib.hid (by rw [HQ.out]; exact decide_eq_false (fun h => h1 h.1))
      have d1 : decide (0 ≤ i) = false := decide_eq_false h1
      go_wp2_with fail
      go_meet
      exact ⟨by rw [HQ2.out], rfl⟩
  case rest =>
  obtain ⟨h37, hw⟩ := hcut
  subst h37
  subst hw
  try apply_assumption
  go_cut [14] (fun s14 wx => ∃ ar cr, s14 = .slice ar (restS lI i).length cr ∧ RdF w ar (iFlat (restS lI i)) ∧ w5 = wx)
  case first =>
    cases q with
    | false =>
      have hr0 : restS lI i = [] := by unfold restS; rw [if_neg (of_decide_eq_false HQ.out.symm)]
      have HR0 := Lib.hid hr0
      clear hr0
      go_wp2_with fail
      go_meet
      rw [HR0.out]
      exact ⟨none, 0, rfl, fun h => absurd rfl h, rfl⟩
    | true =>
      have hd := of_decide_eq_true HQ.out.symm
      obtain ⟨n', rfl⟩ := Int.eq_ofNat_of_zero_le hd.1
      have hnl : n' ≤ lI.length := by have := hd.2; omega
      have hr1 : restS lI (n' : Int) = lI.drop n' := by unfold restS; rw [if_pos hd]; rfl
      have hrl : (restS lI (n' : Int)).length = lI.length - n' := by rw [hr1, List.length_drop]
      have HRD := Lib.hid (And.intro hr1 (And.intro HR.out.2.2.1.rd hrl))
      clear hd hr1 hrl
      cases ai with
      | none =>
        have hc0 := HNI.out.1 rfl
        have HL : Hid (iFlat (restS lI (n' : Int)) = []) := Lib.hid (by
          rw [HRD.out.1, show lI = [] from List.eq_nil_of_length_eq_zero (by omega), List.drop_nil]
          rfl)
        have hcz : ci ≤ 0 := by omega
        clear hc0
        obtain rfl : n' = ci := by omega
        go_wp2_with fail
        go_meet
        rw [HRD.out.2.2, show lI.length - n' = 0 by omega, HL.out]
        exact ⟨_, _, rfl, fun h => absurd rfl h, rfl⟩
      | some ad =>
        obtain ⟨b, rfl⟩ := HNI.out.2 ad rfl
        have hdr : RdF w (some ⟨b, 0 + n' * 7, none⟩) (iFlat (restS lI (n' : Int))) := by
          rw [HRD.out.1, iFlat_drop]
          exact rdF_drop HRD.out.2.1 _
        have HDR := Lib.hid hdr
        clear hdr
        by_cases hnc : ci = n'
        · have hfl : iFlat (restS lI (n' : Int)) = [] := by
            have : n' = lI.length := by omega
            rw [HRD.out.1, this, List.drop_length]
            rfl
          have HFL := Lib.hid hfl
          clear hfl
          subst hnc
          go_wp2_with fail
          go_meet
          rw [HRD.out.2.2, show lI.length - ci = 0 by omega, HFL.out]
          exact ⟨_, _, rfl, fun h => absurd rfl h, rfl⟩
        · go_wp2_with fail
          go_meet
          rw [HRD.out.2.2]
          first
            | exact ⟨_, _, rfl, HDR.out, rfl⟩
            | exact ⟨_, _, rfl, by simpa using HDR.out, rfl⟩
  case rest =>
  obtain ⟨w6, hw6⟩ : ∃ q, q = wc := ⟨_, rfl⟩
  subst hw6
  obtain ⟨ar, cr, h14, hrd14, hw⟩ := hcut
  subst h14
  subst hw
  have hlS : lS.length = lI.length := by
    have h1 := congrArg List.length HT.out.1
    rw [HT.out.2, List.length_map, List.length_map] at h1
    exact h1
  have hmAI : lA.map SI.it = lI.map SI.it := HA.out.2.2.1.trans HT.out.2
  have hmFR : lF.map SI.it = (restS lI i).map SI.it := by rw [restS_it, ← HT.out.2]; exact HF.out.2.2.1
  have RA : RdJ w1 aA lA := RdJ.own HA.out.1 (fun x hx => (HA.out.2.1 x hx).ll.rd)
  have RF : RdJ w2 aF lF := RdJ.own HF.out.1 (fun x hx => (HF.out.2.1 x hx).ll.rd)
  have RO : RdEj w3 aO xO := RdEj.own HO.out.1 (fun x hx => (HO.out.2.1 x hx).ll.rd)
  have RR : RdJ w ar (restS lI i) := ⟨hrd14, fun x hx => HR.out.2.2.1.lab x (restS_mem hx)⟩
  have hrl : (restS lI i).length ≤ lI.length := restS_len lI i
  have hlF : lF.length ≤ lI.length := by
    have h1 := congrArg List.length hmFR
    rw [List.length_map, List.length_map] at h1
    omega
  have HRD := Lib.hid (And.intro RA (And.intro RF (And.intro RO (And.intro RR (And.intro hmAI (And.intro hmFR hlS))))))
  have HJA : Hid (JOk lA ∧ JOk lF) := Lib.hid ⟨jok_of HR.out.2.2.2.1 hmAI, jok_of (m := restS lI i) ⟨fun x hx => HR.out.2.2.2.1.ky x (restS_mem hx), fun x hx => HR.out.2.2.2.1.ln x (restS_mem hx), fun x hx => HR.out.2.2.2.1.sz x (restS_mem hx)⟩ hmFR⟩
  clear hrd14 hmAI hmFR RA RF RO RR hlS
  try apply_assumption
  go_wp2_with fail
  go_at_call 72
  refine (sameG_yes aA ai cA ci lA lI w5 (HRD.out.1.below H15.out.1) (HR.out.2.2.1.below HB5.out) HJA.out.1 (by omega) HRD.out.2.2.2.2.1).mono ?_
  rintro e w6 ⟨rfl, hb6⟩
  have HB6 := Lib.hid hb6
  clear hb6
  go_wp2_with fail
  go_at_call 72
  refine (sameG_yes aF ar cF cr lF (restS lI i) w6 ((HRD.out.2.1.below H15.out.2.1).below HB6.out) (HRD.out.2.2.2.1.below (Bthen HB5.out HB6.out)) HJA.out.2 (by omega) HRD.out.2.2.2.2.2.1).mono ?_
  rintro e w7 ⟨rfl, hb7⟩
  have HB7 := Lib.hid (Bthen HB6.out hb7)
  clear hb7 HB6
  go_wp2_with fail
  go_at_call 110
  refine (rof_calls ai ci lI name w7 (HR.out.2.2.1.below (Bthen HB5.out HB7.out)) hlen).mono ?_
  rintro e w8 ⟨a8, c8, rfl, hrd8, hb8⟩
  have HB8 := Lib.hid (And.intro (Bthen HB7.out hb8) hrd8)
  clear hb8 hrd8 HB7
  have hmO2 : xO.map SE.e = (ownX name lI).map SE.e := by rw [ownX_e, ← HT.out.2]; exact HO.out.2.2.1
  have hoX : EOk (ownX name lI) := ⟨fun x hx => by obtain ⟨y, hy, rfl⟩ := ownX_mem hx; exact HR.out.2.2.2.1.ln y hy, fun x hx => by obtain ⟨y, hy, rfl⟩ := ownX_mem hx; exact HR.out.2.2.2.1.sz y hy⟩
  have hoO : EOk xO := eok_of hoX hmO2
  have hxl : xO.length ≤ lI.length := by
    have h1 := congrArg List.length hmO2
    rw [List.length_map, List.length_map] at h1
    have := ownX_len name lI
    omega
  have HMO := Lib.hid (And.intro hmO2 hoO)
  clear hmO2 hoX hoO
  go_wp2_with fail
  go_at_call 67
  refine (entries_yes aO a8 cO c8 xO (ownX name lI) w8 ((HRD.out.2.2.1.below H15.out.2.2.1).below HB8.out.1) HB8.out.2 HMO.out.2 (by omega) HMO.out.1).mono ?_
  rintro e w9 ⟨rfl, hb9⟩
  have HB9 := Lib.hid (Bthen HB8.out.1 hb9)
  clear hb9 HB8
  go_wp2_with fail
  go_at_call 112
  refine (ropen_calls ai ci lI name w9 (HR.out.2.2.1.below (Bthen HB5.out HB9.out)) HR.out.2.2.2.1 HR.out.2.2.2.2 hlen).mono ?_
  rintro e w10 ⟨aQ, cQ, lQ, rfl, hoQ, hrQ, hrdQ, hb10⟩
  have hlabs : lP.map LL.lab = lQ.map LL.lab := labs_eq (HP.out.1.unique (HT.out.2 ▸ hoQ) (fun _ => rfl)) HP.out.2.1 hrQ
  have HB10 := Lib.hid (And.intro (Bthen HB9.out hb10) (And.intro hrdQ hlabs))
  clear hb10 hrdQ hoQ hrQ hlabs HB9
  go_wp2_with fail
  go_at_call 111
  have hcall := sameLL_calls aP aQ cP cQ lP lQ w10 ((HP.out.2.2.1.below H15.out.2.2.2).below HB10.out.1) HB10.out.2.1 (by omega) (fun x hx => by have := (labRight_ok (HP.out.2.1 x hx)).1; omega)
  rw [decide_eq_true HB10.out.2.2] at hcall
  refine hcall.mono ?_
  clear hcall
  rintro e w11 ⟨rfl, m11, hw11⟩
  have HB11 : Hid (Below w5.heap.size w5 w11) := Lib.hid (by rw [hw11]; exact below_drewN HB10.out.1 _)
  clear hw11 HB10
  go_wp2_with fail
  go_at_call 114
  refine (rkeys_calls ai ci lI w11 (HR.out.2.2.1.below (Bthen HB5.out HB11.out)) HR.out.2.2.2.1 hlen).mono ?_
  rintro e w12 ⟨aL, cL, rL, rfl, hsoL, hmL, hlL, hb12⟩
  have hkeq : ks = rL := HK.out.1.unique (HT.out.2 ▸ keys_are HR.out.2.2.2.2 HR.out.2.2.2.1.ky hsoL.so hmL)
  have HB12 := Lib.hid (And.intro (Bthen HB11.out hb12) (And.intro hsoL.rd hkeq))
  clear hb12 hsoL hmL hkeq HB11
  go_wp2_with fail
  go_at_call 113
  have hcall := sameT_calls aK aL cK cL ks rL w12 ((RdF.of_own HK.out.2.1).below HB12.out.1) HB12.out.2.1 (by omega)
  rw [decide_eq_true HB12.out.2.2] at hcall
  refine hcall.mono ?_
  clear hcall
  rintro e w13 ⟨rfl, m13, hw13⟩
  have HB13 : Hid (Below w5.heap.size w5 w13) := Lib.hid (by rw [hw13]; exact below_drewN HB12.out.1 _)
  clear hw13 HB12
  go_wp2_with fail
  go_at_call 31
  have hcall := len_calls w13 (HR.out.1.below (Bthen HB5.out HB13.out))
  rw [HRD.out.2.2.2.2.2.2] at hcall
  refine hcall.mono ?_
  clear hcall
  rintro e w14 ⟨rfl, rfl⟩
  go_wp2_with fail
  have HSA : Hid (SpS (lA.map mkE) w13 ∧ RdF w13 aA (iFlat lA) ∧ (∀ q, aA = some q → isT w13 q.block 40) ∧ Below w1.heap.size w1 w13) := Lib.hid (by
    have hb : Below w1.heap.size w1 w13 := Bthen H15.out.1 HB13.out
    exact ⟨(spS_of (mkE_all HA.out.2.1)).below hb, (RdF.of_own HA.out.1).below hb, fun q e => (own_type HA.out.1 q e).1.bel hb (Nat.le_refl _), hb⟩)
  go_loopw [83] (fun i wr => ∃ k : Nat, k ≤ lA.length ∧ i = .int .i64 k ∧ Fr (SpX (lA.map mkE)) w13 wr ∧ SpS (lA.map mkE) wr) (fun i _ => lA.length - (intOf i).toNat)
  case atStart => exact ⟨0, Nat.zero_le _, rfl, Fr.refl _ _, HSA.out.1⟩
  case round =>
    obtain ⟨k, hk, rfl, hf, hsp⟩ := hrel
    obtain ⟨w2, hw2⟩ : ∃ q, q = wr := ⟨_, rfl⟩
    subst hw2
    by_cases hlt : k < lA.length
    · obtain ⟨x, hx⟩ : ∃ x, lA[k]? = some x := ⟨_, List.getElem?_eq_getElem hlt⟩
      have hxm := List.mem_of_getElem? hx
      have hne : ∀ q, aA = some q → ¬ SpX (lA.map mkE) q.block := fun q e hX => by
        obtain ⟨y, hy, p, ep, e2⟩ := hX
        have h1 := (((HSA.out.1 y hy).2 p ep).2.2.2).isT
        exact h1.ne (HSA.out.2.2.1 q e) (by decide) e2.symm
      have hrd : RdF w2 aA (iFlat lA) := HSA.out.2.1.fr hf hne
      obtain ⟨b, off, e, hbl, hc⟩ := hrd (by
        intro e
        have h1 := congrArg List.length e
        rw [iFlat_length] at h1
        simp at h1
        omega)
      have hcc : ∀ j u, (iB x)[j]? = some u → w2.cell? ⟨b, off + k * 7 + j, none⟩ = some u := fun j u hu => by
        rw [Nat.add_assoc]
        exact hc _ _ (flat_at iB 7 (fun _ => rfl) hx hu)
      have c0 := hcc 0 _ rfl
      rw [Nat.add_zero] at c0
      have c1 := hcc 1 _ rfl
      have c2 := hcc 2 _ rfl
      have c3 := hcc 3 _ rfl
      have c4 := hcc 4 _ rfl
      have c5 := hcc 5 _ rfl
      have c6 := hcc 6 _ rfl
      have H1 := Lib.hid (And.intro hf (And.intro hsp hxm))
      clear hf hsp hne hrd hc hcc hx hxm
      subst e
      go_wp2_with fail
      obtain ⟨wZ, hwZ⟩ : ∃ q, q = (w2.alloc (.cells #[.string x.key, .slice x.la x.e.lab.length x.lc, .bool x.e.mark, .int .u64 x.e.bits, .bool x.e.st, .int .i64 x.e.time, .int .i64 x.e.stamp] 40)).alloc (.cells #[.slice x.la x.e.lab.length x.lc, .bool x.e.mark, .int .u64 x.e.bits, .bool x.e.st, .int .i64 x.e.time, .int .i64 x.e.stamp] 34) := ⟨_, rfl⟩
      obtain ⟨gY, hgY⟩ : ∃ q, q = w2.heap.size + 1 := ⟨_, rfl⟩
      have hbZ : Below w2.heap.size w2 wZ := by rw [hwZ]; exact ((Below.refl _ _).alloc (Nat.le_refl _) _).alloc (by simp) _
      have hkZ : wZ.heap[gY]? = some (.cells #[.slice x.la x.e.lab.length x.lc, .bool x.e.mark, .int .u64 x.e.bits, .bool x.e.st, .int .i64 x.e.time, .int .i64 x.e.stamp] 34 (0, 0)) := by
        rw [hwZ, hgY, show w2.heap.size + 1 = (w2.alloc (.cells #[.string x.key, .slice x.la x.e.lab.length x.lc, .bool x.e.mark, .int .u64 x.e.bits, .bool x.e.st, .int .i64 x.e.time, .int .i64 x.e.stamp] 40)).heap.size by simp]
        exact heap_alloc_new _ _
      rw [← hwZ, ← hgY]
      have hrd1 : RdF wZ (some ⟨gY, 0, none⟩) (eFlat [mkE x]) := fun _ => ⟨gY, 0, rfl, (isT_of hkZ).lt, fun j u hu => by
        rw [Nat.zero_add]
        refine block_cell hkZ j u ?_
        rw [← Array.getElem?_toList]
        rw [show eFlat [mkE x] = eB (mkE x) from List.append_nil _] at hu
        exact hu⟩
      have hs1 : SpS (lA.map mkE) wZ := H1.out.2.1.below hbZ
      have H2 := Lib.hid (And.intro (H1.out.1.trans (Fr.of_below2 (b := b) hbZ hbl)) (And.intro hs1 (List.mem_map_of_mem (f := mkE) H1.out.2.2)))
      have hcall := spoil_calls (some ⟨gY, 0, none⟩) 1 [mkE x] wZ hrd1 (fun q e => by cases e; exact isT_of hkZ) (fun y hy => hs1 y (by rw [List.mem_singleton.1 hy]; exact H2.out.2.2)) (by simp)
      clear hwZ hgY hbZ hkZ hrd1 hs1 H1 hbl c0 c1 c2 c3 c4 c5 c6
      go_at_call 68
      refine hcall.mono ?_
      clear hcall
      rintro e w4 ⟨rfl, hf4, hs4⟩
      have H4 : Hid (Fr (SpX (lA.map mkE)) w13 w4 ∧ SpS (lA.map mkE) w4) := Lib.hid ⟨H2.out.1.trans (hf4.mono (fun k _ hX => by
        obtain ⟨y, hy, q, e, h⟩ := hX
        exact ⟨y, by rw [List.mem_singleton.1 hy]; exact H2.out.2.2, q, e, h⟩)), H2.out.2.1.fr hf4 hs4 (fun y hy => by rw [List.mem_singleton.1 hy]; exact H2.out.2.2)⟩
      clear hf4 hs4 H2
      go_wp2_with fail
      go_roundw
      case rel => exact ⟨k + 1, by omega, by go_num, H4.out.1, H4.out.2⟩
      case measure => simp [intOf]; omega
    · obtain ⟨w14, hw14⟩ : ∃ q, q = w2 := ⟨_, rfl⟩
      subst hw14
      have hXA : ∀ b, SpX (lA.map mkE) b → w.heap.size ≤ b ∧ b < w1.heap.size := fun b hX => spX_range (mkE_all HA.out.2.1) hX
      have hB14 : Below w.heap.size w w14 := Bthen HB5.out HB13.out |>.trans (hf.below (fun k hk hX => by have := (hXA k hX).1; omega) (Nat.le_trans HB5.out.size HB13.out.size))
      have HB14s : Hid (w13.heap.size ≤ w14.heap.size) := Lib.hid hf.size
      have hs12 : w1.heap.size ≤ w2.heap.size := HF.out.2.2.2.size
      have hs23 : w2.heap.size ≤ w3.heap.size := HO.out.2.2.2.size
      have hs1 : w.heap.size ≤ w1.heap.size := HA.out.2.2.2.size
      have hs34 : w3.heap.size ≤ w4.heap.size := HP.out.2.2.2.2.2.size
      have hx1 : ∀ b, w1.heap.size ≤ b → ¬ SpX (lA.map mkE) b := fun b hb hX => by have := (hXA b hX).2; omega
      have hXO : ∀ b, SpX xO b → w2.heap.size ≤ b ∧ b < w3.heap.size := fun b hX => spX_range HO.out.2.1 hX
      have hLP : ∀ x ∈ lP, LlF w3.heap.size w4 x.la x.lc x.lab := fun x hx => ⟨HP.out.2.2.1.lab x hx, HP.out.2.2.2.1 x hx⟩
      have hXP : ∀ b, SlX lP b → w3.heap.size ≤ b ∧ b < w4.heap.size := fun b hX => slX_range hLP hX
      have hB213 : Below w2.heap.size w2 w13 := Bthen H15.out.2.1 HB13.out
      have hB313 : Below w3.heap.size w3 w13 := Bthen H15.out.2.2.1 HB13.out
      have hB413 : Below w4.heap.size w4 w13 := Bthen H15.out.2.2.2 HB13.out
      have RF : RdJ w14 aF lF := (HRD.out.2.1.below hB213).frP hf (fun q e => hx1 _ (own_type HF.out.1 q e).2) (fun x hx q e => hx1 _ ((HF.out.2.1 x hx).lz q e).1)
      have RR : RdJ w14 ar (restS lI i) := HRD.out.2.2.2.1.below hB14
      have hoT : ∀ q, aO = some q → ¬ SpX (lA.map mkE) q.block := fun q e => hx1 _ (by have := (own_type HO.out.1 q e).2; omega)
      have hpT : ∀ q, aP = some q → ¬ SpX (lA.map mkE) q.block := fun q e => hx1 _ (by have := (HP.out.2.2.2.2.1 q e).1; omega)
      have SO : SpS xO w14 := ((spS_of HO.out.2.1).below hB313).far hf (fun k hX => hx1 k (by have := (hXO k hX).1; omega))
      have RO : RdF w14 aO (eFlat xO) := ((RdF.of_own HO.out.1).below hB313).fr hf hoT
      have TO : ∀ q, aO = some q → isT w14 q.block 34 := fun q e => Fr.isT hf ((own_type HO.out.1 q e).1.bel hB313 (Nat.le_refl _)) (hoT q e)
      have SP : SlS lP w14 := ((slS_of hLP).far (Fr.of_below hB413) (fun k hX hk => by have := (hXP k hX).2; have hk : w4.heap.size ≤ k := hk; omega)).far hf (fun k hX => hx1 k (by have := (hXP k hX).1; omega))
      have RP : RdF w14 aP (lP.map llB) := (HP.out.2.2.1.rd.below hB413).fr hf hpT
      have TP : ∀ q, aP = some q → isT w14 q.block 31 := fun q e => Fr.isT hf ((HP.out.2.2.2.2.1 q e).2.bel hB413 (Nat.le_refl _)) (hpT q e)
      have H14 := Lib.hid (And.intro hB14 (And.intro RF (And.intro RR (And.intro (And.intro SO (And.intro RO TO)) (And.intro SP (And.intro RP TP))))))
      have HX := Lib.hid (And.intro hXO hXP)
      clear hf hsp hXA hB14 hs12 hx1 hXO hXP hLP hB213 hB313 hB413 RF RR hoT hpT SO RO TO SP RP TP
      go_wp2_with fail
      go_at_call 72
      refine (sameG_yes aF ar cF cr lF (restS lI i) w14 H14.out.2.1 H14.out.2.2.1 HJA.out.2 (by omega) HRD.out.2.2.2.2.2.1).mono ?_
      rintro e w15 ⟨rfl, hb15⟩
      have HB15 := Lib.hid hb15
      clear hb15
      go_wp2_with fail
      go_at_call 68
      refine (spoil_calls aO cO xO w15 (H14.out.2.2.2.1.2.1.below HB15.out) (fun q e => (H14.out.2.2.2.1.2.2 q e).bel HB15.out (Nat.le_refl _)) (H14.out.2.2.2.1.1.below HB15.out) (by omega)).mono ?_
      rintro e w16 ⟨rfl, hf16, hs16⟩
      have hpO : ∀ q, aP = some q → ¬ SpX xO q.block := fun q e hX => by
        obtain ⟨y, hy, p', ep, e2⟩ := hX
        have h1 := (((H14.out.2.2.2.1.1.below HB15.out) y hy).2 p' ep).2.2.2.isT
        exact h1.ne ((H14.out.2.2.2.2.2.2 q e).bel HB15.out (Nat.le_refl _)) (by decide) e2.symm
      have SP : SlS lP w16 := (H14.out.2.2.2.2.1.far (Fr.of_below HB15.out) (fun k hX hk => by have := (HX.out.2 k hX).2; have hk : w14.heap.size ≤ k := hk; have := HB13.out.size; have := H15.out.2.2.2.size; have := HB14s.out; omega)).far hf16 (fun k hX hX2 => by have := (HX.out.1 k hX2).2; have := (HX.out.2 k hX).1; omega)
      have RP : RdF w16 aP (lP.map llB) := (H14.out.2.2.2.2.2.1.below HB15.out).fr hf16 hpO
      have TP : ∀ q, aP = some q → isT w16 q.block 31 := fun q e => Fr.isT hf16 ((H14.out.2.2.2.2.2.2 q e).bel HB15.out (Nat.le_refl _)) (hpO q e)
      have hB16 : Below w.heap.size w w16 := (Bthen H14.out.1 HB15.out).trans (hf16.below (fun k hk hX => by have := (HX.out.1 k hX).1; have := HB2.out.size; omega) (Bthen H14.out.1 HB15.out).size)
      have H16 := Lib.hid (And.intro hB16 (And.intro SP (And.intro RP TP)))
      clear hf16 hs16 hpO SP RP TP hB16
      go_wp2_with fail
      go_at_call 115
      refine (spoilLL_calls aP cP lP w16 H16.out.2.2.1 H16.out.2.2.2 H16.out.2.1 (by omega)).mono ?_
      rintro e w17 ⟨rfl, hf17⟩
      have hB17 : Below w.heap.size w w17 := H16.out.1.trans (hf17.below (fun k hk hX => by have := (HX.out.2 k hX).1; have := HB3.out.size; omega) H16.out.1.size)
      have HB17 := Lib.hid hB17
      clear hf17 hB17
      go_wp2_with fail
      go_at_call 14
      have hcall := all_callsF w17 (HR.out.1.below HB17.out)
      rw [HT.out.1] at hcall
      refine hcall.mono ?_
      clear hcall
      rintro e w18 ⟨a18, c18, l18, rfl, hown18, hl18, hm18, hb18⟩
      have hn18 : l18.length = lI.length := by
        have h1 := congrArg List.length (hm18.trans HT.out.2)
        rw [List.length_map, List.length_map] at h1
        exact h1
      have H18 := Lib.hid (And.intro (RdJ.own hown18 (fun x hx => (hl18 x hx).ll.rd)) (And.intro (jok_of HR.out.2.2.2.1 (hm18.trans HT.out.2)) (And.intro (hm18.trans HT.out.2) (Bthen HB17.out hb18))))
      have hn18' : l18.length ≤ lI.length := by omega
      clear hown18 hl18 hm18 hb18 hn18
      go_wp2_with fail
      go_at_call 72
      refine (sameG_yes a18 ai c18 ci l18 lI w18 H18.out.1 (HR.out.2.2.1.below H18.out.2.2.2) H18.out.2.1 (by omega) H18.out.2.2.1).mono ?_
      rintro e w19 ⟨rfl, hb19⟩
      have HB19 := Lib.hid (Bthen H18.out.2.2.2 hb19)
      clear hb19
      go_wp2_with fail
      go_ret
      exact ⟨rfl, HB19.out⟩
end Go.Proofs.YtdgfldeeflmnmaaGreatDoor.Sk
namespace Go.Proofs.YtdgfldeeflmnmaaGreatDoor.Sk
open Go Go.RowKit
theorem Ll.frP {X : Nat → Prop} {w w' : World} {a : Option Addr} {cap : Nat} {l : List Lab} (h : Ll w a cap l) (hf : Fr X w w') (hx : l ≠ [] → ∀ q, a = some q → ¬ X q.block) : Ll w' a cap l :=
  ⟨h.rd.fr hf hx, h.nil, fun hl q e => hf.isT (h.ty hl q e) (hx hl q e)⟩
/-- a sink behind a change of labels that are not its own -/
theorem SinkAt.frL {X : Nat → Prop} {w w' : World} {p base mb n : Nat} {v : Value} {l : List SI} (h : SinkAt w p base mb n v l) (hf : Fr X w w') (hX : ∀ k, X k → isT w k 79) (hx : ∀ x ∈ l, x.e.lab ≠ [] → ∀ q, x.la = some q → ¬ X q.block) : SinkAt w' p base mb n v l :=
  ⟨(hf.block p h.lp (fun hX' => (hX p hX').ne (isT_of h.cells) (by decide) rfl)).trans h.cells, own_fr h.own hf (fun k hk hx' => (hX k hx').ne (own_isT h.own hk) (by decide) rfl), fun x hx' => (h.lab x hx').frP hf (hx x hx'), h.map.fr hf (fun hx' => h.notMap (hX mb hx') rfl), h.le, h.len, h.ok, Nat.le_trans h.bs hf.size⟩
theorem own_fr' {X : Nat → Prop} {w w' : World} {base n cap k size : Nat} {T : TypeId} {a : Option Addr} {xs : List Value} (h : w.ownsRow base T size (.slice a n cap) k xs) (hf : Fr X w w') (hx : ∀ b, base ≤ b → ¬ X b) : w'.ownsRow base T size (.slice a n cap) k xs := own_fr h hf (fun b hb => hx b (own_base h hb))
theorem RdE.own {w : World} {base n cap k : Nat} {a : Option Addr} {l : List SE} (h : w.ownsRow base 34 6 (.slice a n cap) k (eFlat l)) (hl : ∀ x ∈ l, Ll w x.la x.lc x.e.lab) : RdE w a l := by
  refine ⟨fun hx => ?_, hl⟩
  obtain ⟨g, e, _, ht, hc⟩ := own_at0 h (by
    intro e
    have h1 := congrArg List.length e
    rw [eFlat_length, List.length_nil] at h1
    exact hx (List.eq_nil_of_length_eq_zero (by omega)))
  exact ⟨g, 0, e, ht, fun j u hu => by rw [Nat.zero_add]; exact hc j u hu⟩
theorem toIt_eq {key : ByteArray} {l m : List SE} (h : l.map SE.e = m.map SE.e) : l.map (toIt key) = m.map (toIt key) := by
  have : ∀ l : List SE, l.map (toIt key) = (l.map SE.e).map (fun e => (⟨key, e⟩ : It)) := fun l => by rw [List.map_map]; rfl
  rw [this, this, h]
theorem it_rightT {l m : List SI} (h : l.map SI.it = m.map SI.it) (hr : ∀ y ∈ l, itemRight (d y.key) y.e = true) : ∀ y ∈ m, itemRight (d y.key) y.e = true := fun y hy => by
  obtain ⟨k, hk⟩ := List.mem_iff_getElem?.1 hy
  obtain ⟨z, hz, e1, e2⟩ := map_at h.symm hk
  have := hr z (List.mem_of_getElem? hz)
  rw [e1, e2] at this
  exact this
/-- what stands at the head of the loop over the calls -/
def TInv (w : World) (l : List CA) (p base mb : Nat) (items i : Value) (wr : World) : Prop :=
  ∃ (k n : Nat) (v : Value) (lS : List SI) (ai : Option Addr) (ci : Nat) (lI : List SI), k ≤ l.length ∧ i = .int .i64 k ∧ items = .slice ai lI.length ci ∧ SinkAt wr p base mb n v lS ∧ lS.map SI.it = lI.map SI.it ∧ RdF wr ai (iFlat lI) ∧ (∀ y ∈ lI, RdL w y.la y.e.lab) ∧ JOk lI ∧ lI.length ≤ ci ∧ (ai = none → ci = 0) ∧ (∀ q, ai = some q → ∃ b, q = ⟨b, 0, none⟩) ∧ ci ≤ 9223372036854775807 ∧
    (∀ q, ai = some q → (q.block ≠ p ∧ q.block ≠ mb ∧ v.ownBlock ≠ some q.block) ∧ q.block < wr.heap.size) ∧ Below w.heap.size w wr
set_option maxRecDepth 100000 in
set_option maxHeartbeats 8000000 in
theorem tells_calls (ac : Option Addr) (cc : Nat) (l : List CA) (name : ByteArray) (i : Int) (w : World) (hE : Ev w) (hC : RdC w ac l) (hck : ∀ x ∈ l, x.key.size ≤ 1100000) (hce : ∀ x ∈ l, EOk x.es) (hcn : ∀ x ∈ l, ∀ y ∈ x.es, y.la = none → y.lc = 0)
    (hn : l.length ≤ 1100000) (hs : sumC l ≤ 1100000) (hname : name.size ≤ 1100000) (hi0 : -9223372036854775808 ≤ i) (hi1 : i ≤ 9223372036854775807) :
    Calls Tryz.prog 23 #[.slice ac l.length cc, .string name, .int .i64 i] w (TdPost (.bool true) w) := by
  have HR := Lib.hid (And.intro hE (And.intro hC (And.intro hck (And.intro hce hcn))))
  clear hE hC hck hce hcn
  go_enter Tryz.func23, Tryz.ntmps23
  go_wp2_with fail
  go_at_call 64
  refine (little_calls ac cc l w HR.out.2.1 hn hs).mono ?_
  rintro e w1 ⟨⟨b, rfl, hlit⟩, hb1⟩
  have HB1 := Lib.hid hb1
  clear hb1
  cases b with
  | false =>
    clear hlit
    go_wp2_with fail
    go_ret
    exact ⟨rfl, HB1.out⟩
  | true =>
    have HL := Lib.hid (hlit rfl)
    clear hlit
    go_wp2_with fail
    go_at_call 6
    refine (new_calls w1).mono ?_
    rintro e w2 ⟨rfl, hS, hb2, _⟩
    obtain ⟨p, hp⟩ : ∃ q, q = w1.heap.size + 1 := ⟨_, rfl⟩
    obtain ⟨base, hbase⟩ : ∃ q, q = w1.heap.size + 2 := ⟨_, rfl⟩
    obtain ⟨mb, hmb⟩ : ∃ q, q = w1.heap.size := ⟨_, rfl⟩
    rw [← hp, ← hbase, ← hmb] at hS
    rw [← hp]
    have hs1 := HB1.out.size
    have HPB : Hid (w.heap.size ≤ p ∧ w.heap.size ≤ mb ∧ w.heap.size ≤ base) := Lib.hid ⟨by omega, by omega, by omega⟩
    have H2 := Lib.hid (And.intro hS (Bthen HB1.out hb2))
    clear hp hbase hmb hS hb2 hs1
    go_wp2_with fail
    go_loopw [8, 24] (fun its j wr => TInv w l p base mb its j wr) (fun _ j _ => l.length - (intOf j).toNat)
    case atStart => exact ⟨0, 0, .slice none 0 0, [], none, 0, [], Nat.zero_le _, rfl, rfl, H2.out.1, rfl, fun h => absurd rfl h, (fun y hy => by cases hy), ⟨(fun x hx => by cases hx), (fun x hx => by cases hx), (fun x hx => by cases hx)⟩, Nat.le_refl _, fun _ => rfl, (fun q e => by cases e), by omega, (fun q e => by cases e), H2.out.2⟩
    case round =>
      obtain ⟨k, n, v, lS, ai, ci, lI, hk, rfl, rfl, hS, hm, hRI, hlab, hJ, hci, hnil, hfm, hcm, hblk, hb⟩ := hrel
      obtain ⟨w3, hw3⟩ : ∃ q, q = wr := ⟨_, rfl⟩
      subst hw3
      have hlen : lI.length ≤ 65536 := by
        have h1 := congrArg List.length hm
        rw [List.length_map, List.length_map] at h1
        have := hS.len
        omega
      have hs3 := hb.size
      have H3 := Lib.hid (And.intro hS (And.intro hm (And.intro hRI (And.intro hlab (And.intro hJ (And.intro hnil (And.intro hfm (And.intro hblk hb))))))))
      clear hS hm hRI hlab hJ hnil hfm hblk hb
      by_cases hlt : k < l.length
      · obtain ⟨x, hx⟩ : ∃ x, l[k]? = some x := ⟨_, List.getElem?_eq_getElem hlt⟩
        have hxm := List.mem_of_getElem? hx
        have hxs : x.es.length ≤ 60 := by
          have h1 := sumC_le l (k + 1)
          rw [sumC_snoc hx] at h1
          have := HL.out.2.1
          omega
        obtain ⟨b, off, rfl, hbl, hc⟩ := (HR.out.2.1.below H3.out.2.2.2.2.2.2.2.2).at_ hx
        have c0 := hc 0 _ rfl
        rw [Nat.add_zero] at c0
        have c1 := hc 1 _ rfl
        have HX := Lib.hid (And.intro hx (And.intro hxm (HL.out.2.2 x hxm)))
        have hkey := HR.out.2.2.1 x hxm
        clear hc hx hxm
        go_wp2_with fail
        obtain ⟨w4, hw4⟩ : ∃ q, q = w3.alloc (.cells #[.string x.key, .slice x.ea x.es.length x.ec] 61) := ⟨_, rfl⟩
        obtain ⟨gC, hgC⟩ : ∃ q, q = w3.heap.size := ⟨_, rfl⟩
        have hb4 : Below w3.heap.size w3 w4 := by rw [hw4]; exact (Below.refl _ _).alloc (Nat.le_refl _) _
        have hk4 : w4.heap[gC]? = some (.cells #[.string x.key, .slice x.ea x.es.length x.ec] 61 (0, 0)) := by rw [hw4, hgC]; exact heap_alloc_new w3 _
        rw [← hw4, ← hgC]
        have H4 := Lib.hid (And.intro hb4 (And.intro hk4 (And.intro hgC (Bthen H3.out.2.2.2.2.2.2.2.2 hb4))))
        clear hw4 hgC hb4 hk4 c0 c1
        go_at_call 65
        refine (copiedJ_calls x.ea x.ec x.es w4 ((HR.out.2.1.es x HX.out.2.1).below H4.out.2.2.2) (fun y hy => HR.out.2.2.2.2 x HX.out.2.1 y hy) (fun y hy => by have := HX.out.2.2 y hy; omega) (by omega)).mono ?_
        rintro e w5 ⟨a5, c5, xs, rfl, hown5, hm5, hl5, hb5⟩
        have hxl : xs.length = x.es.length := by
          have h1 := congrArg List.length hm5
          rw [List.length_map, List.length_map] at h1
          exact h1
        have hk5 := (hb5.block _ (isT_of H4.out.2.1).lt).trans H4.out.2.1
        have y1 := block_cell hk5 1 _ rfl
        have hcl5 := (isT_of hk5).lt
        have H5 := Lib.hid (And.intro hown5 (And.intro hm5 (And.intro hl5 (And.intro hb5 (And.intro hk5 (And.intro (Bthen H4.out.2.2.2 hb5) hxl))))))
        clear hown5 hm5 hl5 hb5 hk5 hxl
        go_wp2_with fail
        clear y1 hcl5
        go_loopw [12, 35] (fun out j wr => ∃ m : Nat, m ≤ x.es.length ∧ j = .int .i64 m ∧ wr.ownsRow w5.heap.size 68 6 out m (eFlat (x.es.take m)) ∧ Below w5.heap.size w5 wr) (fun _ j _ => x.es.length - (intOf j).toNat)
        case atStart => exact ⟨0, Nat.zero_le _, rfl, World.ownsRow_nil _ _ _ _, Below.refl _ _⟩
        case round =>
          obtain ⟨m, hm, rfl, hown, hb6⟩ := hrel
          obtain ⟨w6, hw6⟩ : ∃ q, q = wr := ⟨_, rfl⟩
          subst hw6
          have hs6 := hb6.size
          have H6 := Lib.hid (And.intro hown hb6)
          clear hown hb6
          by_cases hml : m < x.es.length
          · obtain ⟨y, hy⟩ : ∃ y, x.es[m]? = some y := ⟨_, List.getElem?_eq_getElem hml⟩
            obtain ⟨be, oe, hea, hbe, hce⟩ := ((HR.out.2.1.es x HX.out.2.1).below (Bthen H5.out.2.2.2.2.2.1 H6.out.2)).at_ hy
            rw [hea]
            have d0 := hce 0 _ rfl
            rw [Nat.add_zero] at d0
            have d1 := hce 1 _ rfl
            have d2 := hce 2 _ rfl
            have d3 := hce 3 _ rfl
            have d4 := hce 4 _ rfl
            have d5 := hce 5 _ rfl
            have HY := Lib.hid (And.intro hy hea)
            clear hce hy hea
            go_upto_region 13 with fail
            obtain ⟨w7, hw7⟩ : ∃ q, q = w6.alloc (.cells #[.slice y.la y.e.lab.length y.lc, .bool y.e.mark, .int .u64 y.e.bits, .bool y.e.st, .int .i64 y.e.time, .int .i64 y.e.stamp] 34) := ⟨_, rfl⟩
            obtain ⟨gZ, hgZ⟩ : ∃ q, q = w6.heap.size := ⟨_, rfl⟩
            have hown7 : w7.ownsRow w5.heap.size 68 6 u12 m (eFlat (x.es.take m)) := by rw [hw7]; exact H6.out.1.alloc _
            have hb7 : Below w5.heap.size w5 w7 := by rw [hw7]; exact H6.out.2.alloc hs6 _
            have hk7 : w7.heap[gZ]? = some (.cells #[.slice y.la y.e.lab.length y.lc, .bool y.e.mark, .int .u64 y.e.bits, .bool y.e.st, .int .i64 y.e.time, .int .i64 y.e.stamp] 34 (0, 0)) := by rw [hw7, hgZ]; exact heap_alloc_new w6 _
            rw [← hw7, ← hgZ]
            have x0 := block_cell hk7 0 _ rfl
            have x1 := block_cell hk7 1 _ rfl
            have x2 := block_cell hk7 2 _ rfl
            have x3 := block_cell hk7 3 _ rfl
            have x4 := block_cell hk7 4 _ rfl
            have x5 := block_cell hk7 5 _ rfl
            have hxl7 := (isT_of hk7).lt
            have hs7 := hb7.size
            have H7 := Lib.hid (And.intro hown7 hb7)
            clear hw7 hgZ hown7 hb7 hk7 d0 d1 d2 d3 d4 d5 hbe
            go_wp2_with (at_builtin; refine wpList_app rfl _ _ 127 68 6 64 _ rfl Tryz.underlying127 Tryz.info68 rfl (by decide) (by decide) w5.heap.size _ m (eFlat (x.es.take m)) rfl (H7.out.1.alloc _) ⟨w7.heap.size, 0, none⟩ 1 1 (eB y) rfl rfl (cells_new w7 #[.slice y.la y.e.lab.length y.lc, .bool y.e.mark, .int .u64 y.e.bits, .bool y.e.st, .int .i64 y.e.time, .int .i64 y.e.stamp] _ _ rfl) eB_oneJ (by omega) (by simp; omega) ?_; intro v8 w8 hown8 _ _ hbel8; have H8 := Lib.hid (And.intro hown8 (hbel8 _ (H7.out.2.alloc hs7 _))); clear hown8 hbel8)
            go_roundw
            case rel =>
              refine ⟨m + 1, by omega, by go_num, ?_, H8.out.2⟩
              rw [show x.es.take (m + 1) = x.es.take m ++ [y] by rw [List.take_add_one, HY.out.1]; rfl, eFlat_snoc]
              exact H8.out.1
            case measure => simp [intOf]; omega
          · obtain rfl : m = x.es.length := by omega
            obtain ⟨aR, cR, rfl⟩ := own_form H6.out.1
            have hownR := H6.out.1
            rw [List.take_of_length_le (Nat.le_refl _)] at hownR
            have hk6 := (H6.out.2.block _ (isT_of H5.out.2.2.2.2.1).lt).trans H5.out.2.2.2.2.1
            have hb36 : Below w3.heap.size w3 w6 := Bthen (Bthen H4.out.1 H5.out.2.2.2.1) H6.out.2
            have hb06 : Below w.heap.size w w6 := Bthen H5.out.2.2.2.2.2.1 H6.out.2
            have hown6 : w6.ownsRow w4.heap.size 34 6 (.slice a5 xs.length c5) xs.length (eFlat xs) := own_fr H5.out.1 (Fr.of_below H6.out.2) (fun b hb hx => by have h1 := (own_isT H5.out.1 hb).lt; have hx : w5.heap.size ≤ b := hx; omega)
            have hl6 : ∀ y ∈ xs, LlF w4.heap.size w6 y.la y.lc y.e.lab := fun y hy => (H5.out.2.2.1 y hy).below H6.out.2 (Nat.le_refl _)
            have hS6 := H3.out.1.below hb36
            have H9 := Lib.hid (And.intro hownR (And.intro hk6 (And.intro hb36 (And.intro hb06 (And.intro hown6 (And.intro hl6 hS6))))))
            have y0 := block_cell hk6 0 _ rfl
            have hcl6 := (isT_of hk6).lt
            clear hownR hk6 hb36 hb06 hown6 hl6 hS6 H6
            go_wp2_with fail
            go_at_call 12
            obtain ⟨er, her⟩ : ∃ q, q = appErr (lI.map SI.it) (x.es.map (toIt x.key)) := ⟨_, rfl⟩
            have HER := Lib.hid her
            refine (append_callsN w6 x.key a5 c5 xs H9.out.2.2.2.2.2.2 (HR.out.1.below H9.out.2.2.2.1).kv hkey (RdE.own H9.out.2.2.2.2.1 (fun y hy => (H9.out.2.2.2.2.2.1 y hy).ll)) ⟨fun y hy => ?_, fun y hy z hz => ?_⟩ (by have := H5.out.2.2.2.2.2.2; omega)).mono ?_
            · obtain ⟨j, hj⟩ := List.mem_iff_getElem?.1 hy
              obtain ⟨y', hy', e⟩ := mapE_at H5.out.2.1 hj
              have := HX.out.2.2 y' (List.mem_of_getElem? hy')
              rw [e] at this
              omega
            · obtain ⟨j, hj⟩ := List.mem_iff_getElem?.1 hy
              obtain ⟨y', hy', e⟩ := mapE_at H5.out.2.1 hj
              exact ((HR.out.2.2.2.1 x HX.out.2.1).sz y' (List.mem_of_getElem? hy') z (by rw [e]; exact hz)).2
            rintro e w9 ⟨he9, n', v', l', hS9, hm9, hf9, hv9, hnw9⟩
            rw [H3.out.2.1, toIt_eq H5.out.2.1, ← her] at he9
            subst he9
            rw [H3.out.2.1, toIt_eq H5.out.2.1] at hm9
            have hXr : ∀ b, (b = p ∨ b = mb ∨ v.ownBlock = some b) → w.heap.size ≤ b ∧ b < w3.heap.size := by
              rintro b (e | e | e)
              · exact ⟨by rw [e]; exact HPB.out.1, by rw [e]; exact H3.out.1.lp⟩
              · exact ⟨by rw [e]; exact HPB.out.2.1, by rw [e]; exact H3.out.1.map.lt⟩
              · exact ⟨Nat.le_trans HPB.out.2.2 (own_base H3.out.1.own e), (own_isT H3.out.1.own e).lt⟩
            have h34 : w3.heap.size ≤ w4.heap.size := H4.out.1.size
            have h45 : w4.heap.size ≤ w5.heap.size := H5.out.2.2.2.1.size
            have h69 : w6.heap.size ≤ w9.heap.size := hf9.size
            have hk9 := (hf9.block _ (isT_of H9.out.2.1).lt (fun hX => by have := (hXr _ hX).2; have := H4.out.2.2.1; omega)).trans H9.out.2.1
            have hB9 : Below w.heap.size w w9 := H9.out.2.2.2.1.trans (hf9.below (fun k hk hX => by have := (hXr k hX).1; omega) H9.out.2.2.2.1.size)
            have hRI9 : RdF w9 ai (iFlat lI) := (H3.out.2.2.1.below H9.out.2.2.1).fr hf9 (fun q e hX => by
              obtain ⟨⟨h1, h2, h3⟩, _⟩ := H3.out.2.2.2.2.2.2.2.1 q e
              rcases hX with hX | hX | hX
              · exact h1 hX
              · exact h2 hX
              · exact h3 hX)
            have hown9 := own_fr' H9.out.2.2.2.2.1 hf9 (fun b hb hX => by have := (hXr b hX).2; omega)
            have hownR9 := own_fr' H9.out.1 hf9 (fun b hb hX => by have := (hXr b hX).2; omega)
            have hSp9 : SpS xs w9 := (spS_of H9.out.2.2.2.2.2.1).far hf9 (fun k hX hX2 => by have h1 := (spX_range H5.out.2.2.1 hX).1; have := (hXr k hX2).2; omega)
            have hl9 : ∀ y ∈ xs, RdL w9 y.la y.e.lab := fun y hy => (H9.out.2.2.2.2.2.1 y hy).ll.rd.fr hf9 (fun hl q e hX => by have h1 := ((H9.out.2.2.2.2.2.1 y hy).lz q e).1; have := (hXr _ hX).2; omega)
            have hnl9 : ∀ z ∈ l', z.e.lab ≠ [] → ∀ q, z.la = some q → ¬ SpX xs q.block := fun z hz hne q e hX => by
              have hr := spX_range H5.out.2.2.1 hX
              rcases hnw9 z hz with h | h
              · have := ((H3.out.1.lab z h).ty hne q e).lt
                omega
              · have := h q e
                omega
            have hir : ∀ y ∈ lI, itemRight (d y.key) y.e = true := it_rightT H3.out.2.1 (fun y hy => (H3.out.1.ok y hy).1)
            have RJ9 : RdJ w9 ai lI := ⟨hRI9, fun y hy => (H3.out.2.2.2.1 y hy).below hB9 (Nat.le_refl _)⟩
            have RR9 : RdEj w9 aR x.es := ⟨RdF.of_own hownR9, fun y hy => ((HR.out.2.1.es x HX.out.2.1).lab y hy).below hB9 (Nat.le_refl _)⟩
            have RX9 : RdEj w9 a5 xs := ⟨RdF.of_own hown9, hl9⟩
            have TX9 : ∀ q, a5 = some q → isT w9 q.block 34 := fun q e => (own_type hown9 q e).1
            have HN := Lib.hid (And.intro hS9 (And.intro hm9 (And.intro hB9 (And.intro RJ9 (And.intro RR9 (And.intro RX9 (And.intro TX9 (And.intro hSp9 (And.intro hnl9 (And.intro hv9 hir))))))))))
            have HK9 := Lib.hid hk9
            have z0 := block_cell hk9 0 _ rfl
            have hcl9 := (isT_of hk9).lt
            clear her hf9 hXr hk9 hB9 hRI9 hown9 hownR9 hSp9 hl9 hnl9 hir RJ9 RR9 RX9 TX9 hS9 hm9 hv9 hnw9 y0 hcl6
            go_wp2_with fail
            go_at_call 66
            have hcall := rappend_calls ai ci lI x.key aR cR x.es w9 HN.out.2.2.2.1 HN.out.2.2.2.2.1 H3.out.2.2.2.2.1 (HR.out.2.2.2.1 x HX.out.2.1) hkey HN.out.2.2.2.2.2.2.2.2.2.2 hci H3.out.2.2.2.2.2.1 H3.out.2.2.2.2.2.2.1 hcm (by omega)
            unfold RaPost at hcall
            rw [← HER.out] at hcall
            refine hcall.mono ?_
            clear hcall
            rintro e w10 ⟨a10, c10, l10, rfl, hrd10, hci10, hnil10, hfm10, hcm10, hl10, hb10, hpl10⟩
            have h910 := hb10.size
            have hm10 : l'.map SI.it = l10.map SI.it := by
              rw [HN.out.2.1, hl10]
              unfold app
              rw [← HER.out]
              by_cases h0 : er = 0
              · rw [if_pos h0, if_pos h0, List.map_append, List.map_map]
                rfl
              · rw [if_neg h0, if_neg h0]
            have hmem : ∀ y ∈ l10, y ∈ lI ∨ ∃ z ∈ x.es, y = mkI x.key z := fun y hy => by
              rw [hl10] at hy
              by_cases h0 : er = 0
              · rw [if_pos h0] at hy
                rcases List.mem_append.1 hy with h | h
                · exact .inl h
                · obtain ⟨z, hz, rfl⟩ := List.mem_map.1 h
                  exact .inr ⟨z, hz, rfl⟩
              · rw [if_neg h0] at hy
                exact .inl hy
            have hlab10 : ∀ y ∈ l10, RdL w y.la y.e.lab := fun y hy => by
              rcases hmem y hy with h | ⟨z, hz, rfl⟩
              · exact H3.out.2.2.2.1 y h
              · exact (HR.out.2.1.es x HX.out.2.1).lab z hz
            have hJ10 : JOk l10 := by
              refine ⟨fun y hy => ?_, fun y hy => ?_, fun y hy => ?_⟩
              · rcases hmem y hy with h | ⟨z, hz, rfl⟩
                · exact H3.out.2.2.2.2.1.ky y h
                · exact hkey
              · rcases hmem y hy with h | ⟨z, hz, rfl⟩
                · exact H3.out.2.2.2.2.1.ln y h
                · exact (HR.out.2.2.2.1 x HX.out.2.1).ln z hz
              · rcases hmem y hy with h | ⟨z, hz, rfl⟩
                · exact H3.out.2.2.2.2.1.sz y h
                · exact (HR.out.2.2.2.1 x HX.out.2.1).sz z hz
            have h36 : w3.heap.size ≤ w6.heap.size := H9.out.2.2.1.size
            have hblk10 : ∀ q, a10 = some q → (q.block ≠ p ∧ q.block ≠ mb ∧ v'.ownBlock ≠ some q.block) ∧ q.block < w10.heap.size := fun q e => by
              rcases hpl10 q e with h | ⟨h1, h2⟩
              · obtain ⟨⟨g1, g2, g3⟩, g4⟩ := H3.out.2.2.2.2.2.2.2.1 q h
                refine ⟨⟨g1, g2, fun e' => ?_⟩, by omega⟩
                rcases HN.out.2.2.2.2.2.2.2.2.2.1 _ e' with e2 | e2
                · exact g3 e2
                · omega
              · have k1 := HN.out.1.lp
                have k2 := HN.out.1.map.lt
                refine ⟨⟨by omega, by omega, fun e' => ?_⟩, h2⟩
                have := (own_isT HN.out.1.own e').lt
                omega
            have hsx10 : ∀ q, a10 = some q → ¬ SpX xs q.block := fun q e hX => by
              have hr := spX_range H5.out.2.2.1 hX
              rcases hpl10 q e with h | ⟨h1, h2⟩
              · have := (H3.out.2.2.2.2.2.2.2.1 q h).2
                omega
              · omega
            have hlen10 : l10.length ≤ 65536 := by
              have h1 := congrArg List.length hm10
              rw [List.length_map, List.length_map] at h1
              have := HN.out.1.len
              omega
            have HM := Lib.hid (And.intro hrd10 (And.intro hnil10 (And.intro hfm10 (And.intro hb10 (And.intro hm10 (And.intro hlab10 (And.intro hJ10 (And.intro hblk10 hsx10))))))))
            clear hrd10 hnil10 hfm10 hl10 hb10 hpl10 hm10 hmem hlab10 hJ10 hblk10 hsx10 z0 hcl9
            go_wp2_with fail
            go_at_call 67
            refine (entries_yes a5 aR c5 cR xs x.es w10 (HN.out.2.2.2.2.2.1.below HM.out.2.2.2.1) (HN.out.2.2.2.2.1.below HM.out.2.2.2.1) (eok_of (HR.out.2.2.2.1 x HX.out.2.1) H5.out.2.1) (by have := H5.out.2.2.2.2.2.2; omega) H5.out.2.1).mono ?_
            rintro e w11 ⟨rfl, hb11⟩
            have HB11 := Lib.hid (And.intro (Bthen HM.out.2.2.2.1 hb11) hb11)
            have h1011 := hb11.size
            clear hb11
            go_wp2_with fail
            go_at_call 68
            refine (spoil_calls a5 c5 xs w11 (HN.out.2.2.2.2.2.1.rd.below HB11.out.1) (fun q e => (HN.out.2.2.2.2.2.2.1 q e).bel HB11.out.1 (Nat.le_refl _)) (HN.out.2.2.2.2.2.2.2.1.below HB11.out.1) (by have := H5.out.2.2.2.2.2.2; omega)).mono ?_
            rintro e w12 ⟨rfl, hf12, _⟩
            have hB11 : Below w.heap.size w w11 := Bthen HN.out.2.2.1 HB11.out.1
            have hB12 : Below w.heap.size w w12 := hB11.trans (hf12.below (fun k hk hX => by have := (spX_range H5.out.2.2.1 hX).1; omega) hB11.size)
            have hS12 : SinkAt w12 p base mb n' v' l' := (HN.out.1.below HB11.out.1).frL hf12 (fun k hX => by
              obtain ⟨y, hy, q, e, rfl⟩ := hX
              exact (((HN.out.2.2.2.2.2.2.2.1.below HB11.out.1) y hy).2 q e).2.2.2.isT) HN.out.2.2.2.2.2.2.2.2.1
            have hRI12 : RdF w12 a10 (iFlat l10) := (HM.out.1.rd.below HB11.out.2).fr hf12 HM.out.2.2.2.2.2.2.2.2
            have h1112 := hf12.size
            have hk11 := (HB11.out.1.block _ (isT_of HK9.out).lt).trans HK9.out
            have hk12 := (hf12.block _ (isT_of hk11).lt (fun hX => by
              obtain ⟨y, hy, q, e, e2⟩ := hX
              have h1 := (((HN.out.2.2.2.2.2.2.2.1.below HB11.out.1) y hy).2 q e).2.2.2.isT
              exact h1.ne (isT_of hk11) (by decide) e2.symm)).trans hk11
            have t0 := block_cell hk12 0 _ rfl
            have hcl12 := (isT_of hk12).lt
            clear hk11 hk12
            have H12 := Lib.hid (And.intro hB12 (And.intro hS12 hRI12))
            clear hf12 hB11 hB12 hS12 hRI12
            go_wp2_with fail
            go_at_call 69
            refine (looks_calls w12 H12.out.2.1 (HR.out.1.below H12.out.1) a10 c10 l10 ⟨H12.out.2.2, fun y hy => (HM.out.2.2.2.2.2.1 y hy).below H12.out.1 (Nat.le_refl _)⟩ HM.out.2.2.2.2.2.2.1 (it_rightT HM.out.2.2.2.2.1 (fun y hy => (H12.out.2.1.ok y hy).1)) hci10 hcm10 HM.out.2.1 HM.out.2.2.1 HM.out.2.2.2.2.1 x.key hkey (k : Int) (by omega) (by omega) (by omega)).mono ?_
            rintro e w13 ⟨rfl, hb13⟩
            have HB13 := Lib.hid hb13
            have h1213 := hb13.size
            clear hb13
            go_wp2_with fail
            go_roundw
            case rel => exact ⟨k + 1, n', v', l', a10, c10, l10, by omega, by go_num, rfl, H12.out.2.1.below HB13.out, HM.out.2.2.2.2.1, H12.out.2.2.below HB13.out, HM.out.2.2.2.2.2.1, HM.out.2.2.2.2.2.2.1, hci10, HM.out.2.1, HM.out.2.2.1, hcm10, (fun q e => ⟨(HM.out.2.2.2.2.2.2.2.1 q e).1, by have := (HM.out.2.2.2.2.2.2.2.1 q e).2; omega⟩), Bthen H12.out.1 HB13.out⟩
            case measure => simp [intOf]; omega
      · go_wp2_with fail
        go_at_call 69
        refine (looks_calls w3 H3.out.1 (HR.out.1.below H3.out.2.2.2.2.2.2.2.2) ai ci lI ⟨H3.out.2.2.1, fun y hy => (H3.out.2.2.2.1 y hy).below H3.out.2.2.2.2.2.2.2.2 (Nat.le_refl _)⟩ H3.out.2.2.2.2.1 (it_rightT H3.out.2.1 (fun y hy => (H3.out.1.ok y hy).1)) hci hcm H3.out.2.2.2.2.2.1 H3.out.2.2.2.2.2.2.1 H3.out.2.1 name hname i hi0 hi1 (by omega)).mono ?_
        rintro e w4 ⟨rfl, hb4⟩
        have HB4 := Lib.hid (Bthen H3.out.2.2.2.2.2.2.2.2 hb4)
        clear hb4
        go_wp2_with fail
        go_ret
        exact ⟨rfl, HB4.out⟩
end Go.Proofs.YtdgfldeeflmnmaaGreatDoor.Sk
