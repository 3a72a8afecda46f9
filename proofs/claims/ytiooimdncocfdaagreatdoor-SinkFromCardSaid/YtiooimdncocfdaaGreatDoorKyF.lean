/- Chapter 38: the law SinkFrom: its walk. -/
import Derived.Test.YtiooimdncocfdaaGreatDoorKvA
import Derived.Test.YtiooimdncocfdaaGreatDoorKqB
import Derived.Test.YtiooimdncocfdaaGreatDoorKqT
namespace Go.Proofs.YtiooimdncocfdaaGreatDoor.Sk
open Go Go.RowKit
/-- behind k items that were put into the other sink -/
def FrmInv (w : World) (p2 b2 m2 p3 b3 m3 : Nat) (aO aA : Option Addr) (lO lA : List SI) (its : List It) (i : Value) (wr : World) : Prop :=
  ∃ k : Nat, k ≤ its.length ∧ i = .int .i64 k ∧ TS w p2 b2 m2 p3 b3 m3 aO aA lO lA its (its.take k) wr
/-- behind k rounds over the first items -/
def FrkInv (w : World) (p2 b2 m2 p3 b3 m3 : Nat) (aO aA : Option Addr) (lO lA : List SI) (its : List It) (i : Value) (wr : World) : Prop :=
  ∃ k : Nat, k ≤ its.length + 1 ∧ i = .int .i64 k ∧ TS w p2 b2 m2 p3 b3 m3 aO aA lO lA its its wr
def FrCut (w : World) (p2 b2 m2 p3 b3 m3 : Nat) (aO aA : Option Addr) (lO lA : List SI) (its : List It) (s : Value) (wr : World) : Prop :=
  s = .bool false ∧ TS w p2 b2 m2 p3 b3 m3 aO aA lO lA its its wr
set_option maxRecDepth 100000 in
set_option maxHeartbeats 8000000 in
theorem from_law (a : Option Addr) (cap : Nat) (l : List Sm) (nn : Int) (w : World) (hE : Ev w) (hl : RdF w a (sFlat (l.take 40))) (hok : ∀ x ∈ l, SmOk x) (hcap : l.length ≤ cap) (hc2 : cap ≤ maxLen) (n0 : -9223372036854775808 ≤ nn) (n1 : nn ≤ 9223372036854775807) :
    Calls Tryz.prog 8 #[.slice a l.length cap, .int .i64 nn] w fun e w' => e = .returned (.bool true) ∧ Below w.heap.size w w' := by
  have HR := Lib.hid (And.intro hE (And.intro hl (And.intro hok (And.intro hcap hc2))))
  clear hE hl hok hcap hc2
  go_enter Tryz.func8, Tryz.ntmps8
  go_wp2_with fail
  go_at_call 30
  refine (awake_calls w HR.out.1).mono ?_
  rintro e w1 ⟨rfl, hb1⟩
  have HB1 := Lib.hid hb1
  have hs1 := hb1.size
  clear hb1
  go_wp2_with fail
  go_at_call 32
  refine (new_calls w1).mono ?_
  rintro e w2 ⟨rfl, hS2, hb2, hz2⟩
  have HB2 := Lib.hid (Bthen HB1.out hb2)
  have HZ2 := Lib.hid hz2
  have HS2 := Lib.hid hS2
  clear hb2 hS2 hz2
  go_wp2_with fail
  go_at_call 32
  refine (new_calls w2).mono ?_
  rintro e w3 ⟨rfl, hS3, hb3, hz3⟩
  have HB3 := Lib.hid (Bthen HB2.out hb3)
  have HS3 := Lib.hid (And.intro (HS2.out.below hb3) hS3)
  have hcall := fill_callsG a cap l w3 HS3.out.1 (HR.out.1.below HB3.out).kv (RdG.of_flat (by simpa using HR.out.2.1) HB3.out (by omega) (by omega)) HR.out.2.2.1 HR.out.2.2.2.1 HR.out.2.2.2.2
  have HC := Lib.hid hcall
  clear hb3 hS3 hcall HS2
  go_wp2_with fail
  go_at_call 33
  refine HC.out.mono ?_
  rintro e w4 ⟨out, rfl, n4, v4, lS, lO, hF, hmS, hmO⟩
  obtain ⟨aO, cO, rfl⟩ := own_form hF.own
  obtain ⟨its, hits⟩ : ∃ its, its = fillS [] 5 (l.take 40) := ⟨_, rfl⟩
  rw [← hits] at hmS hmO
  have hsnd : Sound its := by rw [hits]; exact fillS_sound _ _ _ Sound.nil
  have hiln : its.length ≤ 40 := by
    have := fillS_len (l.take 40) [] 5
    rw [← hits, List.length_take] at this
    simp at this
    omega
  have hlO1 : lO.length ≤ its.length := by rw [← hmO, List.length_map]; exact Nat.le_refl _
  have hlO2 : its.length ≤ lO.length := by rw [← hmO, List.length_map]; exact Nat.le_refl _
  have hsm : ∀ y ∈ its, y.key.size ≤ 1000000 ∧ labRight y.e.lab = true ∧ y.e.lab.length ≤ 1000000000 := fun y hy => by
    have h1 := (fillS_small (l := l.take 40) (st := 5) y (hits ▸ hy)).1
    have h2 := right_lab (List.all_eq_true.1 hsnd.right y hy)
    refine ⟨?_, h2, by have := (labRight_ok h2).1; omega⟩
    rcases h1 with e | e | e <;> rw [e] <;> decide
  obtain ⟨p2, hp2⟩ : ∃ p2, p2 = w1.heap.size + 1 := ⟨_, rfl⟩
  obtain ⟨b2, hb2⟩ : ∃ b2, b2 = w1.heap.size + 2 := ⟨_, rfl⟩
  obtain ⟨m2, hm2⟩ : ∃ m2, m2 = w1.heap.size := ⟨_, rfl⟩
  obtain ⟨p3, hp3⟩ : ∃ p3, p3 = w2.heap.size + 1 := ⟨_, rfl⟩
  obtain ⟨b3, hb3⟩ : ∃ b3, b3 = w2.heap.size + 2 := ⟨_, rfl⟩
  obtain ⟨m3, hm3⟩ : ∃ m3, m3 = w2.heap.size := ⟨_, rfl⟩
  have hTS : TS w p2 b2 m2 p3 b3 m3 aO none lO [] its [] w4 := by
    have hS3 := HS3.out.2
    have hz2 := HZ2.out
    rw [← hp2, ← hb2, ← hm2] at hF
    rw [← hp3, ← hb3, ← hm3] at hS3
    refine ⟨RdI.of_own hF.own hF.lab, ⟨fun h => absurd rfl h, fun x hx => by cases hx⟩, ⟨n4, v4, lS, 0, .slice none 0 0, [], hF.sink, hmS, hS3.emptyFr hF.fr (by omega) (by omega), rfl, (fun b _ h => by cases h), (fun b h => by cases h), (fun b h => by cases h)⟩, fun q hq => (OutI.addr (w := w3) (by rw [hq] at hF; exact hq ▸ hF.own) q hq).2, (fun q hq => by cases hq), by omega, by omega, ⟨by omega, by omega, by omega⟩, HB3.out.trans (hF.fr.below (B := w.heap.size) (fun k hk e => by omega) HB3.out.size)⟩
  rw [← hp2, ← hp3]
  have hcap2 : lO.length ≤ cO ∧ cO ≤ 9223372036854775807 ∧ (aO = none → lO.length = 0 ∧ cO = 0) ∧ (∀ q, aO = some q → q.spot = none) := by
    rcases hF.own.2 with ⟨e, h0⟩ | ⟨g', cap', cur, e, _, _, h1, h2, _⟩
    · injection e with e1 e2 e3
      exact ⟨by omega, by omega, fun _ => ⟨h0, e3⟩, fun q hq => by rw [e1] at hq; cases hq⟩
    · injection e with e1 e2 e3
      unfold maxLen at h2
      exact ⟨by omega, by omega, (fun h => by rw [h] at e1; cases e1), (fun q hq => by rw [e1] at hq; cases hq; rfl)⟩
  obtain ⟨c20, c21, c22, c23⟩ := hcap2
  have HI := Lib.hid (And.intro hsnd (And.intro hsm (And.intro hmO (show ∀ y ∈ its, y.e.lab.length ≤ 1000000000 from fun y hy => (hsm y hy).2.2))))
  have HCO := Lib.hid (And.intro c22 c23)
  have HT4 := Lib.hid hTS
  clear hTS hsnd hsm hmO hits hmS hF HS3 HC hp2 hb2 hm2 hp3 hb3 hm3 c22 c23 HB1 HB2 HB3 HZ2 hz3 hs1
  go_wp2_with fail
  go_at_call 37
  obtain ⟨n2, v2, l2, n3, v3, l3, hS2, hm2, -⟩ := HT4.out.snk
  have hcall := all_calls w4 hS2
  rw [hm2] at hcall
  clear hS2 hm2
  refine hcall.mono ?_
  clear hcall
  rintro e w5 ⟨aA, cA, lA, rfl, hown5, hl5, hm5, hb5⟩
  have HT5 := Lib.hid (HT4.out.with hb5 (RdI.of_own hown5 hl5) (OutI.addr hown5))
  have HA := Lib.hid hm5
  have hlA1 : lA.length ≤ its.length := by rw [← hm5, List.length_map]; exact Nat.le_refl _
  have hlA2 : its.length ≤ lA.length := by rw [← hm5, List.length_map]; exact Nat.le_refl _
  clear hown5 hl5 hm5 hb5 HT4
  go_wp2_with fail
  go_loopw [21] (fun i wr => FrmInv w p2 b2 m2 p3 b3 m3 aO aA lO lA its i wr) (fun i _ => its.length - (intOf i).toNat)
  case atStart => exact ⟨0, Nat.zero_le _, rfl, HT5.out⟩
  case round =>
    obtain ⟨k, hk, rfl, hT⟩ := hrel
    have HT := Lib.hid hT
    clear hT
    by_cases hlt : k < its.length
    · obtain ⟨x, hx⟩ : ∃ x, lA[k]? = some x := ⟨_, List.getElem?_eq_getElem (by omega)⟩
      have hxi : its[k]? = some x.it := by rw [← HA.out, List.getElem?_map, hx]; rfl
      obtain ⟨b, off, e, hbl, ht, hc⟩ := HT.out.wA.at_ hx
      subst e
      have hlx := HT.out.wA.lab x (List.mem_of_getElem? hx)
      have HX := Lib.hid (And.intro hxi (And.intro hlx (HI.out.2.1 x.it (List.mem_of_getElem? hxi))))
      have c0 := hc 0 _ rfl
      rw [Nat.add_zero] at c0
      have c1 := hc 1 _ rfl
      have c2 := hc 2 _ rfl
      have c3 := hc 3 _ rfl
      have c4 := hc 4 _ rfl
      have c5 := hc 5 _ rfl
      have c6 := hc 6 _ rfl
      have hlt' : k < lA.length := by omega
      obtain ⟨w0, hw0⟩ : ∃ q, q = wr := ⟨_, rfl⟩
      subst hw0
      clear hc hx hxi ht hlx
      go_wp2_with fail
      go_at_call 35
      obtain ⟨w7, hw7⟩ : ∃ w7, w7 = w0.alloc (.cells (iB x).toArray 61) := ⟨_, rfl⟩
      have hb07 : Below w0.heap.size w0 w7 := by rw [hw7]; exact (Below.refl _ _).alloc (Nat.le_refl _) _
      have hsz7 : w0.heap.size + 1 = w7.heap.size := by rw [hw7]; simp
      have hb78 : Below w7.heap.size w7 (w7.alloc (.cells (eB (toSE x)).toArray 59)) := (Below.refl _ _).alloc (Nat.le_refl _) _
      have hT8 := (HT.out.below hb07).below hb78
      have hll7 : ∀ y ∈ [toSE x], Ll w7 y.la y.lc y.e.lab := fun y hy => by rw [List.mem_singleton.1 hy]; exact HX.out.2.1.below hb07 (Nat.le_refl _)
      obtain ⟨n3, v3, l3, hS3, hm3, hp3⟩ := hT8.app3
      have hcall := append_calls (w7.alloc (.cells (eB (toSE x)).toArray 59)) x.key (some ⟨w7.heap.size, 0, none⟩) 1 [toSE x] hS3 (HR.out.1.below hT8.bel).kv HX.out.2.2.1 (RdE.new w7 _ _ rfl hll7) (esOk_item HX.out.2.2.2.1) (by simp)
      have hat := app_take HI.out.1 (by omega) HX.out.1
      have HC := Lib.hid (And.intro hcall (And.intro hp3 hat))
      rw [hsz7]
      clear hcall hp3 hS3 hm3 hT8 hll7 hat
      subst hw7
      refine HC.out.1.mono ?_
      rintro e w9 hp
      obtain ⟨rfl, hW9⟩ := HC.out.2.1 _ _ _ hp
      rw [show [toSE x].map (toIt x.key) = [x.it] from rfl] at hW9 ⊢
      rw [HC.out.2.2.1]
      rw [HC.out.2.2.2] at hW9
      have HW9 := Lib.hid hW9
      clear hW9 hp HC hb07 hb78 hsz7 c0 c1 c2 c3 c4 c5 c6
      go_wp2_with fail
      go_roundw
      case rel => exact ⟨k + 1, by omega, by go_num, HW9.out⟩
      case measure => simp [intOf]; omega
    · obtain rfl : k = its.length := by omega
      have hT6 := HT.out
      rw [List.take_of_length_le (Nat.le_refl _)] at hT6
      have HT6 := Lib.hid hT6
      obtain ⟨w6, hw6⟩ : ∃ q, q = wr := ⟨_, rfl⟩
      subst hw6
      have hlt' : ¬ its.length < lA.length := by omega
      clear hT6 HT HT5 hlt
      go_wp2_with fail
      go_at_call 37
      obtain ⟨n2, v2, l2, n3, v3, l3, hS2, hm2, hS3, hm3, -⟩ := HT6.out.snk
      have hcall := all_calls w6 hS3
      rw [hm3] at hcall
      clear hS2 hm2 hS3 hm3
      refine hcall.mono ?_
      clear hcall
      rintro e w7 ⟨a7, c7, lo7, rfl, hown7, hl7, hm7, hb7⟩
      have HT7 := Lib.hid (HT6.out.below hb7)
      have H7 := Lib.hid (And.intro (RdI.of_own hown7 hl7) hm7)
      have hn7 : lo7.length ≤ 1000000000 := by have := congrArg List.length hm7; rw [List.length_map] at this; omega
      clear hown7 hl7 hm7 hb7
      go_wp2_with fail
      go_at_call 36
      refine (items_yes a7 aO c7 cO lo7 lO w7 H7.out.1 HT7.out.wI (fun x hx => HI.out.2.2.2 x.it (by rw [← H7.out.2]; exact List.mem_map_of_mem hx)) hn7 (H7.out.2.trans HI.out.2.2.1.symm)).mono ?_
      rintro e w8 ⟨rfl, hb8⟩
      have HT8 := Lib.hid (HT7.out.below hb8)
      clear hb8 hn7 H7 HT7 HT6
      go_wp2_with fail
      go_at_call 47
      obtain ⟨n2, v2, l2, n3, v3, l3, hS2, hm2, hS3, hm3, -⟩ := HT8.out.snk
      have hcall := keys_calls w8 hS3
      rw [hm3] at hcall
      clear hS2 hm2 hS3 hm3
      refine hcall.mono ?_
      clear hcall
      rintro e w9 ⟨a9, c9, ks, rfl, hka9, hk9, hown9, hb9⟩
      have HT9 := Lib.hid (HT8.out.below hb9)
      have H9 := Lib.hid (And.intro (RdF.of_own hown9) (And.intro hka9 (show (strF ks).length = ks.length from strF_length ks)))
      clear hown9 hka9 hb9 HT8
      go_wp2_with fail
      go_at_call 47
      obtain ⟨n2, v2, l2, n3, v3, l3, hS2, hm2, hS3, hm3, -⟩ := HT9.out.snk
      have hcall := keys_calls w9 hS2
      rw [hm2] at hcall
      clear hS2 hm2 hS3 hm3
      refine hcall.mono ?_
      clear hcall
      rintro e w10 ⟨a10, c10, ks', rfl, hka10, -, hown10, hb10⟩
      obtain rfl := H9.out.2.1.unique hka10
      have HT10 := Lib.hid (HT9.out.below hb10)
      have H10 := Lib.hid (And.intro (H9.out.1.below hb10) (RdF.of_own hown10))
      clear hown10 hka10 hb10 HT9
      go_wp2_with fail
      go_at_call 46
      refine (sameT_calls a9 a10 c9 c10 ks ks w10 H10.out.1 H10.out.2 (by omega)).mono ?_
      rintro e w11 ⟨rfl, nd, hw11⟩
      rw [decide_eq_true (rfl : ks = ks)]
      have HT11 := Lib.hid (HT10.out.below (w' := w11) (by rw [hw11]; exact below_drewN (Below.refl _ _) nd))
      clear hw11 H10 HT10 H9
      go_wp2_with fail
      go_loopw [50] (fun i wr => FrkInv w p2 b2 m2 p3 b3 m3 aO aA lO lA its i wr) (fun i _ => (its.length + 1) - (intOf i).toNat)
      case atStart => exact ⟨0, Nat.zero_le _, rfl, HT11.out⟩
      case round =>
        obtain ⟨k, hk, rfl, hT⟩ := hrel
        obtain ⟨w0, hw0⟩ : ∃ q, q = wr := ⟨_, rfl⟩
        subst hw0
        have HT0 := Lib.hid hT
        clear hT
        by_cases hlt : k ≤ its.length
        · have hkn : k ≤ its.length := hlt
          have hkl : (k ≤ lO.length) = True := eq_true (by omega)
          have HKL := Lib.hid (show k ≤ lO.length by omega)
          have hlt1 : (k : Int) < (lO.length : Int) + 1 := by omega
          go_wp2_with fail
          go_cut [60] (fun s60 wx => FrCut w p2 b2 m2 p3 b3 m3 aO aA lO lA its s60 wx)
          case first =>
            rcases (show aO = none ∨ ∃ b off, aO = some ⟨b, off, none⟩ by
              rcases haO : aO with _ | ⟨b, off, sp⟩
              · exact .inl rfl
              · obtain rfl : sp = none := HCO.out.2 _ haO
                exact .inr ⟨b, off, rfl⟩) with hn | ⟨b, off, hs⟩
            · have HLZ := Lib.hid (HCO.out.1 hn)
              subst hn
              have HSL : Hid (∀ W, RdI W none lO → RdI W none (lO.drop k)) := Lib.hid (fun W h => by
                have e : lO = [] := List.eq_nil_of_length_eq_zero HLZ.out.1
                rw [e, List.drop_nil]
                exact ⟨fun h => absurd rfl h, fun x hx => by cases hx⟩)
              go_region_law (first
                | (go_simp; go_at_call 48
                   obtain ⟨n2, v2, l2, n3, v3, l3, hS2, hm2, -⟩ := HT0.out.snk
                   have hcall := from_calls (k : Int) w0.drew (hS2.below (Below.refl _ _).drew)
                   rw [hm2, fromS_in hkn] at hcall
                   clear hS2 hm2
                   with_reducible refine hcall.mono ?_
                   clear hcall
                   rintro e w11 ⟨a11, c11, lo11, rfl, hown11, hl11, hm11, hb11⟩
                   have hb011 : Below w0.heap.size w0 w11 := Below.trans (Below.refl _ _).drew (hb11.mono (by simp))
                   have H11 := Lib.hid (And.intro (RdI.of_own hown11 hl11) (And.intro hm11 hb011))
                   have hn11 : lo11.length ≤ 1000000000 := by have := congrArg List.length hm11; rw [List.length_map, List.length_drop] at this; omega
                   clear hown11 hl11 hm11 hb11 hb011)
                | (go_simp; go_at_call 36
                   have hcall := items_yes a11 none c11 (cO - k) lo11 (lO.drop k) w11 H11.out.1 (HSL.out w11 (HT0.out.below H11.out.2.2).wI) (fun x hx => HI.out.2.2.2 x.it (by rw [← List.take_append_drop k its, ← H11.out.2.1]; exact List.mem_append_right _ (List.mem_map_of_mem hx))) hn11 (by rw [H11.out.2.1, List.map_drop, HI.out.2.2.1])
                   rw [List.length_drop] at hcall
                   with_reducible refine hcall.mono ?_
                   clear hcall
                   rintro e w12 ⟨rfl, hb12⟩
                   have H12 := Lib.hid (Bthen H11.out.2.2 hb12)
                   clear hb12))
              all_goals
                go_wp2_with fail
                go_meet
                exact ⟨rfl, HT0.out.below H12.out⟩
            · subst hs
              by_cases hck : cO = k
              · subst hck
                have HSL : Hid (∀ W, RdI W (some ⟨b, off, none⟩) lO → RdI W (some ⟨b, off, none⟩) (lO.drop cO)) := Lib.hid (fun W h => by
                  rw [List.drop_of_length_le (by have := HKL.out; omega)]
                  exact ⟨fun h => absurd rfl h, fun x hx => by cases hx⟩)
                go_region_law (first
                  | (go_simp; go_at_call 48
                     obtain ⟨n2, v2, l2, n3, v3, l3, hS2, hm2, -⟩ := HT0.out.snk
                     have hcall := from_calls (cO : Int) w0.drew (hS2.below (Below.refl _ _).drew)
                     rw [hm2, fromS_in hkn] at hcall
                     clear hS2 hm2
                     with_reducible refine hcall.mono ?_
                     clear hcall
                     rintro e w11 ⟨a11, c11, lo11, rfl, hown11, hl11, hm11, hb11⟩
                     have hb011 : Below w0.heap.size w0 w11 := Below.trans (Below.refl _ _).drew (hb11.mono (by simp))
                     have H11 := Lib.hid (And.intro (RdI.of_own hown11 hl11) (And.intro hm11 hb011))
                     have hn11 : lo11.length ≤ 1000000000 := by have := congrArg List.length hm11; rw [List.length_map, List.length_drop] at this; omega
                     clear hown11 hl11 hm11 hb11 hb011)
                  | (go_simp; go_at_call 36
                     have hcall := items_yes a11 (some ⟨b, off, none⟩) c11 0 lo11 (lO.drop cO) w11 H11.out.1 (HSL.out w11 (HT0.out.below H11.out.2.2).wI) (fun x hx => HI.out.2.2.2 x.it (by rw [← List.take_append_drop cO its, ← H11.out.2.1]; exact List.mem_append_right _ (List.mem_map_of_mem hx))) hn11 (by rw [H11.out.2.1, List.map_drop, HI.out.2.2.1])
                     rw [show (lO.drop cO).length = 0 by rw [List.length_drop]; have := HKL.out; omega] at hcall
                     with_reducible refine hcall.mono ?_
                     clear hcall
                     rintro e w12 ⟨rfl, hb12⟩
                     have H12 := Lib.hid (Bthen H11.out.2.2 hb12)
                     clear hb12))
                all_goals
                  go_wp2_with fail
                  go_meet
                  exact ⟨rfl, HT0.out.below H12.out⟩

              · have HSL : Hid (∀ W, RdI W (some ⟨b, off, none⟩) lO → RdI W (some ⟨b, off + k * 7, none⟩) (lO.drop k)) := Lib.hid (fun W h => h.drop k)
                go_region_law (first
                  | (go_simp; go_at_call 48
                     obtain ⟨n2, v2, l2, n3, v3, l3, hS2, hm2, -⟩ := HT0.out.snk
                     have hcall := from_calls (k : Int) w0.drew (hS2.below (Below.refl _ _).drew)
                     rw [hm2, fromS_in hkn] at hcall
                     clear hS2 hm2
                     with_reducible refine hcall.mono ?_
                     clear hcall
                     rintro e w11 ⟨a11, c11, lo11, rfl, hown11, hl11, hm11, hb11⟩
                     have hb011 : Below w0.heap.size w0 w11 := Below.trans (Below.refl _ _).drew (hb11.mono (by simp))
                     have H11 := Lib.hid (And.intro (RdI.of_own hown11 hl11) (And.intro hm11 hb011))
                     have hn11 : lo11.length ≤ 1000000000 := by have := congrArg List.length hm11; rw [List.length_map, List.length_drop] at this; omega
                     clear hown11 hl11 hm11 hb11 hb011)
                  | (go_simp; go_at_call 36
                     have hcall := items_yes a11 (some ⟨b, off + k * 7, none⟩) c11 (cO - k) lo11 (lO.drop k) w11 H11.out.1 (HSL.out w11 (HT0.out.below H11.out.2.2).wI) (fun x hx => HI.out.2.2.2 x.it (by rw [← List.take_append_drop k its, ← H11.out.2.1]; exact List.mem_append_right _ (List.mem_map_of_mem hx))) hn11 (by rw [H11.out.2.1, List.map_drop, HI.out.2.2.1])
                     rw [List.length_drop] at hcall
                     with_reducible refine hcall.mono ?_
                     clear hcall
                     rintro e w12 ⟨rfl, hb12⟩
                     have H12 := Lib.hid (Bthen H11.out.2.2 hb12)
                     clear hb12))
                all_goals
                  go_wp2_with fail
                  go_meet
                  exact ⟨rfl, HT0.out.below H12.out⟩

          case rest =>
            obtain ⟨rfl, hT12⟩ := hcut
            have HT12 := Lib.hid hT12
            clear hT12
            go_wp2_with fail
            go_roundw
            case rel => exact ⟨k + 1, by omega, by go_num, HT12.out⟩
            case measure => simp [intOf]; omega
        · obtain rfl : k = its.length + 1 := by omega
          have hlt1 : ¬ ((its.length + 1 : Nat) : Int) < (lO.length : Int) + 1 := by omega
          go_wp2_with fail
          go_at_call 48
          obtain ⟨n2, v2, l2, n3, v3, l3, hS2, hm2, -⟩ := HT0.out.snk
          have hcall := from_calls (min nn (-1)) w0 hS2
          rw [hm2, fromS_out (by omega)] at hcall
          clear hS2 hm2
          refine hcall.mono ?_
          clear hcall
          rintro e w13 ⟨a13, c13, lo13, rfl, hown13, hl13, hm13, hb13⟩
          obtain rfl := List.map_eq_nil_iff.1 hm13
          have HT13 := Lib.hid (HT0.out.below hb13)
          clear hown13 hl13 hm13 hb13 HT0
          go_wp2_with fail
          go_at_call 48
          obtain ⟨n2, v2, l2, n3, v3, l3, hS2, hm2, -⟩ := HT13.out.snk
          have hcall := from_calls (max nn ((lO.length : Int) + 1)) w13 hS2
          rw [hm2, fromS_out (by omega)] at hcall
          clear hS2 hm2
          refine hcall.mono ?_
          clear hcall
          rintro e w14 ⟨a14, c14, lo14, rfl, hown14, hl14, hm14, hb14⟩
          obtain rfl := List.map_eq_nil_iff.1 hm14
          have HT14 := Lib.hid (HT13.out.below hb14)
          clear hown14 hl14 hm14 hb14 HT13
          go_wp2_with fail
          go_ret
          exact ⟨rfl, HT14.out.bel⟩
end Go.Proofs.YtiooimdncocfdaaGreatDoor.Sk
