/- The law ClassOf: it returns true. -/
import Derived.Test.YtkjilodmmcefbaaGreatDoorCtr
import Derived.Test.YtkjilodmmcefbaaGreatDoorAwk
import Derived.Test.YtkjilodmmcefbaaGreatDoorMaA
import Derived.Test.YtkjilodmmcefbaaGreatDoorAlg
namespace Go.Proofs.YtkjilodmmcefbaaGreatDoor
open Go.RowKit Go.Shelf
/-- A slice of pairs of small words in w. -/
structure Pw (w : World) (a : Option Addr) (cap : Nat) (l : Rs.S) : Prop where
  rd : l ≠ [] → ∃ b off, a = some ⟨b, off, none⟩ ∧ b < w.heap.size ∧ ∀ (i : Nat) (r : Rs.R), l[i]? = some r → w.cell? ⟨b, off + i * 2, none⟩ = some (.int .u32 r.1) ∧ w.cell? ⟨b, off + i * 2 + 1, none⟩ = some (.int .u32 r.2)
  nil : a = none → l = [] ∧ cap = 0
  le : l.length ≤ cap
  ok : ∀ r ∈ l, (0 ≤ r.1 ∧ r.1 ≤ 4294967295) ∧ (0 ≤ r.2 ∧ r.2 ≤ 4294967295)
theorem Pw.below {w w1 : World} {a : Option Addr} {cap : Nat} {l : Rs.S} (h : Pw w a cap l) (hb : Below w.heap.size w w1) : Pw w1 a cap l :=
  ⟨fun hl => by
    obtain ⟨b, off, rfl, h1, h2⟩ := h.rd hl
    refine ⟨b, off, rfl, Nat.lt_of_lt_of_le h1 hb.size, fun i r hr => ?_⟩
    rw [hb.cell (p := ⟨b, off + i * 2, none⟩) h1, hb.cell (p := ⟨b, off + i * 2 + 1, none⟩) h1]
    exact h2 i r hr, h.nil, h.le, h.ok⟩
namespace Rs
def toR (x : R) : R := (x.1 % 1114112, min (x.1 % 1114112 + x.2 % 5000) 1114111)
def rgs (l : S) : S := (l.take 20).map toR
theorem rgs_rg (l : S) (h : ∀ r ∈ l, (0 ≤ r.1 ∧ r.1 ≤ 4294967295) ∧ (0 ≤ r.2 ∧ r.2 ≤ 4294967295)) : ∀ r ∈ rgs l, rg r := by
  intro r hr
  obtain ⟨x, hx, rfl⟩ := List.mem_map.1 hr
  have := h x (List.mem_of_mem_take hx)
  exact ⟨by simp only [toR]; omega, by simp only [toR]; omega, by simp only [toR]; omega⟩
theorem rgs_len (l : S) : (rgs l).length ≤ 20 := by simp only [rgs, List.length_map, List.length_take]; omega
end Rs
def OfInv (w : World) (l : Rs.S) (m : Nat) (v i : Value) (wr : World) : Prop :=
  ∃ k : Nat, k ≤ m ∧ i = .int .i64 k ∧ wr.ownsRow w.heap.size 34 2 v k (rFlat ((l.take k).map Rs.toR)) ∧ Below w.heap.size w wr
theorem own_le2 {w : World} {base n k cap : Nat} {a : Option Addr} {xs : List Value} (h : w.ownsRow base 34 2 (.slice a k cap) n xs) : k ≤ cap ∧ cap ≤ maxLen := by
  rcases h.2 with ⟨e, h0⟩ | ⟨g, cap', cur, e, hb, hg, hc, hm, hs, ht⟩
  · cases e; exact ⟨Nat.le_refl _, Nat.zero_le _⟩
  · cases e; exact ⟨hc, hm⟩
theorem Sl.take {w : World} {a : Option Addr} {cap : Nat} {l : Rs.S} (h : Sl w a cap l) (k : Nat) : Sl w a cap (l.take k) := by
  refine ⟨fun hne => ?_, fun e => ?_, h.sp⟩
  · have hl : l ≠ [] := fun e => hne (by rw [e]; simp)
    obtain ⟨b, off, e, h1, h2⟩ := h.rd hl
    refine ⟨b, off, e, h1, fun i r hr => h2 i r ?_⟩
    rw [List.getElem?_take] at hr
    split at hr
    · exact hr
    · cases hr
  · rw [(h.nil e).1]
    exact ⟨by simp, (h.nil e).2⟩
theorem Sl.drop {w : World} {b off : Nat} {cap : Nat} {l : Rs.S} (h : Sl w (some ⟨b, off, none⟩) cap l) (k : Nat) : Sl w (some ⟨b, off + k * 2, none⟩) (cap - k) (l.drop k) := by
  refine ⟨fun hne => ?_, (fun e => by cases e), (fun ad e => by cases e; exact ⟨rfl, (h.sp _ rfl).2⟩)⟩
  have hl : l ≠ [] := fun e => hne (by rw [e]; simp)
  obtain ⟨b', off', e, h1, h2⟩ := h.rd hl
  cases e
  refine ⟨b, off + k * 2, rfl, h1, fun i r hr => ?_⟩
  rw [List.getElem?_drop] at hr
  have := h2 (k + i) r hr
  rw [show off + k * 2 + i * 2 = off + (k + i) * 2 by omega]
  exact this
theorem own_ints0 {W : World} {base : Nat} {v : Value} {n : Nat} {L : List Int} (h : W.ownsRow base 3 1 v n (ints L)) :
    ∃ ad cap, v = .slice ad n cap ∧ n ≤ cap ∧ (0 < n → ∃ g, ad = some ⟨g, 0, none⟩ ∧ g < W.heap.size ∧ ∀ (j : Nat) z, L[j]? = some z → W.cell? ⟨g, j, none⟩ = some (.int .i64 z)) := by
  rcases h.2 with ⟨rfl, h0⟩ | ⟨g, cap, cur, rfl, hb, hg, h1, h2, h3, h4⟩
  · subst h0
    exact ⟨none, 0, rfl, Nat.le_refl _, fun h => absurd h (by omega)⟩
  · exact ⟨_, cap, rfl, h1, fun _ => ⟨g, rfl, (Array.getElem?_eq_some_iff.1 hg).1, fun j z hz => (ownsRow_cell h (j := j) (u := .int .i64 z) (by simp [ints, hz])).1⟩⟩
def CutInv (w : World) (X : Rs.S) (v i : Value) (wr : World) : Prop :=
  ∃ k : Nat, k ≤ X.length ∧ i = .int .i64 k ∧ wr.ownsRow w.heap.size 34 2 v (2 * k) (rFlat (Rs.cutGo 0 (X.take k))) ∧ Below w.heap.size w wr
-- WALK
set_option maxRecDepth 100000 in
set_option maxHeartbeats 8000000 in
theorem ClassOf_calls (a b : Option Addr) (ca cb : Nat) (l : Rs.S) (q : List Rs.Sm) (tn : Int) (w : World) (hL : Lv w) (hsl : Pw w a ca l) (hsm : Sm w b cb q) (hn : ca ≤ maxLen) (hn2 : cb ≤ maxLen) (ht0 : 0 ≤ tn) (ht1 : tn ≤ 255) :
    Calls Tryz.prog 9 #[.slice a l.length ca, .slice b q.length cb, .int .u8 tn] w fun e w' => e = .returned (.bool true) ∧ Below w.heap.size w w' := by
  have HL := Lib.hid (show _ ∧ _ ∧ _ ∧ _ from ⟨hL, hsl, hsm, hn2⟩)
  have hcap := hsl.le
  clear hL hsl hsm hn2
  have hmx : (ca : Int) ≤ 9223372036854775807 := by unfold maxLen at hn; omega
  obtain ⟨m, hm⟩ : ∃ m, m = min l.length 20 := ⟨_, rfl⟩
  have hm1 : m ≤ 20 := by omega
  have hm2 : m ≤ l.length := by omega
  clear hn
  obtain ⟨i0, hi0, hz0, hz1, hz2⟩ := info_parts Tryz.info34
  go_enter Tryz.func9, Tryz.ntmps9
  go_wp2_with fail
  go_at_call 14
  refine (awake_calls w HL.out.1).mono ?_
  rintro e w1 ⟨rfl, hb⟩
  have HB := Lib.hid hb
  clear hb
  go_wp2
  have e1 : max (min (l.length : Int) 20) 0 = (m : Int) := by omega
  have e2 : (min (l.length : Int) 20).toNat = m := by omega
  try simp only [e1, e2]
  have htk : (l.take m).map Rs.toR = Rs.rgs l := by
    unfold Rs.rgs
    rcases Nat.le_total l.length 20 with h | h
    · rw [List.take_of_length_le h, List.take_of_length_le (by omega)]
    · rw [show m = 20 by omega]
  have HTK := Lib.hid htk
  have HP := Lib.hid (HL.out.2.1.below HB.out)
  clear hm e1 e2 htk
  go_loopw [7, 9, 10, 33] (fun v _ _ i wr => OfInv w1 l m v i wr) (fun _ _ _ i _ => m - (intOf i).toNat)
  case atStart => exact ⟨0, Nat.zero_le _, rfl, World.ownsRow_nil _ _ _ _, Below.refl _ _⟩
  case round =>
    obtain ⟨k, hk, rfl, hrow, hb⟩ := hrel
    have hbs := hb.size
    by_cases hlt : k < m
    · obtain ⟨b0, off, rfl, hbl, hc⟩ := HP.out.rd (by intro e; subst e; simp at hm2; omega)
      obtain ⟨r, hr⟩ : ∃ r, l[k]? = some r := ⟨_, List.getElem?_eq_getElem (by omega)⟩
      obtain ⟨c0, c1⟩ := hc k _ hr
      rw [← hb.cell (by exact hbl)] at c0 c1
      obtain ⟨⟨o1, o2⟩, o3, o4⟩ := HP.out.ok r (List.mem_of_getElem? hr)
      have hbw : b0 < wr.heap.size := by omega
      have hst : (l.take (k + 1)).map Rs.toR = (l.take k).map Rs.toR ++ [Rs.toR r] := by rw [List.take_add_one, hr]; simp
      obtain ⟨x, y⟩ := r
      dsimp only at c0 c1 o1 o2 o3 o4
      have HR := Lib.hid (show _ ∧ _ ∧ _ from ⟨hrow, hst, hb⟩)
      clear hr hc hrow hst hb
      go_wp2_with (at_builtin; refine wpList_append_own _ rfl _ _ 25 rfl w1.heap.size 34 i0 (.agg #[.int .i64 0, .int .i64 0]) 2 16 Tryz.underlying25 hi0 hz0 hz1 hz2 rfl (by decide) _ _ _ rfl ((HR.out.1.alloc (.cells #[.int .u32 x, .int .u32 y] 52)).alloc (.cells #[.int .i64 (x % 1114112), .int .i64 (min (x % 1114112 + y % 5000) 1114111)] 34)) ⟨wr.heap.size + 1, 0, none⟩ 1 1 [.int .i64 (x % 1114112), .int .i64 (min (x % 1114112 + y % 5000) 1114111)] rfl rfl (cells_new (wr.alloc (.cells #[.int .u32 x, .int .u32 y] 52)) #[.int .i64 (x % 1114112), .int .i64 (min (x % 1114112 + y % 5000) 1114111)] _ _ (by simp)) (by intro u hu; simp at hu; rcases hu with rfl | rfl <;> rfl) (by unfold maxLen; omega) (by omega) (by simp; omega) ?_; intro v' w2 hown' hgrow _;
                                        have HB2 := Lib.hid (show Below w1.heap.size w1 w2 from app_end (HR.out.1.alloc _) (HR.out.2.2.alloc hbs _) (by simp; omega) hgrow);
                                        clear hgrow)
      go_roundw
      case rel =>
        have HI : OfInv w1 l m v' (.int .i64 ((k : Int) + 1)) w2 := ⟨k + 1, by omega, by go_num, by rw [HR.out.2.1, rFlat_append]; exact hown', HB2.out⟩
        exact HI
      case measure => simp [intOf]; omega
    · obtain rfl : k = m := by omega
      rw [HTK.out] at hrow
      have hrl : (Rs.rgs l).length = k := by rw [← HTK.out, List.length_map, List.length_take]; omega
      have RG := Lib.hid (Rs.rgs_rg l HP.out.ok)
      have hll := Rs.rgs_len l
      generalize Rs.rgs l = A at *
      obtain ⟨aA, cA, rfl, hkA, hsA⟩ := Sl.of_own hrow
      obtain ⟨hcc1, hcc2⟩ := own_le2 hrow
      subst hkA
      have HsA := Lib.hid hsA
      replace HB := Lib.hid (Bthen HB.out hb)
      clear HTK hrow hsA hb hbs hlt hk HP hrl
      have RO := Lib.hid (Rs.setOf_right A RG.out)
      go_wp2_with fail
      go_at_call 28
      have hcall := Of_r HsA.out (by omega) RG.out
      refine hcall.mono ?_
      clear hcall
      rintro e w3 h
      obtain ⟨aO, cO, rfl, hs, hb⟩ := h
      generalize hO : Rs.setOf A = O at *
      have HO := Lib.hid hO
      clear hO
      replace HsA := Lib.hid (HsA.out.below hb)
      replace HB := Lib.hid (Bthen HB.out hb)
      have HsO := Lib.hid hs
      clear hs hb
      obtain ⟨kk, hkk⟩ : ∃ kk : Nat, tn % ((A.length : Int) + 1) = (kk : Int) := ⟨(tn % ((A.length : Int) + 1)).toNat, by have := Int.emod_nonneg tn (show ((A.length : Int) + 1) ≠ 0 by omega); omega⟩
      have hk1 : kk ≤ A.length := by have := Int.emod_lt_of_pos tn (show (0 : Int) < (A.length : Int) + 1 by omega); omega
      have HKK := Lib.hid hkk
      clear hkk
      have hk3 : kk ≤ cA := by omega
      go_wp2_with fail
      rw [HKK.out]
      by_cases hkc : kk = cA
      · obtain rfl : cA = A.length := by omega
        obtain rfl : kk = A.length := by omega
        clear hkc
        obtain ⟨B, hB⟩ : ∃ B, B = A.drop A.length ++ (A ++ A.take A.length) := ⟨_, rfl⟩
        have hcc := concat_calls w3.heap.size 0 3 [(aA, 0, []), (aA, A.length, A), (aA, A.length, A)] ((w3.alloc (.cells #[.slice aA 0 0, .slice aA A.length A.length, .slice aA A.length A.length] 25)).drew) ((LsR.of w3 [(aA, 0, []), (aA, A.length, A), (aA, A.length, A)] 25 _ rfl (by
            intro x hx
            simp only [List.mem_cons, List.not_mem_nil, or_false] at hx
            rcases hx with rfl | rfl | rfl
            · exact ⟨RdR.nil _ _, fun _ => ⟨rfl, rfl⟩, HsA.out.sp⟩
            · exact HsA.out
            · exact HsA.out)).below (Below.refl _ _).drew) (by simp [lsAll]; omega) (by simp)
        have eLs : lsAll [(aA, 0, []), (aA, A.length, A), (aA, A.length, A)] = B := by rw [hB]; simp [lsAll]
        have hl4 : B.length ≤ 4096 := by rw [hB]; simp only [List.length_append, List.length_drop, List.length_take]; omega
        have hr4 : ∀ r ∈ B, Rs.rg r := by
          rw [hB]
          exact Rs.rg_append (fun r hr => RG.out r (List.mem_of_mem_drop hr)) (Rs.rg_append RG.out (fun r hr => RG.out r (List.mem_of_mem_take hr)))
        have hse : Rs.setOf B = O := by rw [← HO.out, hB]; exact Rs.setOf_turn A _ RG.out
        have HSE := Lib.hid (show _ ∧ _ ∧ _ ∧ _ from ⟨eLs, hse, hl4, hr4⟩)
        clear eLs hse hl4 hr4 hB
        go_region_with (first
          | (go_at_call 29; refine hcc.mono ?_; clear hcc; rintro e w4 ⟨v4, rfl, hown4, hb4⟩;
             rw [HSE.out.1] at hown4;
             obtain ⟨a4, c4, rfl, _, hs4⟩ := Sl.of_own hown4;
             have hof := Of_r hs4 HSE.out.2.2.1 HSE.out.2.2.2;
             rw [HSE.out.2.1] at hof;
             clear hown4 hs4)
          | (go_at_call 28; refine hof.mono ?_; clear hof; rintro e w5 h5; obtain ⟨aP, cP, rfl, hs, hb5⟩ := h5))
        have hb : Below w3.heap.size w3 w5 := Bthen (Bthen ((Bnew (Below.refl _ _) _).drew) hb4) hb5
        replace HsA := Lib.hid (HsA.out.below hb)
        replace HsO := Lib.hid (HsO.out.below hb)
        replace HB := Lib.hid (Bthen HB.out hb)
        have HsP := Lib.hid hs
        clear hs hb hb4 hb5
        go_wp2_with fail
        go_at_call 19
        refine (Right_r HsO.out RO.out).mono ?_
        rintro e w6 ⟨rfl, hb⟩
        replace HsA := Lib.hid (HsA.out.below hb)
        replace HsO := Lib.hid (HsO.out.below hb)
        replace HsP := Lib.hid (HsP.out.below hb)
        replace HB := Lib.hid (Bthen HB.out hb)
        clear hb
        go_wp2_with fail
        go_at_call 18
        refine (Eq_r HsO.out HsP.out (rlen RO.out) rfl).mono ?_
        rintro e w7 ⟨rfl, hb⟩
        replace HsA := Lib.hid (HsA.out.below hb)
        replace HsO := Lib.hid (HsO.out.below hb)
        replace HsP := Lib.hid (HsP.out.below hb)
        replace HB := Lib.hid (Bthen HB.out hb)
        clear hb
        have HQ := Lib.hid (LsR.of w7 [(aA, A.length, A)] 25 #[.slice aA A.length A.length] rfl (by
          intro x hx
          simp only [List.mem_cons, List.not_mem_nil, or_false] at hx
          subst hx
          exact HsA.out))
        have hBD : ∀ l ∈ [A], BdS l := by
          intro l hl
          simp only [List.mem_cons, List.not_mem_nil, or_false] at hl
          subst hl
          refine ⟨by omega, fun r hr => ?_⟩
          obtain ⟨g1, g2, g3⟩ := RG.out r hr
          exact ⟨g1, by omega, by omega, g3⟩
        have HBD := Lib.hid hBD
        clear hBD
        have hb : Below w7.heap.size w7 (w7.alloc (.cells #[.slice aA A.length A.length] 25)) := Bnew (Below.refl _ _) _
        replace HsA := Lib.hid (HsA.out.below hb)
        replace HsO := Lib.hid (HsO.out.below hb)
        replace HsP := Lib.hid (HsP.out.below hb)
        replace HB := Lib.hid (Bthen HB.out hb)
        clear hb
        go_wp2_with fail
        generalize w7.alloc (.cells #[.slice aA A.length A.length] 25) = wq at *
        generalize w7.heap.size = pq at *
        go_at_call 30
        refine (about_calls _ 1 [A] wq HQ.out.sls (by simp) HBD.out).mono ?_
        rintro e wA ⟨v, n, L, rfl, hn4, hown, hpt, hb⟩
        have hnL : n = L.length := by have := hown.1; simpa [ints] using this.symm
        subst hnL
        obtain ⟨ad, cg, rfl, hcg, hcells⟩ := own_ints0 hown
        have HCL := Lib.hid hcells
        have HPT := Lib.hid hpt
        replace HsA := Lib.hid (HsA.out.below hb)
        replace HsO := Lib.hid (HsO.out.below hb)
        replace HsP := Lib.hid (HsP.out.below hb)
        replace HB := Lib.hid (Bthen HB.out hb)
        clear hown hpt hb HQ HBD hcells
        go_wp2
        go_loopw [17, 97] (fun _ i wr => ∃ k : Nat, k ≤ L.length ∧ i = .int .i64 k ∧ Below wA.heap.size wA wr) (fun _ i _ => L.length - (intOf i).toNat)
        case atStart => exact ⟨0, Nat.zero_le _, rfl, Below.refl _ _⟩
        case round =>
          obtain ⟨k, hk, rfl, hb⟩ := hrel
          have hbs := hb.size
          by_cases hlt : k < L.length
          · obtain ⟨g, rfl, hg, hc⟩ := HCL.out (by omega)
            obtain ⟨z, hz⟩ : ∃ z, L[k]? = some z := ⟨_, List.getElem?_eq_getElem (by omega)⟩
            have c0 := hc k z hz
            have hpz := HPT.out z (List.mem_of_getElem? hz)
            rw [← hb.cell (by exact hg)] at c0
            have hgw : g < wr.heap.size := by omega
            have HBK := Lib.hid hb
            have jO := Has_r z (HsO.out.below hb) RO.out
            have kA := fun W (hW : Below wr.heap.size wr W) => lhas_calls aA A.length A z W (HsA.out.below (hb.trans (hW.mono hbs))) (by omega)
            have mO := Rs.setOf_has RG.out hpz
            rw [HO.out] at mO
            rw [mO] at jO
            have J := Lib.hid (show _ ∧ _ from ⟨jO, kA⟩)
            clear jO kA mO hpz hz hc hb
            generalize Rs.mem z A = bx at *
            cases bx
            all_goals
              go_wp2_with fail
              go_at_call 31
              refine J.out.1.mono ?_
              rintro e q1 ⟨rfl, hq⟩
              have hqq := hq
              clear hq
              go_wp2_with fail
              go_at_call 25
              refine (J.out.2 _ hqq).mono ?_
              rintro e q2 ⟨rfl, hq⟩
              replace hqq := Bthen hqq hq
              clear hq
              have HQQ := Lib.hid hqq
              clear hqq
              go_wp2
              go_roundw
              case rel => exact ⟨k + 1, by omega, by go_num, (HBK.out).trans (HQQ.out.mono hbs)⟩
              case measure => simp [intOf]; omega
          · obtain rfl : k = L.length := by omega
            clear hk hlt
            replace HB := Lib.hid (Bthen HB.out hb)
            clear HsA HsO HsP HCL HPT RG RO hb hbs
            go_wp2_with fail
            go_at_call 15
            refine (Made_calls b cb q wr (HL.out.2.2.1.below HB.out) HL.out.2.2.2).mono ?_
            rintro e wM ⟨v, rfl, hown, hb⟩
            have RX := Lib.hid (Rs.made_right HL.out.2.2.1.ok)
            have hXl := Rs.made_len q
            generalize Rs.made q = X at RX hXl hown
            obtain ⟨aX, cX, rfl, _, hs⟩ := Sl.of_own hown
            replace HB := Lib.hid (Bthen HB.out hb)
            have HsX := Lib.hid hs
            clear hs hb hown
            go_wp2
            go_loopw [19, 20, 21, 22, 113] (fun v _ _ _ i wr => CutInv wM X v i wr) (fun _ _ _ _ i _ => X.length - (intOf i).toNat)
            case atStart => exact ⟨0, Nat.zero_le _, rfl, World.ownsRow_nil _ _ _ _, Below.refl _ _⟩
            case round =>
              obtain ⟨k, hk, rfl, hrow, hb⟩ := hrel
              have hbs := hb.size
              by_cases hlt : k < X.length
              · obtain ⟨b0, off, rfl, hbl, hc⟩ := HsX.out.rd (by intro e; subst e; simp at hlt)
                obtain ⟨r, hr⟩ : ∃ r, X[k]? = some r := ⟨_, List.getElem?_eq_getElem (by omega)⟩
                obtain ⟨c0, c1⟩ := hc k _ hr
                rw [← hb.cell (by exact hbl)] at c0 c1
                obtain ⟨o1, o2, o3⟩ := Rs.right_ok RX.out hr
                have hbw : b0 < wr.heap.size := by omega
                have hst := Rs.cut_step hr
                have hmd := Rs.mid_bd (i := k) (r := r) (by omega) o1
                obtain ⟨lo, hi⟩ := r
                dsimp only at c0 c1 o1 o2 o3 hmd
                unfold Rs.mid at hst hmd
                dsimp only at hst hmd
                obtain ⟨m1, m2⟩ := hmd
                have hp0 : 0 ≤ (hi - lo) * (k : Int) := Int.mul_nonneg (by omega) (by omega)
                have hp1 : (hi - lo) * (k : Int) ≤ 22282220 := Int.le_trans (Int.mul_le_mul_of_nonneg_left (show (k : Int) ≤ 20 by omega) (by omega)) (by omega)
                have HR := Lib.hid (show _ ∧ _ ∧ _ from ⟨hrow, hst, hb⟩)
                have hk20 : k ≤ 20 := by omega
                clear hr hc hrow hst hb
                go_wp2_with (at_builtin; refine wpList_append_own _ rfl _ _ 25 rfl wM.heap.size 34 i0 (.agg #[.int .i64 0, .int .i64 0]) 2 16 Tryz.underlying25 hi0 hz0 hz1 hz2 rfl (by decide) _ _ _ rfl ((HR.out.1.alloc (.cells #[.int .i64 lo, .int .i64 hi] 34)).alloc (.cells #[.int .i64 (lo + (hi - lo) * (k : Int) / 20), .int .i64 hi, .int .i64 lo, .int .i64 (lo + (hi - lo) * (k : Int) / 20)] 34)) ⟨wr.heap.size + 1, 0, none⟩ 2 2 [.int .i64 (lo + (hi - lo) * (k : Int) / 20), .int .i64 hi, .int .i64 lo, .int .i64 (lo + (hi - lo) * (k : Int) / 20)] rfl rfl (cells_new (wr.alloc (.cells #[.int .i64 lo, .int .i64 hi] 34)) #[.int .i64 (lo + (hi - lo) * (k : Int) / 20), .int .i64 hi, .int .i64 lo, .int .i64 (lo + (hi - lo) * (k : Int) / 20)] _ _ (by simp)) (by intro u hu; simp only [List.mem_cons, List.not_mem_nil, or_false] at hu; rcases hu with rfl | rfl | rfl | rfl <;> rfl) (by unfold maxLen; omega) (by omega) (by simp; omega) ?_; intro v' w2 hown' hgrow _;
                                                    have HB2 := Lib.hid (show Below wM.heap.size wM w2 from app_end (HR.out.1.alloc _) (HR.out.2.2.alloc hbs _) (by simp; omega) hgrow);
                                                    clear hgrow)
                go_roundw
                case rel =>
                  have HI : CutInv wM X v' (.int .i64 ((k : Int) + 1)) w2 := ⟨k + 1, by omega, by go_num, by rw [HR.out.2.1, rFlat_append]; exact hown', HB2.out⟩
                  exact HI
                case measure => simp [intOf]; omega
              · obtain rfl : k = X.length := by omega
                rw [List.take_length] at hrow
                have RC : Hid (∀ r ∈ Rs.cutGo 0 X, Rs.rg r) := Lib.hid (Rs.cutGo_rg X 0 (by omega) (Rs.right_rg RX.out))
                have hcl := Rs.cutGo_len X 0
                have HCB := Lib.hid (Rs.cut_back RX.out hXl)
                generalize Rs.cutGo 0 X = C at *
                obtain ⟨aC, cC, rfl, hkC, hs⟩ := Sl.of_own hrow
                have HsC := Lib.hid hs
                have hcl4 : C.length ≤ 4096 := by omega
                clear hs hrow hk hlt
                clear hcl hkC
                replace HsX := Lib.hid (HsX.out.below hb)
                replace HB := Lib.hid (Bthen HB.out hb)
                clear hb hbs
                go_wp2_with fail
                go_at_call 28
                have hcall := Of_r HsX.out (by omega) (Rs.right_rg RX.out)
                refine hcall.mono ?_
                clear hcall
                rintro e w20 h
                obtain ⟨aS, cS, rfl, hs, hb⟩ := h
                replace HsX := Lib.hid (HsX.out.below hb)
                replace HsC := Lib.hid (HsC.out.below hb)
                replace HB := Lib.hid (Bthen HB.out hb)
                have HsS := Lib.hid hs
                clear hs hb
                go_wp2_with fail
                go_at_call 28
                have hcall := Of_r HsC.out hcl4 RC.out
                refine hcall.mono ?_
                clear hcall
                rintro e w21 h
                obtain ⟨aT, cT, rfl, hs, hb⟩ := h
                replace HsX := Lib.hid (HsX.out.below hb)
                replace HsC := Lib.hid (HsC.out.below hb)
                replace HsS := Lib.hid (HsS.out.below hb)
                replace HB := Lib.hid (Bthen HB.out hb)
                have HsT := Lib.hid hs
                clear hs hb
                rw [Rs.setOf_self RX.out] at HsS ⊢
                rw [HCB.out] at HsT ⊢
                go_wp2_with fail
                go_at_call 18
                refine (Eq_r HsS.out HsX.out (rlen RX.out) rfl).mono ?_
                rintro e w22 ⟨rfl, hb⟩
                replace HsX := Lib.hid (HsX.out.below hb)
                replace HsC := Lib.hid (HsC.out.below hb)
                replace HsS := Lib.hid (HsS.out.below hb)
                replace HsT := Lib.hid (HsT.out.below hb)
                replace HB := Lib.hid (Bthen HB.out hb)
                clear hb
                go_wp2_with fail
                go_at_call 18
                refine (Eq_r HsT.out HsX.out (rlen RX.out) rfl).mono ?_
                rintro e w23 ⟨rfl, hb⟩
                replace HsX := Lib.hid (HsX.out.below hb)
                replace HsC := Lib.hid (HsC.out.below hb)
                replace HsS := Lib.hid (HsS.out.below hb)
                replace HsT := Lib.hid (HsT.out.below hb)
                replace HB := Lib.hid (Bthen HB.out hb)
                clear hb
                go_wp2
                go_ret
                exact ⟨rfl, HB.out⟩
      · have hk4 : kk < cA := by omega
        clear hkc
        cases aA with
        | none => have := (HsA.out.nil rfl).2; omega
        | some ad =>
          obtain ⟨bA, oA, spA⟩ := ad
          obtain rfl : spA = none := (HsA.out.sp _ rfl).1
          obtain ⟨B, hB⟩ : ∃ B, B = A.drop kk ++ (A ++ A.take kk) := ⟨_, rfl⟩
          have hcc := concat_calls w3.heap.size 0 3 [(some ⟨bA, oA + kk * 2, none⟩, cA - kk, A.drop kk), (some ⟨bA, oA, none⟩, cA, A), (some ⟨bA, oA, none⟩, cA, A.take kk)] ((w3.alloc (.cells #[.slice (some ⟨bA, oA + kk * 2, none⟩) (A.length - kk) (cA - kk), .slice (some ⟨bA, oA, none⟩) A.length cA, .slice (some ⟨bA, oA, none⟩) kk cA] 25)).drew) ((LsR.of w3 [(some ⟨bA, oA + kk * 2, none⟩, cA - kk, A.drop kk), (some ⟨bA, oA, none⟩, cA, A), (some ⟨bA, oA, none⟩, cA, A.take kk)] 25 _ (by simp [List.length_drop, List.length_take, Nat.min_eq_left hk1]) (by
              intro x hx
              simp only [List.mem_cons, List.not_mem_nil, or_false] at hx
              rcases hx with rfl | rfl | rfl
              · exact HsA.out.drop kk
              · exact HsA.out
              · exact HsA.out.take kk)).below (Below.refl _ _).drew) (by simp [lsAll]; omega) (by simp)
          have eLs : lsAll [(some ⟨bA, oA + kk * 2, none⟩, cA - kk, A.drop kk), (some ⟨bA, oA, none⟩, cA, A), (some ⟨bA, oA, none⟩, cA, A.take kk)] = B := by rw [hB]; simp [lsAll]
          have hl4 : B.length ≤ 4096 := by rw [hB]; simp only [List.length_append, List.length_drop, List.length_take]; omega
          have hr4 : ∀ r ∈ B, Rs.rg r := by
            rw [hB]
            exact Rs.rg_append (fun r hr => RG.out r (List.mem_of_mem_drop hr)) (Rs.rg_append RG.out (fun r hr => RG.out r (List.mem_of_mem_take hr)))
          have hse : Rs.setOf B = O := by rw [← HO.out, hB]; exact Rs.setOf_turn A _ RG.out
          have HSE := Lib.hid (show _ ∧ _ ∧ _ ∧ _ from ⟨eLs, hse, hl4, hr4⟩)
          clear eLs hse hl4 hr4 hB
          go_region_with (first
            | (go_at_call 29; refine hcc.mono ?_; clear hcc; rintro e w4 ⟨v4, rfl, hown4, hb4⟩;
               rw [HSE.out.1] at hown4;
               obtain ⟨a4, c4, rfl, _, hs4⟩ := Sl.of_own hown4;
               have hof := Of_r hs4 HSE.out.2.2.1 HSE.out.2.2.2;
               rw [HSE.out.2.1] at hof;
               clear hown4 hs4)
            | (go_at_call 28; refine hof.mono ?_; clear hof; rintro e w5 h5; obtain ⟨aP, cP, rfl, hs, hb5⟩ := h5))
          have hb : Below w3.heap.size w3 w5 := Bthen (Bthen ((Bnew (Below.refl _ _) _).drew) hb4) hb5
          replace HsA := Lib.hid (HsA.out.below hb)
          replace HsO := Lib.hid (HsO.out.below hb)
          replace HB := Lib.hid (Bthen HB.out hb)
          have HsP := Lib.hid hs
          clear hs hb hb4 hb5
          go_wp2_with fail
          go_at_call 19
          refine (Right_r HsO.out RO.out).mono ?_
          rintro e w6 ⟨rfl, hb⟩
          replace HsA := Lib.hid (HsA.out.below hb)
          replace HsO := Lib.hid (HsO.out.below hb)
          replace HsP := Lib.hid (HsP.out.below hb)
          replace HB := Lib.hid (Bthen HB.out hb)
          clear hb
          go_wp2_with fail
          go_at_call 18
          refine (Eq_r HsO.out HsP.out (rlen RO.out) rfl).mono ?_
          rintro e w7 ⟨rfl, hb⟩
          replace HsA := Lib.hid (HsA.out.below hb)
          replace HsO := Lib.hid (HsO.out.below hb)
          replace HsP := Lib.hid (HsP.out.below hb)
          replace HB := Lib.hid (Bthen HB.out hb)
          clear hb
          have HQ := Lib.hid (LsR.of w7 [((some ⟨bA, oA, none⟩), cA, A)] 25 #[.slice (some ⟨bA, oA, none⟩) A.length cA] rfl (by
            intro x hx
            simp only [List.mem_cons, List.not_mem_nil, or_false] at hx
            subst hx
            exact HsA.out))
          have hBD : ∀ l ∈ [A], BdS l := by
            intro l hl
            simp only [List.mem_cons, List.not_mem_nil, or_false] at hl
            subst hl
            refine ⟨by omega, fun r hr => ?_⟩
            obtain ⟨g1, g2, g3⟩ := RG.out r hr
            exact ⟨g1, by omega, by omega, g3⟩
          have HBD := Lib.hid hBD
          clear hBD
          have hb : Below w7.heap.size w7 (w7.alloc (.cells #[.slice (some ⟨bA, oA, none⟩) A.length cA] 25)) := Bnew (Below.refl _ _) _
          replace HsA := Lib.hid (HsA.out.below hb)
          replace HsO := Lib.hid (HsO.out.below hb)
          replace HsP := Lib.hid (HsP.out.below hb)
          replace HB := Lib.hid (Bthen HB.out hb)
          clear hb
          go_wp2_with fail
          generalize w7.alloc (.cells #[.slice (some ⟨bA, oA, none⟩) A.length cA] 25) = wq at *
          generalize w7.heap.size = pq at *
          go_at_call 30
          refine (about_calls _ 1 [A] wq HQ.out.sls (by simp) HBD.out).mono ?_
          rintro e wA ⟨v, n, L, rfl, hn4, hown, hpt, hb⟩
          have hnL : n = L.length := by have := hown.1; simpa [ints] using this.symm
          subst hnL
          obtain ⟨ad, cg, rfl, hcg, hcells⟩ := own_ints0 hown
          have HCL := Lib.hid hcells
          have HPT := Lib.hid hpt
          replace HsA := Lib.hid (HsA.out.below hb)
          replace HsO := Lib.hid (HsO.out.below hb)
          replace HsP := Lib.hid (HsP.out.below hb)
          replace HB := Lib.hid (Bthen HB.out hb)
          clear hown hpt hb HQ HBD hcells
          go_wp2
          go_loopw [17, 97] (fun _ i wr => ∃ k : Nat, k ≤ L.length ∧ i = .int .i64 k ∧ Below wA.heap.size wA wr) (fun _ i _ => L.length - (intOf i).toNat)
          case atStart => exact ⟨0, Nat.zero_le _, rfl, Below.refl _ _⟩
          case round =>
            obtain ⟨k, hk, rfl, hb⟩ := hrel
            have hbs := hb.size
            by_cases hlt : k < L.length
            · obtain ⟨g, rfl, hg, hc⟩ := HCL.out (by omega)
              obtain ⟨z, hz⟩ : ∃ z, L[k]? = some z := ⟨_, List.getElem?_eq_getElem (by omega)⟩
              have c0 := hc k z hz
              have hpz := HPT.out z (List.mem_of_getElem? hz)
              rw [← hb.cell (by exact hg)] at c0
              have hgw : g < wr.heap.size := by omega
              have HBK := Lib.hid hb
              have jO := Has_r z (HsO.out.below hb) RO.out
              have kA := fun W (hW : Below wr.heap.size wr W) => lhas_calls (some ⟨bA, oA, none⟩) cA A z W (HsA.out.below (hb.trans (hW.mono hbs))) (by omega)
              have mO := Rs.setOf_has RG.out hpz
              rw [HO.out] at mO
              rw [mO] at jO
              have J := Lib.hid (show _ ∧ _ from ⟨jO, kA⟩)
              clear jO kA mO hpz hz hc hb
              generalize Rs.mem z A = bx at *
              cases bx
              all_goals
                go_wp2_with fail
                go_at_call 31
                refine J.out.1.mono ?_
                rintro e q1 ⟨rfl, hq⟩
                have hqq := hq
                clear hq
                go_wp2_with fail
                go_at_call 25
                refine (J.out.2 _ hqq).mono ?_
                rintro e q2 ⟨rfl, hq⟩
                replace hqq := Bthen hqq hq
                clear hq
                have HQQ := Lib.hid hqq
                clear hqq
                go_wp2
                go_roundw
                case rel => exact ⟨k + 1, by omega, by go_num, (HBK.out).trans (HQQ.out.mono hbs)⟩
                case measure => simp [intOf]; omega
            · obtain rfl : k = L.length := by omega
              clear hk hlt
              replace HB := Lib.hid (Bthen HB.out hb)
              clear HsA HsO HsP HCL HPT RG RO hb hbs
              go_wp2_with fail
              go_at_call 15
              refine (Made_calls b cb q wr (HL.out.2.2.1.below HB.out) HL.out.2.2.2).mono ?_
              rintro e wM ⟨v, rfl, hown, hb⟩
              have RX := Lib.hid (Rs.made_right HL.out.2.2.1.ok)
              have hXl := Rs.made_len q
              generalize Rs.made q = X at RX hXl hown
              obtain ⟨aX, cX, rfl, _, hs⟩ := Sl.of_own hown
              replace HB := Lib.hid (Bthen HB.out hb)
              have HsX := Lib.hid hs
              clear hs hb hown
              go_wp2
              go_loopw [19, 20, 21, 22, 113] (fun v _ _ _ i wr => CutInv wM X v i wr) (fun _ _ _ _ i _ => X.length - (intOf i).toNat)
              case atStart => exact ⟨0, Nat.zero_le _, rfl, World.ownsRow_nil _ _ _ _, Below.refl _ _⟩
              case round =>
                obtain ⟨k, hk, rfl, hrow, hb⟩ := hrel
                have hbs := hb.size
                by_cases hlt : k < X.length
                · obtain ⟨b0, off, rfl, hbl, hc⟩ := HsX.out.rd (by intro e; subst e; simp at hlt)
                  obtain ⟨r, hr⟩ : ∃ r, X[k]? = some r := ⟨_, List.getElem?_eq_getElem (by omega)⟩
                  obtain ⟨c0, c1⟩ := hc k _ hr
                  rw [← hb.cell (by exact hbl)] at c0 c1
                  obtain ⟨o1, o2, o3⟩ := Rs.right_ok RX.out hr
                  have hbw : b0 < wr.heap.size := by omega
                  have hst := Rs.cut_step hr
                  have hmd := Rs.mid_bd (i := k) (r := r) (by omega) o1
                  obtain ⟨lo, hi⟩ := r
                  dsimp only at c0 c1 o1 o2 o3 hmd
                  unfold Rs.mid at hst hmd
                  dsimp only at hst hmd
                  obtain ⟨m1, m2⟩ := hmd
                  have hp0 : 0 ≤ (hi - lo) * (k : Int) := Int.mul_nonneg (by omega) (by omega)
                  have hp1 : (hi - lo) * (k : Int) ≤ 22282220 := Int.le_trans (Int.mul_le_mul_of_nonneg_left (show (k : Int) ≤ 20 by omega) (by omega)) (by omega)
                  have HR := Lib.hid (show _ ∧ _ ∧ _ from ⟨hrow, hst, hb⟩)
                  have hk20 : k ≤ 20 := by omega
                  clear hr hc hrow hst hb
                  go_wp2_with (at_builtin; refine wpList_append_own _ rfl _ _ 25 rfl wM.heap.size 34 i0 (.agg #[.int .i64 0, .int .i64 0]) 2 16 Tryz.underlying25 hi0 hz0 hz1 hz2 rfl (by decide) _ _ _ rfl ((HR.out.1.alloc (.cells #[.int .i64 lo, .int .i64 hi] 34)).alloc (.cells #[.int .i64 (lo + (hi - lo) * (k : Int) / 20), .int .i64 hi, .int .i64 lo, .int .i64 (lo + (hi - lo) * (k : Int) / 20)] 34)) ⟨wr.heap.size + 1, 0, none⟩ 2 2 [.int .i64 (lo + (hi - lo) * (k : Int) / 20), .int .i64 hi, .int .i64 lo, .int .i64 (lo + (hi - lo) * (k : Int) / 20)] rfl rfl (cells_new (wr.alloc (.cells #[.int .i64 lo, .int .i64 hi] 34)) #[.int .i64 (lo + (hi - lo) * (k : Int) / 20), .int .i64 hi, .int .i64 lo, .int .i64 (lo + (hi - lo) * (k : Int) / 20)] _ _ (by simp)) (by intro u hu; simp only [List.mem_cons, List.not_mem_nil, or_false] at hu; rcases hu with rfl | rfl | rfl | rfl <;> rfl) (by unfold maxLen; omega) (by omega) (by simp; omega) ?_; intro v' w2 hown' hgrow _;
                                                      have HB2 := Lib.hid (show Below wM.heap.size wM w2 from app_end (HR.out.1.alloc _) (HR.out.2.2.alloc hbs _) (by simp; omega) hgrow);
                                                      clear hgrow)
                  go_roundw
                  case rel =>
                    have HI : CutInv wM X v' (.int .i64 ((k : Int) + 1)) w2 := ⟨k + 1, by omega, by go_num, by rw [HR.out.2.1, rFlat_append]; exact hown', HB2.out⟩
                    exact HI
                  case measure => simp [intOf]; omega
                · obtain rfl : k = X.length := by omega
                  rw [List.take_length] at hrow
                  have RC : Hid (∀ r ∈ Rs.cutGo 0 X, Rs.rg r) := Lib.hid (Rs.cutGo_rg X 0 (by omega) (Rs.right_rg RX.out))
                  have hcl := Rs.cutGo_len X 0
                  have HCB := Lib.hid (Rs.cut_back RX.out hXl)
                  generalize Rs.cutGo 0 X = C at *
                  obtain ⟨aC, cC, rfl, hkC, hs⟩ := Sl.of_own hrow
                  have HsC := Lib.hid hs
                  have hcl4 : C.length ≤ 4096 := by omega
                  clear hs hrow hk hlt
                  clear hcl hkC
                  replace HsX := Lib.hid (HsX.out.below hb)
                  replace HB := Lib.hid (Bthen HB.out hb)
                  clear hb hbs
                  go_wp2_with fail
                  go_at_call 28
                  have hcall := Of_r HsX.out (by omega) (Rs.right_rg RX.out)
                  refine hcall.mono ?_
                  clear hcall
                  rintro e w20 h
                  obtain ⟨aS, cS, rfl, hs, hb⟩ := h
                  replace HsX := Lib.hid (HsX.out.below hb)
                  replace HsC := Lib.hid (HsC.out.below hb)
                  replace HB := Lib.hid (Bthen HB.out hb)
                  have HsS := Lib.hid hs
                  clear hs hb
                  go_wp2_with fail
                  go_at_call 28
                  have hcall := Of_r HsC.out hcl4 RC.out
                  refine hcall.mono ?_
                  clear hcall
                  rintro e w21 h
                  obtain ⟨aT, cT, rfl, hs, hb⟩ := h
                  replace HsX := Lib.hid (HsX.out.below hb)
                  replace HsC := Lib.hid (HsC.out.below hb)
                  replace HsS := Lib.hid (HsS.out.below hb)
                  replace HB := Lib.hid (Bthen HB.out hb)
                  have HsT := Lib.hid hs
                  clear hs hb
                  rw [Rs.setOf_self RX.out] at HsS ⊢
                  rw [HCB.out] at HsT ⊢
                  go_wp2_with fail
                  go_at_call 18
                  refine (Eq_r HsS.out HsX.out (rlen RX.out) rfl).mono ?_
                  rintro e w22 ⟨rfl, hb⟩
                  replace HsX := Lib.hid (HsX.out.below hb)
                  replace HsC := Lib.hid (HsC.out.below hb)
                  replace HsS := Lib.hid (HsS.out.below hb)
                  replace HsT := Lib.hid (HsT.out.below hb)
                  replace HB := Lib.hid (Bthen HB.out hb)
                  clear hb
                  go_wp2_with fail
                  go_at_call 18
                  refine (Eq_r HsT.out HsX.out (rlen RX.out) rfl).mono ?_
                  rintro e w23 ⟨rfl, hb⟩
                  replace HsX := Lib.hid (HsX.out.below hb)
                  replace HsC := Lib.hid (HsC.out.below hb)
                  replace HsS := Lib.hid (HsS.out.below hb)
                  replace HsT := Lib.hid (HsT.out.below hb)
                  replace HB := Lib.hid (Bthen HB.out hb)
                  clear hb
                  go_wp2
                  go_ret
                  exact ⟨rfl, HB.out⟩
end Go.Proofs.YtkjilodmmcefbaaGreatDoor
