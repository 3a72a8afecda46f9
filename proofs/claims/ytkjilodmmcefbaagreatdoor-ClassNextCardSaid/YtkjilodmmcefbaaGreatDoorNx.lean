/- The law ClassNext: it returns true, whatever the small numbers and the number. -/
import Derived.Test.YtkjilodmmcefbaaGreatDoorMaA
import Derived.Test.YtkjilodmmcefbaaGreatDoorSlC
import Derived.Test.YtkjilodmmcefbaaGreatDoorSlD
import Derived.Test.YtkjilodmmcefbaaGreatDoorAwk
namespace Go.Proofs.YtkjilodmmcefbaaGreatDoor
open Go.RowKit Go.Shelf

def NxO (w : World) (L : Rs.S) (m : Nat) (n at_ i : Value) (wr : World) : Prop :=
  ∃ (k : Nat) (a : Int), k ≤ m ∧ i = .int .i64 k ∧ at_ = .int .i64 a ∧ n = .int .i64 (Rs.cnt (L.take k)) ∧ Rs.Bef L k a ∧ (∀ r, L[k]? = some r → a + 1 ≤ r.1) ∧ -1 ≤ a ∧ a ≤ 1114111 ∧ Below w.heap.size w wr
def NxI (wb : World) (L : Rs.S) (k : Nat) (cn lo hi : Int) (n at_ c : Value) (wr : World) : Prop :=
  ∃ (x a : Int), c = .int .i64 x ∧ at_ = .int .i64 a ∧ n = .int .i64 (cn + (x - lo)) ∧ lo ≤ x ∧ x ≤ hi + 1 ∧ ((x = lo ∧ Rs.Bef L k a ∧ a + 1 ≤ lo ∧ -1 ≤ a) ∨ (lo < x ∧ a = x - 1)) ∧ Below wb.heap.size wb wr

theorem own_le {w : World} {base n k cap : Nat} {a : Option Addr} {xs : List Value} (h : w.ownsRow base 34 2 (.slice a k cap) n xs) : k ≤ cap ∧ cap ≤ maxLen := by
  rcases h.2 with ⟨e, h0⟩ | ⟨g, cap', cur, e, hb, hg, hc, hm, hs, ht⟩
  · cases e; exact ⟨Nat.le_refl _, Nat.zero_le _⟩
  · cases e; exact ⟨hc, hm⟩
set_option maxRecDepth 100000 in
set_option maxHeartbeats 4000000 in
theorem ClassNext_calls (a : Option Addr) (cap : Nat) (l : List Rs.Sm) (fr : Int) (w : World) (hL : Lv w) (hsl : Sm w a cap l) (hn : cap ≤ maxLen) :
    Calls Tryz.prog 6 #[.slice a l.length cap, .int .i64 fr] w fun e w' => e = .returned (.bool true) ∧ Below w.heap.size w w' := by
  have HL := Lib.hid (show _ ∧ _ from ⟨hL, hsl⟩)
  have HN := Lib.hid hn
  clear hL hsl hn
  go_enter Tryz.func6, Tryz.ntmps6
  go_wp2_with fail
  go_at_call 14
  refine (awake_calls w HL.out.1).mono ?_
  rintro e w1 ⟨rfl, hb1⟩
  have HB1 := Lib.hid hb1
  clear hb1
  go_wp2_with fail
  go_at_call 15
  refine (Made_calls a cap l w1 (HL.out.2.below HB1.out) HN.out).mono ?_
  rintro e w2 ⟨v, rfl, hown, hb2⟩
  have HB2 : Hid (Below w.heap.size w w2) := Lib.hid (HB1.out.trans (hb2.mono HB1.out.size))
  have hrt := Rs.made_right HL.out.2.ok
  have hlen := Rs.made_len l
  generalize Rs.made l = L at hrt hlen hown
  obtain ⟨a2, cap2, rfl, _, hs2⟩ := Sl.of_own hown
  obtain ⟨hcp, _⟩ := own_le hown
  have HR := Lib.hid (show _ ∧ _ from ⟨hrt, hs2⟩)
  have hwz := HB2.out.size
  clear hrt hs2 hb2 hown
  obtain ⟨m, hm⟩ : ∃ m, m = min L.length 10 := ⟨_, rfl⟩
  have hm1 : m ≤ 10 := by omega
  have hm2 : m ≤ L.length := by omega
  have hm3 : L.length ≤ 10 → m = L.length := by omega
  have e1 : max (min (L.length : Int) 10) 0 = (m : Int) := by omega
  have e2 : (min (L.length : Int) 10).toNat = m := by omega
  clear hm
  go_wp2
  try simp only [e1, e2]
  clear e1 e2
  go_loopw [6, 7, 9, 10, 11, 12, 28] (fun n at_ _ _ _ _ i wr => NxO w2 L m n at_ i wr) (fun _ _ _ _ _ _ i _ => m - (intOf i).toNat)
  case atStart => exact ⟨0, -1, Nat.zero_le _, rfl, rfl, rfl, fun i r hi => by omega, fun r hr => by have := Rs.right_ok HR.out.1 hr; omega, by omega, by omega, Below.refl _ _⟩
  case round =>
    obtain ⟨k, at_, hk, rfl, rfl, rfl, hbef, hnext, ha1, ha2, hb⟩ := hrel
    have hbs := hb.size
    have hsw := HR.out.2.below hb
    have hcn := Rs.cnt_le (Rs.right_take HR.out.1 k)
    by_cases hlt : k < m
    · obtain ⟨b, off, rfl, hbl, hc⟩ := HR.out.2.rd (by intro e; subst e; simp at hm2; omega)
      obtain ⟨r, hr⟩ : ∃ r, L[k]? = some r := ⟨_, List.getElem?_eq_getElem (by omega)⟩
      obtain ⟨c0, c1⟩ := hc k _ hr
      rw [← hb.cell (by exact hbl)] at c0 c1
      have hbw : b < wr.heap.size := by omega
      have hro := Rs.right_ok HR.out.1 hr
      have hat := hnext r hr
      have hcs := Rs.cnt_step hr
      obtain ⟨lo, hi⟩ := r
      dsimp only at c0 c1 hro hat hcs
      obtain ⟨o1, o2, o3⟩ := hro
      have hcn2 := Rs.cnt_le (Rs.right_take HR.out.1 (k + 1))
      rw [hcs] at hcn2
      have HS := Lib.hid (show _ ∧ _ ∧ _ from ⟨hr, hbef, hcs⟩)
      clear hr hc hbef hnext hsw hcs
      generalize hcc : Rs.cnt (L.take k) = cn at *
      have hba := hb.alloc hbs (.cells #[.int .i64 lo, .int .i64 hi] 34)
      have hh0 : (wr.alloc (.cells #[.int .i64 lo, .int .i64 hi] 34)).cell? ⟨wr.heap.size, 1, none⟩ = some (.int .i64 hi) := by simp
      have hps : wr.heap.size < (wr.alloc (.cells #[.int .i64 lo, .int .i64 hi] 34)).heap.size := by simp
      go_wp2
      generalize wr.alloc (.cells #[.int .i64 lo, .int .i64 hi] 34) = wo at *
      generalize wr.heap.size = pb at *
      go_loopw [6, 7, 10, 11, 12] (fun n at_ c _ _ wi => NxI wo L k cn lo hi n at_ c wi) (fun _ _ c _ _ _ => (hi + 1 - intOf c).toNat)
      case atStart => exact ⟨lo, at_, rfl, rfl, by go_num, Int.le_refl _, by omega, .inl ⟨rfl, HS.out.2.1, hat, ha1⟩, Below.refl _ _⟩
      case round =>
        obtain ⟨x, a1, rfl, rfl, rfl, hx1, hx2, hx3, hbi⟩ := hrel
        have hbis := hbi.size
        have hh := hh0
        rw [← hbi.cell (by exact hps)] at hh
        have hbo := hba.trans (hbi.mono (by omega))
        by_cases hxl : x ≤ hi
        · have hnx : Rs.nextN L (a1 + 1) = x ∧ Rs.nextB L (a1 + 1) = true := by
            rcases hx3 with ⟨rfl, h1, h2, h3⟩ | ⟨h1, rfl⟩
            · exact Rs.next_first HR.out.1 h1 HS.out.1 h2
            · exact Rs.next_in HR.out.1 HS.out.1 h1 hxl
          have hac : -1 ≤ a1 ∧ a1 ≤ 1114111 := by omega
          obtain ⟨hac1, hac2⟩ := hac
          have hcall := next_calls _ cap2 L (a1 + 1) _ (HR.out.2.below hbo) (by omega)
          rw [hnx.1, hnx.2] at hcall
          have HX := Lib.hid (show _ ∧ _ from ⟨hx3, hbi⟩)
          clear hx3 hnx hbi hbo hh0
          go_wp2_with (go_at_call 23; refine hcall.mono ?_; clear hcall; rintro e w4 ⟨rfl, hb4⟩)
          go_roundw
          case rel =>
            have HI : NxI wo L k cn lo hi (.int .i64 (cn + (x - lo) + 1)) (.int .i64 x) (.int .i64 (x + 1)) w4 := ⟨x + 1, x, rfl, rfl, by go_num, by omega, by omega, .inr ⟨by omega, by omega⟩, HX.out.2.trans (hb4.mono hbis)⟩
            exact HI
          case measure => simp [intOf]; omega
        · have hx : x = hi + 1 := by omega
          subst hx
          have ha1h : a1 = hi := by rcases hx3 with ⟨e, _⟩ | ⟨_, e⟩ <;> omega
          subst ha1h
          have HB := Lib.hid (hbo)
          clear hx3 hbi hbo hh0
          go_wp2
          go_roundw
          case rel =>
            have HI : NxO w2 L m (.int .i64 (cn + (a1 + 1 - lo))) (.int .i64 a1) (.int .i64 ((k : Int) + 1)) wr := ⟨k + 1, a1, by omega, by go_num, rfl, by rw [HS.out.2.2]; go_num, fun i q hi hq => by
              by_cases he : i = k
              · subst he; rw [HS.out.1] at hq; cases hq; simp only; omega
              · have := Rs.right_lt HR.out.1 i k q _ (by omega) hq HS.out.1; simp only at this; omega, fun q hq => by have := Rs.right_lt HR.out.1 k (k + 1) _ q (by omega) HS.out.1 hq; simp only at this; omega, by omega, by omega, HB.out⟩
            exact HI
          case measure => simp [intOf]; omega
    · have hkm : k = m := by omega
      subst hkm
      have hcn3 : Hid (L.length ≤ 10 → Rs.cnt (L.take k) = Rs.cnt L) := Lib.hid (fun h => by rw [hm3 h, List.take_length])
      generalize Rs.cnt (L.take k) = cn at *
      clear hnext hbef hm3 hm2 hk
      have hcall := next_calls a2 cap2 L fr _ hsw (by omega)
      have hcnt : ∀ W, Below wr.heap.size wr W → Calls Tryz.prog 24 #[.slice a2 L.length cap2] W fun e w' => e = .returned (.int .i64 (Rs.cnt L)) ∧ Below W.heap.size W w' := fun W hW => by
        have h := count_calls a2 cap2 L W (hsw.below hW).rd (fun b off e => ((hsw.below hW).sp _ e).2) (by omega)
        rw [HR.out.1] at h
        exact h
      have hhas : ∀ W x, Below wr.heap.size wr W → Calls Tryz.prog 25 #[.slice a2 L.length cap2, .int .i64 x] W fun e w' => e = .returned (.bool (Rs.mem x L)) ∧ Below W.heap.size W w' := fun W x hW => lhas_calls a2 cap2 L x W (hsw.below hW) (by omega)
      have HC := Lib.hid (show _ ∧ _ from ⟨hcnt, hhas⟩)
      have HB := Lib.hid (show _ ∧ _ from ⟨hb, hsw⟩)
      clear hcnt hhas hb hsw
      by_cases h0 : L = []
      · subst h0
        go_wp2_with (first
          | (go_at_call 23; refine hcall.mono ?_; clear hcall; rintro e w4 ⟨rfl, hb4⟩)
          | (go_at_call 24; refine (HC.out.1 _ hb4).mono ?_; rintro e w5 ⟨rfl, hb5⟩))
        go_ret
        exact ⟨rfl, HB2.out.trans ((HB.out.1.trans ((hb4.trans (hb5.mono hb4.size)).mono HB.out.1.size)).mono HB2.out.size)⟩
      · have hl0 : L.length ≠ 0 := fun e => h0 (List.eq_nil_of_length_eq_zero e)
        obtain ⟨b, off, rfl, hbl, hc⟩ := HB.out.2.rd h0
        obtain ⟨r, hr⟩ : ∃ r, L[L.length - 1]? = some r := ⟨_, List.getElem?_eq_getElem (by omega)⟩
        obtain ⟨c0, c1⟩ := hc _ _ hr
        have hnl := Rs.nextB_last HR.out.1 hr fr
        have hns := fun h => Rs.next_spec HR.out.1 (f := fr) h
        have hnn := fun h => Rs.nextN_none (l := L) (f := fr) h
        obtain ⟨lo, lh⟩ := r
        dsimp only at c0 c1 hnl
        have HS := Lib.hid (show _ ∧ _ from ⟨hr, hc⟩)
        clear hr hc h0
        generalize Rs.nextN L fr = x at *
        generalize Rs.nextB L fr = ok at *
        have HX : Hid (ok = true → Rs.mem x L = true ∧ ∀ r ∈ L, ¬ (fr ≤ r.2 ∧ r.2 < x) ∧ ¬ (fr ≤ r.1 ∧ r.1 < x)) := Lib.hid (fun h => (hns h).2)
        have hfx : ok = true → fr ≤ x := fun h => (hns h).1
        clear hns hnn
        have tail : ∀ wX, Below wr.heap.size wr wX → Hid (∀ (k : Nat) (r : Rs.R), L[k]? = some r → wX.cell? ⟨b, off + k * 2, none⟩ = some (.int .i64 r.1) ∧ wX.cell? ⟨b, off + k * 2 + 1, none⟩ = some (.int .i64 r.2)) := fun wX hX => Lib.hid (fun k r hr => by
          rw [hX.cell (p := ⟨b, off + k * 2, none⟩) hbl, hX.cell (p := ⟨b, off + k * 2 + 1, none⟩) hbl]
          exact HS.out.2 k r hr)
        cases ok
        · have hd : lh < fr := by simpa using hnl
          clear hnl hfx HX
          by_cases h10 : L.length ≤ 10
          · obtain rfl := hcn3.out h10
            go_wp2_with (first
              | (go_at_call 23; refine hcall.mono ?_; clear hcall; rintro e w4 ⟨rfl, hb4⟩;
                                        rw [← hb4.cell (by exact hbl)] at c0 c1)
              | (go_at_call 24; refine (HC.out.1 _ hb4).mono ?_; rintro e w5 ⟨rfl, hb5⟩))
            have hbX : Below wr.heap.size wr w5 := hb4.trans (hb5.mono hb4.size)
            have TL := tail _ hbX
            have HBX := Lib.hid hbX
            have hLe := Below.refl w5.heap.size w5
            clear tail hbX c0 c1 hb4 hb5
            go_loopw [17, 117] (fun _ i wz => ∃ k : Nat, k ≤ L.length ∧ i = .int .i64 k ∧ Below w5.heap.size w5 wz) (fun _ i _ => L.length - (intOf i).toNat)
            case atStart => exact ⟨0, Nat.zero_le _, rfl, hLe⟩
            case round =>
              obtain ⟨j, hj, rfl, hbz⟩ := hrel
              have hbzs := hbz.size
              by_cases hjl : j < L.length
              · obtain ⟨r, hr⟩ : ∃ r, L[j]? = some r := ⟨_, List.getElem?_eq_getElem hjl⟩
                obtain ⟨d0, d1⟩ := TL.out j r hr
                rw [← hbz.cell (by have := HBX.out.size; exact Nat.lt_of_lt_of_le hbl this)] at d0 d1
                have hbw : b < wr.heap.size := by have := HBX.out.size; omega
                obtain ⟨lo, hi⟩ := r
                dsimp only at d0 d1
                clear hr
                go_wp2
                go_roundw
                case rel => exact ⟨j + 1, by omega, by go_num, hbz.alloc hbzs _⟩
                case measure => simp [intOf]; omega
              · go_wp2
                go_ret
                exact ⟨rfl, HB2.out.trans ((HB.out.1.trans ((HBX.out.trans (hbz.mono HBX.out.size)).mono HB.out.1.size)).mono HB2.out.size)⟩
          · clear hcn3
            go_wp2_with (first
              | (go_at_call 23; refine hcall.mono ?_; clear hcall; rintro e w4 ⟨rfl, hb4⟩;
                                        rw [← hb4.cell (by exact hbl)] at c0 c1))
            have hbX : Below wr.heap.size wr w4 := hb4
            have TL := tail _ hbX
            have HBX := Lib.hid hbX
            have hLe := Below.refl w4.heap.size w4
            clear tail hbX c0 c1 hb4
            go_loopw [17, 117] (fun _ i wz => ∃ k : Nat, k ≤ L.length ∧ i = .int .i64 k ∧ Below w4.heap.size w4 wz) (fun _ i _ => L.length - (intOf i).toNat)
            case atStart => exact ⟨0, Nat.zero_le _, rfl, hLe⟩
            case round =>
              obtain ⟨j, hj, rfl, hbz⟩ := hrel
              have hbzs := hbz.size
              by_cases hjl : j < L.length
              · obtain ⟨r, hr⟩ : ∃ r, L[j]? = some r := ⟨_, List.getElem?_eq_getElem hjl⟩
                obtain ⟨d0, d1⟩ := TL.out j r hr
                rw [← hbz.cell (by have := HBX.out.size; exact Nat.lt_of_lt_of_le hbl this)] at d0 d1
                have hbw : b < wr.heap.size := by have := HBX.out.size; omega
                obtain ⟨lo, hi⟩ := r
                dsimp only at d0 d1
                clear hr
                go_wp2
                go_roundw
                case rel => exact ⟨j + 1, by omega, by go_num, hbz.alloc hbzs _⟩
                case measure => simp [intOf]; omega
              · go_wp2
                go_ret
                exact ⟨rfl, HB2.out.trans ((HB.out.1.trans ((HBX.out.trans (hbz.mono HBX.out.size)).mono HB.out.1.size)).mono HB2.out.size)⟩
        · have hd : fr ≤ lh := by simpa using hnl.symm
          have hfx := hfx rfl
          have HA : Hid (∀ W, Below wr.heap.size wr W → Calls Tryz.prog 25 #[.slice (some ⟨b, off, none⟩) L.length cap2, .int .i64 x] W fun e w' => e = .returned (.bool true) ∧ Below W.heap.size W w') := Lib.hid (fun W hW => by
            have h := HC.out.2 W x hW
            rw [(HX.out rfl).1] at h
            exact h)
          clear hnl
          by_cases h10 : L.length ≤ 10
          · obtain rfl := hcn3.out h10
            go_wp2_with (first
              | (go_at_call 23; refine hcall.mono ?_; clear hcall; rintro e w4 ⟨rfl, hb4⟩;
                                        rw [← hb4.cell (by exact hbl)] at c0 c1)
              | (go_at_call 25; refine (HA.out _ hb4).mono ?_; rintro e w5 ⟨rfl, hb5⟩)
              | (go_at_call 24; refine (HC.out.1 _ (hb4.trans (hb5.mono hb4.size))).mono ?_; rintro e w6 ⟨rfl, hb6⟩))
            have hbX : Below wr.heap.size wr w6 := (hb4.trans (hb5.mono hb4.size)).trans (hb6.mono (Nat.le_trans hb4.size hb5.size))
            have TL := tail _ hbX
            have HBX := Lib.hid hbX
            have hLe := Below.refl w6.heap.size w6
            clear tail hbX c0 c1 hb4 hb5 hb6
            go_loopw [17, 117] (fun _ i wz => ∃ k : Nat, k ≤ L.length ∧ i = .int .i64 k ∧ Below w6.heap.size w6 wz) (fun _ i _ => L.length - (intOf i).toNat)
            case atStart => exact ⟨0, Nat.zero_le _, rfl, hLe⟩
            case round =>
              obtain ⟨j, hj, rfl, hbz⟩ := hrel
              have hbzs := hbz.size
              by_cases hjl : j < L.length
              · obtain ⟨r, hr⟩ : ∃ r, L[j]? = some r := ⟨_, List.getElem?_eq_getElem hjl⟩
                obtain ⟨d0, d1⟩ := TL.out j r hr
                rw [← hbz.cell (by have := HBX.out.size; exact Nat.lt_of_lt_of_le hbl this)] at d0 d1
                have hbw : b < wr.heap.size := by have := HBX.out.size; omega
                obtain ⟨hx1, hx2⟩ := (HX.out (by trivial)).2 r (List.mem_of_getElem? hr)
                obtain ⟨lo, hi⟩ := r
                dsimp only at d0 d1 hx1 hx2
                clear hr
                rcases (show (hi < fr ∨ (fr ≤ hi ∧ x ≤ hi)) by omega) with h1 | ⟨h1, h1'⟩ <;> rcases (show (lo < fr ∨ (fr ≤ lo ∧ x ≤ lo)) by omega) with h2 | ⟨h2, h2'⟩
                all_goals
                  go_wp2
                  go_roundw
                  case rel => exact ⟨j + 1, by omega, by go_num, hbz.alloc hbzs _⟩
                  case measure => simp [intOf]; omega
              · go_wp2
                go_ret
                exact ⟨rfl, HB2.out.trans ((HB.out.1.trans ((HBX.out.trans (hbz.mono HBX.out.size)).mono HB.out.1.size)).mono HB2.out.size)⟩
          · clear hcn3
            go_wp2_with (first
              | (go_at_call 23; refine hcall.mono ?_; clear hcall; rintro e w4 ⟨rfl, hb4⟩;
                                        rw [← hb4.cell (by exact hbl)] at c0 c1)
              | (go_at_call 25; refine (HA.out _ hb4).mono ?_; rintro e w5 ⟨rfl, hb5⟩))
            have hbX : Below wr.heap.size wr w5 := hb4.trans (hb5.mono hb4.size)
            have TL := tail _ hbX
            have HBX := Lib.hid hbX
            have hLe := Below.refl w5.heap.size w5
            clear tail hbX c0 c1 hb4 hb5
            go_loopw [17, 117] (fun _ i wz => ∃ k : Nat, k ≤ L.length ∧ i = .int .i64 k ∧ Below w5.heap.size w5 wz) (fun _ i _ => L.length - (intOf i).toNat)
            case atStart => exact ⟨0, Nat.zero_le _, rfl, hLe⟩
            case round =>
              obtain ⟨j, hj, rfl, hbz⟩ := hrel
              have hbzs := hbz.size
              by_cases hjl : j < L.length
              · obtain ⟨r, hr⟩ : ∃ r, L[j]? = some r := ⟨_, List.getElem?_eq_getElem hjl⟩
                obtain ⟨d0, d1⟩ := TL.out j r hr
                rw [← hbz.cell (by have := HBX.out.size; exact Nat.lt_of_lt_of_le hbl this)] at d0 d1
                have hbw : b < wr.heap.size := by have := HBX.out.size; omega
                obtain ⟨hx1, hx2⟩ := (HX.out (by trivial)).2 r (List.mem_of_getElem? hr)
                obtain ⟨lo, hi⟩ := r
                dsimp only at d0 d1 hx1 hx2
                clear hr
                rcases (show (hi < fr ∨ (fr ≤ hi ∧ x ≤ hi)) by omega) with h1 | ⟨h1, h1'⟩ <;> rcases (show (lo < fr ∨ (fr ≤ lo ∧ x ≤ lo)) by omega) with h2 | ⟨h2, h2'⟩
                all_goals
                  go_wp2
                  go_roundw
                  case rel => exact ⟨j + 1, by omega, by go_num, hbz.alloc hbzs _⟩
                  case measure => simp [intOf]; omega
              · go_wp2
                go_ret
                exact ⟨rfl, HB2.out.trans ((HB.out.1.trans ((HBX.out.trans (hbz.mono HBX.out.size)).mono HB.out.1.size)).mono HB2.out.size)⟩
end Go.Proofs.YtkjilodmmcefbaaGreatDoor
