/- Texts of the claim, put together: KRv, KRw, KRx, KRy. -/
import Derived.Test.YtdgfldeeflmnmaaGreatDoorSKRj
import Derived.Test.YtdgfldeeflmnmaaGreatDoorSKRl
import Derived.Deep.RegionHeldLaw
import Derived.Deep.AppendLies
import Derived.StillTailTactics
import Derived.Test.YtdgfldeeflmnmaaGreatDoorSKbR
import Derived.Test.YtdgfldeeflmnmaaGreatDoorSKRg
import Derived.Test.YtdgfldeeflmnmaaGreatDoorSKwA
namespace Go.Proofs.YtdgfldeeflmnmaaGreatDoor.Sk
open Go Go.RowKit
def RplInv (s : ByteArray) (w : World) (out i : Value) (wr : World) : Prop :=
  ∃ (k N : Nat) (P : B), k ≤ s.size ∧ i = .int .i64 k ∧ N = P.length ∧ N ≤ k ∧ wr.ownsRow w.heap.size 5 1 out N (cB P) ∧ plainRGo (d s) = P ++ plainRGo ((d s).drop k) ∧ (P = [] → out = .slice none 0 0) ∧ Below w.heap.size w wr
set_option maxRecDepth 100000 in
set_option maxHeartbeats 8000000 in
theorem rplain_calls (s : ByteArray) (hs : s.size ≤ 1100000) (w : World) : Calls Tryz.prog 122 #[.string s] w (TdPost (.string ⟨(plainR (d s)).toArray⟩) w) := by
  by_cases h1 : d s = [45]
  · have HW : Hid (plainR (d s) = []) := Lib.hid (by unfold plainR; rw [if_pos h1])
    have hq3 : (s.toList == [45]) = true := by rw [ByteArray.toList_eq]; simpa using h1
    clear h1
    go_enter Tryz.func122, Tryz.ntmps122
    go_wp2
    go_ret
    exact ⟨by rw [HW.out]; rfl, Below.refl _ _⟩
  have hq3 : (s.toList == [45]) = false := by rw [ByteArray.toList_eq, beq_eq_false_iff_ne]; exact h1
  have HW : Hid (plainR (d s) = plainRGo (d s)) := Lib.hid (by unfold plainR; rw [if_neg h1])
  obtain ⟨i0, hi0, hz0, hz1, hz2⟩ := info_parts infoByte
  have HI0 := Lib.hid (And.intro hi0 (And.intro hz0 (And.intro hz1 hz2)))
  clear h1 hi0 hz0 hz1 hz2
  go_enter Tryz.func122, Tryz.ntmps122
  go_wp2_with fail
  go_loopw [3, 4] (fun out i wr => RplInv s w out i wr) (fun _ i _ => s.size - (intOf i).toNat)
  case atStart => exact ⟨0, 0, [], Nat.zero_le _, rfl, rfl, Nat.le_refl _, World.ownsRow_nil _ _ _ _, by simp, fun _ => rfl, Below.refl _ _⟩
  case round =>
    obtain ⟨k, N, P, hk, rfl, hN, hNk, hown, hpl, hnil, hb⟩ := hrel
    obtain ⟨w2, hw2⟩ : ∃ q, q = wr := ⟨_, rfl⟩
    subst hw2
    have hsr := hb.size
    have HO := Lib.hid (And.intro hown (And.intro hb (And.intro hN (And.intro hpl hnil))))
    clear hown hb hN hpl hnil
    by_cases hlt : k < s.size
    · have hlt' : decide (k < s.size) = true := decide_eq_true hlt
      have hc := s[k].toNat_lt
      have HDR := Lib.hid (drop_data s k hlt)
      obtain ⟨c, hcs⟩ : ∃ c : UInt8, c = s[k] := ⟨_, rfl⟩
      have hcn : s[k].toNat = c.toNat := by rw [hcs]
      have HAPP : Hid (plainRGo ((d s).drop k) = c :: plainRGo ((d s).drop (k + 1)) → ∀ (out' : Value) (w' : World), w'.ownsRow w.heap.size 5 1 out' (N + 1) (cB P ++ [.int .u8 c.toNat]) → Below w.heap.size w w' → RplInv s w out' (.int .i64 ((k + 1 : Nat) : Int)) w') := Lib.hid (fun he out' w' ho hb' =>
        ⟨k + 1, N + 1, P ++ [c], hlt, rfl, by rw [List.length_append, HO.out.2.2.1]; rfl, by omega, by rw [cB_app]; exact ho, by rw [HO.out.2.2.2.1, he]; simp, fun h => by simp at h, hb'⟩)
      rw [← hcs] at HDR
      have hNb : N ≤ 1100000 := by omega
      by_cases h37 : c = 37
      · have hq : ((s[k].toNat : Int) == 37) = true := by rw [hcn, h37]; rfl
        have hk2 : IntKind.i64.wrap ((k : Int) + 2) = (k : Int) + 2 := by rw [IntKind.wrap_i64]; omega
        by_cases hroom : k + 2 < s.size
        · have hr' : decide ((k : Int) + 2 < (s.size : Int)) = true := by simp; omega
          have ha := s[k + 1].toNat_lt
          have hbb := s[k + 2].toNat_lt
          have t1 : ((k : Int) + 1).toNat = k + 1 := by omega
          have t2 : ((k : Int) + 2).toNat = k + 2 := by omega
          have hk1 : IntKind.i64.wrap ((k : Int) + 1) = (k : Int) + 1 := by rw [IntKind.wrap_i64]; omega
          have i1 : (0 : Int) ≤ (k : Int) + 1 := by omega
          have i2 : (0 : Int) ≤ (k : Int) + 2 := by omega
          have i3 : (k : Int) + 1 < (s.size : Int) := by omega
          have i4 : (k : Int) + 2 < (s.size : Int) := by omega
          have i5 : k + 1 < s.size := by omega
          have HD2 : Hid ((d s).drop k = 37 :: s[k + 1] :: s[k + 2] :: (d s).drop (k + 3)) := Lib.hid (by rw [HDR.out, h37, drop_data s (k + 1) (by omega), drop_data s (k + 2) hroom])
          have HD1 : Hid ((d s).drop (k + 1) = s[k + 1] :: s[k + 2] :: (d s).drop (k + 3)) := Lib.hid (by rw [drop_data s (k + 1) (by omega), drop_data s (k + 2) hroom])
          have hva := fun wx : World => (rval_calls s[k + 1] wx).mono (fun _ _ (h : _ ∧ _) => And.intro h.1 h.2.symm)
          have hvb := fun wx : World => (rval_calls s[k + 2] wx).mono (fun _ _ (h : _ ∧ _) => And.intro h.1 h.2.symm)
          have HVA := Lib.hid hva
          have HVB := Lib.hid hvb
          have HC37 : Hid (s[k].toNat = c.toNat) := Lib.hid hcn
          clear hva hvb hcs hcn
          subst h37
          by_cases g1 : valH s[k + 1].toNat < 16
          · have f1 : decide ((valH s[k + 1].toNat : Int) < 16) = true := by simp; omega
            by_cases g2 : valH s[k + 2].toNat < 16
            · have f2 : decide ((valH s[k + 2].toNat : Int) < 16) = true := by simp; omega
              obtain ⟨va, hva⟩ : ∃ v, v = valH s[k + 1].toNat := ⟨_, rfl⟩
              obtain ⟨vb, hvb⟩ : ∃ v, v = valH s[k + 2].toNat := ⟨_, rfl⟩
              rw [← hva] at f1 g1
              rw [← hvb] at f2 g2
              have hVA : ∀ wx, Calls Tryz.prog 160 #[.int .u8 s[k + 1].toNat] wx fun e w' => e = .returned (.int .i64 va) ∧ wx = w' := fun wx => by rw [hva]; exact HVA.out wx
              have hVB : ∀ wx, Calls Tryz.prog 160 #[.int .u8 s[k + 2].toNat] wx fun e w' => e = .returned (.int .i64 vb) ∧ wx = w' := fun wx => by rw [hvb]; exact HVB.out wx
              have HXA := Lib.hid (And.intro hVA hVB)
              have HX : Hid (hexR s[k + 1] s[k + 2] = some (UInt8.ofNat (16 * va + vb))) := Lib.hid (by unfold hexR; rw [← hva, ← hvb, if_pos ⟨g1, g2⟩])
              have HE : Hid (plainRGo ((d s).drop k) = UInt8.ofNat (16 * va + vb) :: plainRGo ((d s).drop (k + 3))) := Lib.hid (by rw [HD2.out]; exact plainRGo_hex HX.out _)
              have e1 : IntKind.i64.wrap (16 * (va : Int)) = 16 * (va : Int) := by rw [IntKind.wrap_i64]; omega
              have e2 : IntKind.i64.wrap (16 * (va : Int) + (vb : Int)) = 16 * (va : Int) + (vb : Int) := by rw [IntKind.wrap_i64]; omega
              have e3 : IntKind.u8.wrap (16 * (va : Int) + (vb : Int)) = 16 * (va : Int) + (vb : Int) := by rw [IntKind.wrap_u8]; omega
              have HX2 : Hid ((.int .u8 (16 * (va : Int) + (vb : Int)) : Value) = .int .u8 ((UInt8.ofNat (16 * va + vb)).toNat : Int)) := Lib.hid (by congr 1; simp; omega)
              have HAPP3 : Hid (∀ (out' : Value) (w' : World), w'.ownsRow w.heap.size 5 1 out' (N + 1) (cB P ++ [.int .u8 (16 * (va : Int) + (vb : Int))]) → Below w.heap.size w w' → RplInv s w out' (.int .i64 ((k : Int) + 3)) w') := Lib.hid (fun out' w' ho hb' =>
                ⟨k + 3, N + 1, P ++ [UInt8.ofNat (16 * va + vb)], by omega, by simp, by rw [List.length_append, HO.out.2.2.1]; rfl, by omega, by rw [cB_app]; rw [HX2.out] at ho; exact ho, by rw [HO.out.2.2.2.1, HE.out]; simp, fun h => by simp at h, hb'⟩)
              clear hva hvb hVA hVB HVA HVB HAPP
              go_wp2_with (go_at_call 160; (first | (with_reducible refine (HXA.out.1 _).mono ?_) | (with_reducible refine (HXA.out.2 _).mono ?_)); rintro e w3 ⟨rfl, rfl⟩)
              go_region_held_law (fun _ => True) (trivial)
                (first
                  | (go_at_call 160; (first | (with_reducible refine (HXA.out.1 _).mono ?_) | (with_reducible refine (HXA.out.2 _).mono ?_)); rintro e w3 ⟨rfl, rfl⟩)
                  | (refine step_append_lies _ (by rfl) _ _ _ (by rfl) w.heap.size 5 i0 (.int .u8 0) 1 1 Tryz.underlying115 HI0.out.1 HI0.out.2.1 HI0.out.2.2.1 HI0.out.2.2.2 rfl (by decide) _ N _ (by rfl) (by exact HO.out.1.alloc _) ⟨w2.heap.size, 0, none⟩ 1 1 [.int .u8 (16 * (va : Int) + (vb : Int))] (by rfl) (by rfl) (by first | exact cells_new w2 #[.int .u8 (16 * (va : Int) + (vb : Int))] _ _ rfl | exact cells_new_drew w2 #[.int .u8 (16 * (va : Int) + (vb : Int))] _ _ rfl) (by intro u hu; rw [List.mem_singleton.1 hu]; rfl) (by decide) (by unfold maxLen; omega) (by omega) (by simp; omega) _ rfl ?_; intro g5 c5 w5 hown5 hgrow5 hat5 hlt5))
              all_goals
                have hA : Below w.heap.size w w5 := by first | exact below_own (HO.out.2.1.alloc hsr _) (by simp; omega) (HO.out.1.alloc _) hgrow5 | exact below_own (HO.out.2.1.alloc hsr _).drew (by simp; omega) (HO.out.1.alloc _) hgrow5
                have H5 := Lib.hid (And.intro hown5 hA)
                clear hown5 hA hgrow5 hat5 hlt5
                go_wp2
                go_roundw
                case rel =>
                  have h := HAPP3.out _ _ H5.out.1 H5.out.2
                  rw [show (k : Int) + 3 = (k : Int) + 2 + 1 by omega] at h
                  exact h
                case measure => simp [intOf]; omega
            · have f2 : decide ((valH s[k + 2].toNat : Int) < 16) = false := by simp; omega
              have HE : Hid (plainRGo ((d s).drop k) = 37 :: plainRGo ((d s).drop (k + 1))) := Lib.hid (by
                rw [HD2.out, HD1.out]
                exact plainRGo_not (by unfold hexR; rw [if_neg (fun h => g2 h.2)]) _)
              clear g1 g2
              go_wp2_with (first
                | (go_at_call 160; (first | (with_reducible refine (HVA.out _).mono ?_) | (with_reducible refine (HVB.out _).mono ?_)); rintro e w3 ⟨rfl, rfl⟩)
                | (at_builtin; refine wpList_app rfl _ _ 115 5 1 1 _ rfl Tryz.underlying115 infoByte rfl (by decide) (by decide) w.heap.size _ N (cB P) rfl (HO.out.1.alloc _) ⟨w2.heap.size, 0, none⟩ 1 1 [.int .u8 s[k].toNat] rfl rfl (cells_new w2 #[.int .u8 s[k].toNat] _ _ rfl) (by intro u hu; rw [List.mem_singleton.1 hu]; rfl) (by omega) (by simp; omega) ?_; intro v' w4 hown' _ _ hbel; have H4 := Lib.hid (And.intro hown' (hbel _ (HO.out.2.1.alloc hsr _))); clear hown' hbel))
              go_roundw
              case rel =>
                have h4 := H4.out.1
                rw [HC37.out] at h4
                have h := HAPP.out HE.out _ _ h4 H4.out.2
                rw [show (((k + 1 : Nat) : Int)) = (k : Int) + 1 by omega] at h
                exact h
              case measure => simp [intOf]; omega
          · have f1 : decide ((valH s[k + 1].toNat : Int) < 16) = false := by simp; omega
            have HE : Hid (plainRGo ((d s).drop k) = 37 :: plainRGo ((d s).drop (k + 1))) := Lib.hid (by
              rw [HD2.out, HD1.out]
              exact plainRGo_not (by unfold hexR; rw [if_neg (fun h => g1 h.1)]) _)
            clear g1
            go_wp2_with (first
              | (go_at_call 160; (first | (with_reducible refine (HVA.out _).mono ?_) | (with_reducible refine (HVB.out _).mono ?_)); rintro e w3 ⟨rfl, rfl⟩)
              | (at_builtin; refine wpList_app rfl _ _ 115 5 1 1 _ rfl Tryz.underlying115 infoByte rfl (by decide) (by decide) w.heap.size _ N (cB P) rfl (HO.out.1.alloc _) ⟨w2.heap.size, 0, none⟩ 1 1 [.int .u8 s[k].toNat] rfl rfl (cells_new w2 #[.int .u8 s[k].toNat] _ _ rfl) (by intro u hu; rw [List.mem_singleton.1 hu]; rfl) (by omega) (by simp; omega) ?_; intro v' w4 hown' _ _ hbel; have H4 := Lib.hid (And.intro hown' (hbel _ (HO.out.2.1.alloc hsr _))); clear hown' hbel))
            go_roundw
            case rel =>
              have h4 := H4.out.1
              rw [HC37.out] at h4
              have h := HAPP.out HE.out _ _ h4 H4.out.2
              rw [show (((k + 1 : Nat) : Int)) = (k : Int) + 1 by omega] at h
              exact h
            case measure => simp [intOf]; omega
        · have hr' : decide ((k : Int) + 2 < (s.size : Int)) = false := by simp; omega
          have HE : Hid (plainRGo ((d s).drop k) = c :: plainRGo ((d s).drop (k + 1))) := Lib.hid (by
            rw [HDR.out]
            exact plainRGo_short c (by simp; omega))
          have HC37 : Hid (s[k].toNat = c.toNat) := Lib.hid hcn
          clear hcs hcn
          subst h37
          go_wp2_with (first
            | (at_builtin; refine wpList_app rfl _ _ 115 5 1 1 _ rfl Tryz.underlying115 infoByte rfl (by decide) (by decide) w.heap.size _ N (cB P) rfl (HO.out.1.alloc _) ⟨w2.heap.size, 0, none⟩ 1 1 [.int .u8 s[k].toNat] rfl rfl (cells_new w2 #[.int .u8 s[k].toNat] _ _ rfl) (by intro u hu; rw [List.mem_singleton.1 hu]; rfl) (by omega) (by simp; omega) ?_; intro v' w4 hown' _ _ hbel; have H4 := Lib.hid (And.intro hown' (hbel _ (HO.out.2.1.alloc hsr _))); clear hown' hbel))
          go_roundw
          case rel =>
            have h4 := H4.out.1
            rw [HC37.out] at h4
            have h := HAPP.out HE.out _ _ h4 H4.out.2
            rw [show (((k + 1 : Nat) : Int)) = (k : Int) + 1 by omega] at h
            exact h
          case measure => simp [intOf]; omega
      · have hne : c.toNat ≠ 37 := fun e => h37 (UInt8.toNat_inj.1 e)
        have hq : ((s[k].toNat : Int) == 37) = false := by rw [hcn]; simp; omega
        have HE : Hid (plainRGo ((d s).drop k) = c :: plainRGo ((d s).drop (k + 1))) := Lib.hid (by
          rw [HDR.out]
          exact plainRGo_other h37 _)
        subst hcs
        clear h37 hne hcn
        go_wp2_with (first
          | (at_builtin; refine wpList_app rfl _ _ 115 5 1 1 _ rfl Tryz.underlying115 infoByte rfl (by decide) (by decide) w.heap.size _ N (cB P) rfl (HO.out.1.alloc _) ⟨w2.heap.size, 0, none⟩ 1 1 [.int .u8 s[k].toNat] rfl rfl (cells_new w2 #[.int .u8 s[k].toNat] _ _ rfl) (by intro u hu; rw [List.mem_singleton.1 hu]; rfl) (by omega) (by simp; omega) ?_; intro v' w4 hown' _ _ hbel; have H4 := Lib.hid (And.intro hown' (hbel _ (HO.out.2.1.alloc hsr _))); clear hown' hbel))
        go_roundw
        case rel =>
          have h := HAPP.out HE.out _ _ H4.out.1 H4.out.2
          rw [show (((k + 1 : Nat) : Int)) = (k : Int) + 1 by omega] at h
          exact h
        case measure => simp [intOf]; omega
    · obtain rfl : k = s.size := by omega
      have hlt' : decide (s.size < s.size) = false := by simp
      have hP : plainRGo (d s) = P := by
        have h := HO.out.2.2.2.1
        rw [List.drop_eq_nil_of_le (by simp)] at h
        rw [h]
        simp [plainRGo]
      have hown := HO.out.1
      obtain ⟨a4, c4, rfl⟩ := own_form hown
      have hcv := conv_own hown HO.out.2.2.1 (by
        by_cases hp : P = []
        · have := HO.out.2.2.2.2 hp
          injection this with e1 _ _
          exact .inl e1
        · right
          rw [HO.out.2.2.1]
          exact List.length_pos_iff.2 hp)
      have HV : Hid (plainR (d s) = P) := Lib.hid (HW.out.trans hP)
      clear hown hP
      go_wp2
      go_ret
      exact ⟨by rw [HV.out]; rfl, HO.out.2.1⟩
end Go.Proofs.YtdgfldeeflmnmaaGreatDoor.Sk
namespace Go.Proofs.YtdgfldeeflmnmaaGreatDoor.Sk
open Go Go.RowKit
theorem own_setR {W : World} {base g n cap size : Nat} {T : TypeId} {xs : List Value} (h : W.ownsRow base T size (.slice (some ⟨g, 0, none⟩) n cap) n xs) (j : Nat) (_hj : j < xs.length) (u : Value) :
    (W.setCell ⟨g, j, none⟩ u).ownsRow base T size (.slice (some ⟨g, 0, none⟩) n cap) n (xs.set j u) := by
  rcases h.2 with ⟨e, _⟩ | ⟨g', cap', cur, e, hb, hg, h1, h2, h3, h4⟩
  · cases e
  · cases e
    refine ⟨by rw [List.length_set]; exact h.1, .inr ⟨g, cap, cur.setIfInBounds j u, rfl, hb, ?_, h1, h2, by simpa using h3, ?_⟩⟩
    · unfold World.setCell
      simp only [Array.getElem?_modify, hg]
      rfl
    · rw [Array.toList_setIfInBounds, List.take_set, h4]
def RctInv (s : ByteArray) (w : World) (out i : Value) (wr : World) : Prop :=
  ∃ (k f N : Nat) (Q : List ByteArray) (u : ByteArray), CutTo 32 (d s) (Q.map d) f k ∧ i = .int .i64 k ∧ d u = ((d s).drop f).take (k - f) ∧ N = Q.length ∧ N ≤ k ∧ wr.ownsRow w.heap.size 9 1 out (N + 1) ((Q ++ [u]).map Value.string) ∧ Below w.heap.size w wr
/-- what cut gives: the pieces, in a row of its own -/
def RctPost (s : ByteArray) (w : World) (e : Ending) (w' : World) : Prop :=
  ∃ (v : Value) (Q : List ByteArray), e = .returned v ∧ Q.map d = cutAt 32 (d s) ∧ w'.ownsRow w.heap.size 9 1 v Q.length (Q.map Value.string) ∧ Below w.heap.size w w'
theorem own_one (w : World) (u : ByteArray) : (w.alloc (.cells #[.string u] 9)).ownsRow w.heap.size 9 1 (.slice (some ⟨w.heap.size, 0, none⟩) 1 1) 1 [.string u] :=
  ⟨rfl, .inr ⟨w.heap.size, 1, #[.string u], rfl, Nat.le_refl _, heap_alloc_new w _, Nat.le_refl _, by unfold maxLen; omega, rfl, rfl⟩⟩
set_option maxRecDepth 100000 in
set_option maxHeartbeats 8000000 in
theorem rcut_calls (s : ByteArray) (hs : s.size ≤ 1100000) (w : World) : Calls Tryz.prog 120 #[.string s] w (RctPost s w) := by
  go_enter Tryz.func120, Tryz.ntmps120
  go_wp2_with fail
  go_loopw [3, 4] (fun out i wr => RctInv s w out i wr) (fun _ i _ => s.size - (intOf i).toNat)
  case atStart => exact ⟨0, 0, 0, [], ⟨#[]⟩, CutTo.start _ _, rfl, by simp, rfl, Nat.le_refl _, own_one w _, (Below.refl _ _).alloc (Nat.le_refl _) _⟩
  case round =>
    obtain ⟨k, f, N, Q, u, hcut, rfl, hu, hN, hNk, hown, hb⟩ := hrel
    obtain ⟨w2, hw2⟩ : ∃ q, q = wr := ⟨_, rfl⟩
    subst hw2
    have hfk := hcut.le
    have hks : k ≤ s.size := by have := hcut.len; simpa using this
    have hsr := hb.size
    have hus : u.size ≤ 1100000 := by
      have h1 := ba_size hu
      rw [List.length_take, List.length_drop] at h1
      have h2 : (d s).length = s.size := by simp
      omega
    obtain ⟨g, c, rfl, hg1, hg2, hg3, hg4⟩ := own_cells hown (by omega)
    have hcell : w2.cell? ⟨g, N, none⟩ = some (.string u) := hg4 N _ (by rw [hN, List.map_append]; simp)
    have hfz : w2.frozen? ⟨g, N, none⟩ = false := own_froz hown N
    have H := Lib.hid (And.intro hcut (And.intro hu (And.intro hN (And.intro hown hb))))
    clear hcut hu hN hown hb hg4
    by_cases hlt : k < s.size
    · have hlt' : decide (k < s.size) = true := decide_eq_true hlt
      by_cases h32 : s[k] = 32
      · have hq : ((s[k].toNat : Int) == 32) = true := by rw [h32]; rfl
        have HX : Hid ((d s)[k]? = some 32) := Lib.hid (by rw [data_at s k hlt, h32])
        have HP : Hid (CutTo 32 (d s) ((Q ++ [u]).map d) (k + 1) (k + 1)) := Lib.hid (by
          have h := H.out.1.piece HX.out
          rw [List.map_append, List.map_singleton, H.out.2.1]
          exact h)
        clear h32
        go_wp2_with (at_builtin; refine wpList_app rfl _ _ 65 9 1 16 _ rfl Tryz.underlying65 Tryz.info9 rfl (by decide) (by decide) w.heap.size _ (N + 1) ((Q ++ [u]).map Value.string) rfl (H.out.2.2.2.1.alloc _) ⟨w2.heap.size, 0, none⟩ 1 1 [.string ⟨#[]⟩] rfl rfl (cells_new w2 #[.string ⟨#[]⟩] _ _ rfl) (by intro u hu; rw [List.mem_singleton.1 hu]; rfl) (by omega) (by simp; omega) ?_; intro v' w4 hown' _ _ hbel; have H4 := Lib.hid (And.intro hown' (hbel _ (H.out.2.2.2.2.alloc hsr _))); clear hown' hbel)
        go_roundw
        case rel => exact ⟨k + 1, k + 1, N + 1, Q ++ [u], ⟨#[]⟩, HP.out, by go_num, by simp, by rw [List.length_append, ← H.out.2.2.1]; rfl, by omega, by rw [List.map_append (l₁ := Q ++ [u])]; exact H4.out.1, H4.out.2⟩
        case measure => simp [intOf]; omega
      · have hne : s[k].toNat ≠ 32 := fun e => h32 (UInt8.toNat_inj.1 e)
        have hq : ((s[k].toNat : Int) == 32) = false := by simp; omega
        have HX := Lib.hid (H.out.1.skip (data_at s k hlt) h32)
        have hN1 : IntKind.i64.wrap (N : Int) = (N : Int) := by rw [IntKind.wrap_i64]; omega
        have hN2 : ((N : Int) + 1 - 1) = (N : Int) := by omega
        have hn1 : N < N + 1 := by omega
        have hn2 : (N : Int) < (N : Int) + 1 := by omega
        have hn3 : N ≤ 1100000 := by omega
        have b1 : (0 : Int) ≤ (k : Int) + 1 := by omega
        have b2 : (k : Int) + 1 ≤ (s.size : Int) := by omega
        have b3 : (k : Int) ≤ (k : Int) + 1 := by omega
        have b4 : k + 1 ≤ s.size := by omega
        have hk1 : IntKind.i64.wrap ((k : Int) + 1) = (k : Int) + 1 := by rw [IntKind.wrap_i64]; omega
        have t1 : ((k : Int) + 1).toNat = k + 1 := by omega
        have hez : (s.extract k (k + 1)).size = 1 := by rw [ByteArray.size_extract]; omega
        have HU : Hid (d (u ++ s.extract k (k + 1)) = ((d s).drop f).take (k + 1 - f)) := Lib.hid (by
          rw [take_more hfk (data_at s k hlt)]
          exact ba_snoc H.out.2.1 (ext_one s hlt))
        have HSET : Hid ((w2.setCell ⟨g, N, none⟩ (.string (u ++ s.extract k (k + 1)))).ownsRow w.heap.size 9 1 (.slice (some ⟨g, 0, none⟩) (N + 1) c) (N + 1) ((Q ++ [u ++ s.extract k (k + 1)]).map Value.string)) := Lib.hid (by
          have h := own_setR H.out.2.2.2.1 N (by rw [List.length_map, List.length_append, ← H.out.2.2.1]; simp) (.string (u ++ s.extract k (k + 1)))
          have e : ((Q ++ [u]).map Value.string).set N (.string (u ++ s.extract k (k + 1))) = (Q ++ [u ++ s.extract k (k + 1)]).map Value.string := by
            rw [H.out.2.2.1, List.map_append, List.map_append, List.set_append_right _ _ (by simp)]
            simp
          rw [e] at h
          exact h)
        obtain ⟨t, ht⟩ : ∃ t, s.extract k (k + 1) = t := ⟨_, rfl⟩
        rw [ht] at hez HU HSET
        have hadd : ∀ W, (Op.stringOp .add u t).run Tryz.prog W = .ok (.string (u ++ t)) W := fun W => by
          have h := run_string_add_lists (P := Tryz.prog) W (d u) (d t) (by simp; omega) (by simp; omega)
          rw [← ba_of (u := u) rfl, ← ba_of (u := t) rfl, ← ba_of (u := u ++ t) (ba_snoc rfl rfl)] at h
          exact h
        clear h32 hne
        go_wp2_with fail
        refine wp_region_still_tail 17 (by kernel_rfl) (by kernel_rfl) ?_
        change wpStill _ _ w2.drew (fun a' => wpList _ _ _ _ a' w2.drew) _ _
        have hcell' : w2.drew.cell? ⟨g, N, none⟩ = some (.string u) := hcell
        have hfz' : w2.drew.frozen? ⟨g, N, none⟩ = false := hfz
        have HSET2 : Hid ((w2.drew.setCell ⟨g, N, none⟩ (.string (u ++ t))).ownsRow w.heap.size 9 1 (.slice (some ⟨g, 0, none⟩) (N + 1) c) (N + 1) ((Q ++ [u ++ t]).map Value.string) ∧ Below w.heap.size w (w2.drew.setCell ⟨g, N, none⟩ (.string (u ++ t)))) := Lib.hid ⟨HSET.out, (H.out.2.2.2.2.drew).setCell (by exact hg1) _⟩
        have hg2' : g < w2.drew.heap.size := hg2
        generalize w2.drew = w3 at *
        clear hcell hfz HSET hg2
        simp only [List.take_succ_cons, List.take_zero, List.drop_succ_cons, List.drop_zero]
        repeat still_step
        refine wpStill_nil ?_
        go_wp2
        go_roundw
        case rel => exact ⟨k + 1, f, N, Q, _, HX.out, by go_num, HU.out, H.out.2.2.1, by omega, HSET2.out.1, HSET2.out.2⟩
        case measure => simp [intOf]; omega
    · obtain rfl : k = s.size := by omega
      have hlt' : decide (s.size < s.size) = false := by simp
      have HE : Hid ((Q ++ [u]).map d = cutAt 32 (d s)) := Lib.hid (by
        have h := CutTo.done (c := 32) (s := d s) (P := Q.map d) (f := f) (by have := H.out.1; simpa using this)
        have h2 := H.out.2.1
        rw [List.take_of_length_le (by simp)] at h2
        rw [h, List.map_append, List.map_singleton, h2])
      have HO : Hid (w2.ownsRow w.heap.size 9 1 (.slice (some ⟨g, 0, none⟩) (N + 1) c) (Q ++ [u]).length ((Q ++ [u]).map Value.string)) := Lib.hid (by
        rw [List.length_append, ← H.out.2.2.1]
        exact H.out.2.2.2.1)
      go_wp2
      go_ret
      exact ⟨_, Q ++ [u], rfl, HE.out, HO.out, H.out.2.2.2.2⟩
end Go.Proofs.YtdgfldeeflmnmaaGreatDoor.Sk
namespace Go.Proofs.YtdgfldeeflmnmaaGreatDoor.Sk
open Go Go.RowKit
theorem words_q {s : ByteArray} {Q : List ByteArray} (hQ : Q.map d = cutAt 32 (d s)) {k : B} {en : Ent} (h : textR k en = d s) : Q.map d = wordsT k en := by rw [hQ, ← h, cut_text]
theorem noText_q {s : ByteArray} {Q : List ByteArray} (hQ : Q.map d = cutAt 32 (d s)) (h4 : Q.length ≠ 4) (h6 : Q.length ≠ 6) : NoText (d s) := by
  intro k en hr hi he
  have h2 := congrArg List.length (words_q hQ he)
  rw [List.length_map] at h2
  unfold wordsT headW at h2
  split at h2
  · simp at h2; exact h4 h2
  · simp at h2; exact h6 h2
theorem parse4R {s a0 a1 a2 a3 : ByteArray} (hQ : ([a0, a1, a2, a3] : List ByteArray).map d = cutAt 32 (d s)) {k : B} {en : Ent} (hr : itemRight k en = true) (hi : EntIn en) (h : textR k en = d s) :
    plainR (d a3) = bytesS en.lab ∧ plainR (d a2) = k ∧ en = ⟨en.lab, true, 0, false, 0, numI (d a1)⟩ := by
  have h1 := words_q hQ h
  obtain ⟨l1, s10, s11, m1, t1⟩ := right_fields hr
  obtain ⟨lab, mk, b, sd, tm, sp⟩ := en
  unfold wordsT headW at h1
  simp only at h1 l1 m1 t1
  cases mk with
  | false => simp at h1
  | true =>
    simp only [if_true, List.map_cons, List.map_nil, List.cons_append, List.nil_append, List.cons.injEq, and_true] at h1
    obtain ⟨_, e1, e2, e3⟩ := h1
    obtain ⟨rfl, rfl⟩ := m1 rfl
    obtain rfl := t1 rfl
    exact ⟨by rw [e3, plainR_word], by rw [e2, plainR_word], by rw [e1, numI_itoa hi.s0 hi.s1]⟩
theorem parse6R {s a0 a1 a2 a3 a4 a5 : ByteArray} (hQ : ([a0, a1, a2, a3, a4, a5] : List ByteArray).map d = cutAt 32 (d s)) {k : B} {en : Ent} (hr : itemRight k en = true) (hi : EntIn en) (h : textR k en = d s) :
    plainR (d a5) = bytesS en.lab ∧ plainR (d a4) = k ∧ en = ⟨en.lab, false, (bitW 0 (d a2) : Int), !decide (d a3 = [45]), if d a3 = [45] then 0 else numI (d a3), numI (d a1)⟩ := by
  have h1 := words_q hQ h
  obtain ⟨l1, s10, s11, m1, t1⟩ := right_fields hr
  obtain ⟨lab, mk, b, sd, tm, sp⟩ := en
  unfold wordsT headW at h1
  simp only at h1 l1 m1 t1
  cases mk with
  | true => simp at h1
  | false =>
    simp only [Bool.false_eq_true, if_false, List.map_cons, List.map_nil, List.cons_append, List.nil_append, List.cons.injEq, and_true] at h1
    obtain ⟨_, e1, e2, e3, e4, e5⟩ := h1
    refine ⟨by rw [e5, plainR_word], by rw [e4, plainR_word], ?_⟩
    have eb : (bitW 0 (d a2) : Int) = b := by rw [e2]; exact bitW_bitsT hi.b0 hi.b1
    rw [eb, e1, numI_itoa hi.s0 hi.s1]
    cases sd with
    | true =>
      simp only [if_true] at e3
      have h4 : ¬ (d a3 = [45]) := by rw [e3]; exact itoa_ne_dash _
      rw [if_neg h4, e3, numI_itoa hi.t0 hi.t1]
      have h5 : ¬ (Lib.itoa tm = [45]) := itoa_ne_dash _
      simp [h5]
    | false =>
      simp only [Bool.false_eq_true, if_false] at e3
      obtain rfl := t1 rfl
      rw [if_pos e3]
      simp [e3]
end Go.Proofs.YtdgfldeeflmnmaaGreatDoor.Sk
namespace Go.Proofs.YtdgfldeeflmnmaaGreatDoor.Sk
open Go Go.RowKit
theorem labZ_right {l : List Lab} (h : labRight l = true) : l.length ≤ 1000000000 ∧ LabZ l := by
  obtain ⟨h1, h2⟩ := labRight_ok h
  refine ⟨by omega, fun x hx => ?_⟩
  have := h2 x hx
  simp at this
  omega
theorem noText_bad {s : B} {K : B} {en : Ent} (hp : ∀ k e, itemRight k e = true → EntIn e → textR k e = s → K = k ∧ en = e) (h : ¬ (itemRight K en = true ∧ textR K en = s)) : NoText s := by
  intro k e hr hi he
  obtain ⟨h1, h2⟩ := hp k e hr hi he
  subst h1; subst h2
  exact h ⟨hr, he⟩
theorem sets7 {B : Nat} {w W : World} (h : Below B w W) (x0 x1 x2 x3 x4 x5 x6 : Value) :
    Below B w (((((((W.setCell ⟨B, 0, none⟩ x0).setCell ⟨B, 1, none⟩ x1).setCell ⟨B, 2, none⟩ x2).setCell ⟨B, 3, none⟩ x3).setCell ⟨B, 4, none⟩ x4).setCell ⟨B, 5, none⟩ x5).setCell ⟨B, 6, none⟩ x6) :=
  ((((((h.setCell (Nat.le_refl _) x0).setCell (Nat.le_refl _) x1).setCell (Nat.le_refl _) x2).setCell (Nat.le_refl _) x3).setCell (Nat.le_refl _) x4).setCell (Nat.le_refl _) x5).setCell (Nat.le_refl _) x6
theorem ll7 {W : World} {R : Nat} {a : Option Addr} {c : Nat} {l : List Lab} (h : Ll W a c l) (hR : isT W R 70) (x0 x1 x2 x3 x4 x5 x6 : Value) :
    Ll (((((((W.setCell ⟨R, 0, none⟩ x0).setCell ⟨R, 1, none⟩ x1).setCell ⟨R, 2, none⟩ x2).setCell ⟨R, 3, none⟩ x3).setCell ⟨R, 4, none⟩ x4).setCell ⟨R, 5, none⟩ x5).setCell ⟨R, 6, none⟩ x6) a c l :=
  h.fr (X := fun k => k = R) (Fr.setCell (p := ⟨R, 6, none⟩) (Fr.setCell (p := ⟨R, 5, none⟩) (Fr.setCell (p := ⟨R, 4, none⟩) (Fr.setCell (p := ⟨R, 3, none⟩) (Fr.setCell (p := ⟨R, 2, none⟩) (Fr.setCell (p := ⟨R, 1, none⟩) (Fr.setCell (p := ⟨R, 0, none⟩) (Fr.refl (fun k => k = R) W) rfl x0) rfl x1) rfl x2) rfl x3) rfl x4) rfl x5) rfl x6)
    (fun b hb e => hb.ne hR (by decide) e)
theorem q_size {s : ByteArray} {Q : List ByteArray} (hQ : Q.map d = cutAt 32 (d s)) : ∀ y ∈ Q, y.size ≤ s.size := fun y hy => by
  have h1 := cutAt_le 32 (d s) (d y) (by rw [← hQ]; exact List.mem_map_of_mem hy)
  have h2 : (d y).length = y.size := by simp
  have h3 : (d s).length = s.size := by simp
  omega
/-- where Read stands: the result's cells, the pieces -/
structure RrSt (w : World) (g : Nat) (Q : List ByteArray) (wx : World) : Prop where
  r : wx.heap[w.heap.size]? = some (.cells zeroCells 70 (0, 0))
  lt : g < wx.heap.size
  p : ∀ (j : Nat) y, Q[j]? = some y → wx.cell? ⟨g, j, none⟩ = some (.string y)
  bel : Below w.heap.size w wx
theorem RrSt.below {w wx w' : World} {g : Nat} {Q : List ByteArray} (h : RrSt w g Q wx) (hb : Below wx.heap.size wx w') : RrSt w g Q w' :=
  ⟨(hb.block _ (isT_of h.r).lt).trans h.r, Nat.lt_of_lt_of_le h.lt hb.size, fun j y hy => (hb.cell (p := ⟨g, j, none⟩) h.lt).trans (h.p j y hy), Bthen h.bel hb⟩
theorem RrSt.set {w wx : World} {g : Nat} {Q : List ByteArray} (h : RrSt w g Q wx) {x : Nat} (h1 : w.heap.size < x) (h2 : g < x) (o : Nat) (v : Value) : RrSt w g Q (wx.setCell ⟨x, o, none⟩ v) :=
  have hf : Fr (fun k => k = x) wx (wx.setCell ⟨x, o, none⟩ v) := Fr.setCell (p := ⟨x, o, none⟩) (Fr.refl (fun k => k = x) wx) rfl v
  ⟨(hf.block _ (isT_of h.r).lt (Nat.ne_of_lt h1)).trans h.r, Nat.lt_of_lt_of_le h.lt hf.size, fun j y hy => (hf.cell h.lt (Nat.ne_of_lt h2)).trans (h.p j y hy), h.bel.setCell (p := ⟨x, o, none⟩) (Nat.le_of_lt h1) v⟩
theorem ll1 {W : World} {R : Nat} {a : Option Addr} {c : Nat} {l : List Lab} (h : Ll W a c l) (hR : isT W R 70) (o : Nat) (v : Value) :
    Ll (W.setCell ⟨R, o, none⟩ v) a c l :=
  h.fr (X := fun k => k = R) (Fr.setCell (p := ⟨R, o, none⟩) (Fr.refl (fun k => k = R) W) rfl v) (fun b hb e => hb.ne hR (by decide) e)
theorem bitW_lt : ∀ (s : B) (n : Nat), n < 18446744073709551616 → bitW n s < 18446744073709551616
  | [], n, h => by rw [bitW_nil]; exact h
  | c :: s, n, h => by
    have h1 := bitW_lt s (bitS n c) (bitS_lt n c)
    unfold bitW at h1 ⊢
    rw [List.foldl_cons]
    exact h1
/-- the item's block, its labels, Read's own cells -/
structure RxSt (w : World) (g : Nat) (Q : List ByteArray) (gx : Nat) (a : Option Addr) (c : Nat) (L : List Lab) (wx : World) (cs : Array Value) : Prop where
  h1 : RrSt w g Q wx
  h2 : wx.heap[gx]? = some (.cells cs 70 (0, 0))
  h3 : Ll wx a c L
theorem RxSt.set {w wx : World} {g gx c : Nat} {Q : List ByteArray} {a : Option Addr} {L : List Lab} {cs : Array Value} (h : RxSt w g Q gx a c L wx cs) (k1 : w.heap.size < gx) (k2 : g < gx) (o : Nat) (v : Value) : RxSt w g Q gx a c L (wx.setCell ⟨gx, o, none⟩ v) (cs.setIfInBounds o v) :=
  ⟨h.h1.set k1 k2 o v, blk_set h.h2 o v, ll1 h.h3 (isT_of h.h2) o v⟩
theorem RxSt.arr {w wx : World} {g gx c : Nat} {Q : List ByteArray} {a : Option Addr} {L : List Lab} {cs cs' : Array Value} (h : RxSt w g Q gx a c L wx cs) (e : cs = cs') : RxSt w g Q gx a c L wx cs' := e ▸ h
/-- behind the if of six words -/
def R6Cut (w : World) (g : Nat) (Q : List ByteArray) (gx : Nat) (a : Option Addr) (c : Nat) (L : List Lab) (K : ByteArray) (sp : Int) (s : ByteArray) (wx : World) : Prop :=
  ∃ (bt tm : Int) (sd : Bool), EntIn ⟨L, false, bt, sd, tm, sp⟩ ∧ (∀ k e, itemRight k e = true → EntIn e → textR k e = d s → d K = k ∧ (⟨L, false, bt, sd, tm, sp⟩ : Ent) = e) ∧ RxSt w g Q gx a c L wx #[.string K, .slice a L.length c, .bool false, .int .u64 bt, .bool sd, .int .i64 tm, .int .i64 sp]
theorem at_worldR {f : FuncId} {args : Array Value} {w : World} {Q : Ending → World → Prop} (h : ∀ W, W = w → Calls Tryz.prog f args W Q) : Calls Tryz.prog f args w Q := h w rfl
set_option maxRecDepth 100000 in
set_option maxHeartbeats 8000000 in
theorem rrd_calls (s : ByteArray) (hs : s.size ≤ 1100000) (w : World) : Calls Tryz.prog 77 #[.string s] w (RdtPost s w) := by
  go_enter Tryz.func77, Tryz.ntmps77
  go_wp2_with fail
  go_at_call 120
  obtain ⟨w0, hw0⟩ : ∃ q, q = w.alloc (.cells #[.string ⟨#[]⟩, .slice none 0 0, .bool false, .int .u64 0, .bool false, .int .i64 0, .int .i64 0] 70) := ⟨_, rfl⟩
  have hblk0 : w0.heap[w.heap.size]? = some (.cells zeroCells 70 (0, 0)) := by rw [hw0]; exact heap_alloc_new w _
  have hb0 : Below w.heap.size w w0 := by rw [hw0]; exact (Below.refl _ _).alloc (Nat.le_refl _) _
  rw [← hw0]
  have H0 := Lib.hid (And.intro hblk0 hb0)
  clear hw0 hblk0 hb0
  refine (rcut_calls s hs w0).mono ?_
  rintro e w1 ⟨v, Q, rfl, hQ, hown, hb1⟩
  have hpos : 0 < Q.length := by
    have h1 := congrArg List.length hQ
    rw [List.length_map] at h1
    rcases Nat.eq_zero_or_pos Q.length with h | h
    · rw [h] at h1
      exact absurd (List.eq_nil_of_length_eq_zero h1.symm) (cutAt_ne 32 (d s))
    · exact h
  obtain ⟨g, c, rfl, hg1, hg2, hg3, hg4⟩ := own_cells hown hpos
  have hgr : w.heap.size < g := by have := (isT_of H0.out.1).lt; omega
  have hst : RrSt w g Q w1 := ⟨(hb1.block _ (isT_of H0.out.1).lt).trans H0.out.1, hg2, fun j y hy => hg4 j _ (by rw [List.getElem?_map, hy]; rfl), Bthen H0.out.2 hb1⟩
  have hqs := q_size hQ
  have H1 := Lib.hid hst
  have HQ := Lib.hid (And.intro hQ hqs)
  clear hQ hown hb1 hg4 hst hqs H0 hg1 hg2
  by_cases h46 : Q.length ≠ 4 ∧ Q.length ≠ 6
  · obtain ⟨h4, h6⟩ := h46
    have HN := Lib.hid (And.intro (noText_q HQ.out.1 h4 h6) H1.out.bel)
    have f1 : ((Q.length : Int) == 4) = false := beq_eq_false_iff_ne.2 (by omega)
    have f2 : ((Q.length : Int) == 6) = false := beq_eq_false_iff_ne.2 (by omega)
    have f3 : ((Q.length : Int) != 4) = true := by simp; omega
    have f4 : ((Q.length : Int) != 6) = true := by simp; omega
    have r0 := block_cell H1.out.r 0 _ rfl
    have s0 := bk_froz H1.out.r 0
    have r1 := block_cell H1.out.r 1 _ rfl
    have s1 := bk_froz H1.out.r 1
    have r2 := block_cell H1.out.r 2 _ rfl
    have s2 := bk_froz H1.out.r 2
    have r3 := block_cell H1.out.r 3 _ rfl
    have s3 := bk_froz H1.out.r 3
    have r4 := block_cell H1.out.r 4 _ rfl
    have s4 := bk_froz H1.out.r 4
    have r5 := block_cell H1.out.r 5 _ rfl
    have s5 := bk_froz H1.out.r 5
    have r6 := block_cell H1.out.r 6 _ rfl
    have s6 := bk_froz H1.out.r 6
    clear h4 h6 H1 HQ
    go_wp2_with fail
    refine bodyPost_ret (v := .tuple #[zeroAgg, .int .i64 383]) (by simp [results, Tryz.results77, go_sem, r0, r1, r2, r3, r4, r5, r6]) rfl ⟨.inr ⟨rfl, HN.out.1⟩, ?_⟩
    iterate 7 (refine Below.setCell ?_ (by exact Nat.le_refl _) _)
    exact HN.out.2
  rcases (show Q.length = 4 ∨ Q.length = 6 by omega) with h4 | h4
  · obtain ⟨a0, a1, a2, a3, rfl⟩ : ∃ a0 a1 a2 a3, Q = [a0, a1, a2, a3] := by
      match Q, h4 with
      | [a0, a1, a2, a3], _ => exact ⟨a0, a1, a2, a3, rfl⟩
    have za0 : a0.size ≤ 1100000 := Nat.le_trans (HQ.out.2 a0 (by simp)) hs
    have za1 : a1.size ≤ 1100000 := Nat.le_trans (HQ.out.2 a1 (by simp)) hs
    have za2 : a2.size ≤ 1100000 := Nat.le_trans (HQ.out.2 a2 (by simp)) hs
    have za3 : a3.size ≤ 1100000 := Nat.le_trans (HQ.out.2 a3 (by simp)) hs
    have p3 := H1.out.p 3 _ rfl
    have hlen : ([a0, a1, a2, a3] : List ByteArray).length = 4 := rfl
    rw [hlen]
    have HH := Lib.hid hlen
    clear h4 hpos hlen hg3
    go_wp2_with fail
    go_at_call 122
    obtain ⟨P3, eP3, hd3, hz3⟩ := str_of (plainR (d a3))
    have hc3 := rplain_calls a3 za3 w1
    rw [eP3] at hc3
    refine hc3.mono ?_
    clear hc3 eP3
    rintro e w2 ⟨rfl, hb2⟩
    have hz3' : P3.size ≤ 1100000 := by have h1 := plainR_len (d a3); have h2 : (d a3).length = a3.size := by simp
                                        omega
    have H2 := Lib.hid (H1.out.below hb2)
    have HD3 := Lib.hid hd3
    clear hb2 p3 hd3 hz3
    go_wp2_with fail
    go_at_call 121
    refine (rreadL_calls P3 w2 hz3').mono ?_
    rintro e w3 hp
    unfold CrPost at hp
    cases hrd : readS (d P3) with
    | none =>
      rw [hrd] at hp
      obtain ⟨rfl, hb3⟩ := hp
      have H3 := H2.out.below hb3
      have HN : Hid (NoText (d s) ∧ Below w.heap.size w w3) := Lib.hid ⟨(fun k en hr hi he => by
        have h1 := (parse4R HQ.out.1 hr hi he).1
        rw [HD3.out, h1, readS_bytes (right_fields hr).1] at hrd
        cases hrd), H3.bel⟩
      have r0 := block_cell H3.r 0 _ rfl
      have s0 := bk_froz H3.r 0
      have r1 := block_cell H3.r 1 _ rfl
      have s1 := bk_froz H3.r 1
      have r2 := block_cell H3.r 2 _ rfl
      have s2 := bk_froz H3.r 2
      have r3 := block_cell H3.r 3 _ rfl
      have s3 := bk_froz H3.r 3
      have r4 := block_cell H3.r 4 _ rfl
      have s4 := bk_froz H3.r 4
      have r5 := block_cell H3.r 5 _ rfl
      have s5 := bk_froz H3.r 5
      have r6 := block_cell H3.r 6 _ rfl
      have s6 := bk_froz H3.r 6
      clear H3 hrd hb3
      go_wp2_with fail
      refine bodyPost_ret (v := .tuple #[zeroAgg, .int .i64 383]) (by simp [results, Tryz.results77, go_sem, r0, r1, r2, r3, r4, r5, r6]) rfl ⟨.inr ⟨rfl, HN.out.1⟩, ?_⟩
      iterate 7 (refine Below.setCell ?_ (by exact Nat.le_refl _) _)
      exact HN.out.2
    | some L =>
      rw [hrd] at hp
      obtain ⟨⟨v5, rfl, hown5⟩, hb3⟩ := hp
      obtain ⟨aL, cL, rfl⟩ := own_form hown5
      have H3 := Lib.hid (And.intro (H2.out.below hb3) (Ll.of_own hown5))
      have HRD := Lib.hid (And.intro hrd (readS_right hrd))
      have p1 := H3.out.1.p 1 _ rfl
      have p2 := H3.out.1.p 2 _ rfl
      have hgl := H3.out.1.lt
      obtain ⟨K, eK, hdK, hzK⟩ := str_of (plainR (d a2))
      have hcK := fun wx => rplain_calls a2 za2 wx
      rw [eK] at hcK
      have hKz : K.size ≤ 1100000 := by have h1 := plainR_len (d a2); have h2 : (d a2).length = a2.size := by simp
                                        omega
      obtain ⟨sp, hsp⟩ : ∃ q, q = numI (d a1) := ⟨_, rfl⟩
      have hcN := fun wx => rnumber_calls a1 za1 wx
      rw [← hsp] at hcN
      have HC := Lib.hid (And.intro hcK (fun wx => (hcN wx).mono (fun _ _ (h : _ ∧ _) => And.intro h.1 h.2.symm)))
      have HKS := Lib.hid (And.intro hdK hsp)
      clear hown5 hb3 hrd H2 hcK hcN eK hdK hzK hsp
      go_wp2_with fail
      have HK3 : Hid (∀ w' : World, Below w3.heap.size w3 w' → w'.cell? ⟨g, 2, none⟩ = some (.string a2) ∧ w'.cell? ⟨g, 1, none⟩ = some (.string a1)) := Lib.hid (fun w' hb => ⟨(H3.out.1.below hb).p 2 _ rfl, (H3.out.1.below hb).p 1 _ rfl⟩)
      go_cut [7] (fun s7 wx => ∃ gx, s7 = .pointer (some ⟨gx, 0, none⟩) ∧ wx.heap[gx]? = some (.cells #[.string K, .slice aL L.length cL, .bool true, .int .u64 0, .bool false, .int .i64 0, .int .i64 sp] 70 (0, 0)) ∧ Below w3.heap.size w3 wx ∧ w3.heap.size ≤ gx)
      case first =>
        go_region_held_law (fun w' : World => w'.cell? ⟨g, 2, none⟩ = some (.string a2) ∧ w'.cell? ⟨g, 1, none⟩ = some (.string a1)) (first | go_keep | (with_reducible exact HK3.out _ hb4) | (with_reducible exact HK3.out _ (hb4.alloc hb4.size _)) | (with_reducible exact HK3.out _ (sets7 hb4 _ _ _ _ _ _ _)))
          (first
            | (go_at_call 122; refine at_worldR ?_; intro W1 hW1; have hz1 : W1.heap[w3.heap.size]? = some (.cells zeroCells 70 (0, 0)) ∧ Below w3.heap.size w3 W1 := (by rw [hW1]; first | exact ⟨heap_alloc_new w3 _, (Below.refl _ _).alloc (Nat.le_refl _) _⟩ | exact ⟨heap_alloc_new w3 _, ((Below.refl _ _).alloc (Nat.le_refl _) _).drew⟩ | exact ⟨heap_alloc_new w3.drew _, ((Below.refl _ _).drew).alloc (Nat.le_refl _) _⟩); clear hW1; refine (HC.out.1 W1).mono ?_; rintro e w4 ⟨rfl, hb44⟩; have hb4 : Below w3.heap.size w3 w4 := hz1.2.trans (hb44.mono hz1.2.size); have hx4 : w4.heap[w3.heap.size]? = some (.cells zeroCells 70 (0, 0)) := (hb44.block _ (isT_of hz1.1).lt).trans hz1.1; have x0 := block_cell hx4 0 _ rfl; have y0 := bk_froz hx4 0; have x1 := block_cell hx4 1 _ rfl; have y1 := bk_froz hx4 1; have x2 := block_cell hx4 2 _ rfl; have y2 := bk_froz hx4 2; have x3 := block_cell hx4 3 _ rfl; have y3 := bk_froz hx4 3; have x4 := block_cell hx4 4 _ rfl; have y4 := bk_froz hx4 4; have x5 := block_cell hx4 5 _ rfl; have y5 := bk_froz hx4 5; have x6 := block_cell hx4 6 _ rfl; have y6 := bk_froz hx4 6; have hl4 := (isT_of hx4).lt; clear hz1 hb44)
            | (go_at_call 122; refine at_worldR ?_; intro W1 hW1; have hb1 : Below w3.heap.size w3 W1 := (by rw [hW1]; first | exact Below.refl _ _ | exact (Below.refl _ _).drew | exact (Below.refl _ _).drew.drew | exact below_drewN (Below.refl _ _) _ | exact (below_drewN (Below.refl _ _) _).drew); clear hW1; refine (HC.out.1 W1).mono ?_; rintro e w4 ⟨rfl, hb44⟩; have hb4 : Below w3.heap.size w3 w4 := hb1.trans (hb44.mono hb1.size); clear hb1 hb44)
            | (go_at_call 123; refine (HC.out.2 _).mono ?_; rintro e w5 ⟨rfl, rfl⟩))
        all_goals
          go_wp2_with fail
          go_meet
          first
            | (have hx7 := blk_set (blk_set (blk_set (blk_set (blk_set (blk_set (blk_set hx4 0 (.string K)) 1 (.slice aL L.length cL)) 2 (.bool true)) 3 (.int .u64 0)) 4 (.bool false)) 5 (.int .i64 0)) 6 (.int .i64 sp)
               exact ⟨_, rfl, hx7, sets7 hb4 _ _ _ _ _ _ _, Nat.le_refl _⟩)
            | exact ⟨_, rfl, heap_alloc_new w4 _, hb4.alloc hb4.size _, hb4.size⟩
      case rest =>
      obtain ⟨w6, hw6⟩ : ∃ q, q = wc := ⟨_, rfl⟩
      subst hw6
      obtain ⟨gx, h7, hX, hb6, hgx⟩ := hcut
      subst h7
      have H6 := Lib.hid (And.intro (H3.out.1.below hb6) (And.intro hX (H3.out.2.below hb6 (Nat.le_refl _))))
      have hgR : w.heap.size < w3.heap.size := (isT_of H3.out.1.r).lt
      clear hX hb6 p1 p2 HC HK3
      have HIN : Hid (EntIn ⟨L, true, 0, false, 0, sp⟩) := Lib.hid (by
        have h := numI_range (d a1)
        rw [← HKS.out.2] at h
        constructor <;> (dsimp only; omega))
      have HPA : Hid (∀ k e, itemRight k e = true → EntIn e → textR k e = d s → d K = k ∧ (⟨L, true, 0, false, 0, sp⟩ : Ent) = e) := Lib.hid (fun k e hr hi he => by
        obtain ⟨h1, h2, h3⟩ := parse4R HQ.out.1 hr hi he
        refine ⟨by rw [HKS.out.1, h2], ?_⟩
        have h4 : e.lab = L := by
          have h5 := HRD.out.1
          rw [HD3.out, h1, readS_bytes (right_fields hr).1] at h5
          exact Option.some.inj h5
        rw [h3, h4, HKS.out.2])
      have k0 := block_cell H6.out.2.1 0 _ rfl
      have k1 := block_cell H6.out.2.1 1 _ rfl
      have k2 := block_cell H6.out.2.1 2 _ rfl
      have k3 := block_cell H6.out.2.1 3 _ rfl
      have k4 := block_cell H6.out.2.1 4 _ rfl
      have k5 := block_cell H6.out.2.1 5 _ rfl
      have k6 := block_cell H6.out.2.1 6 _ rfl
      have hI : EntIn ⟨L, true, 0, false, 0, sp⟩ := HIN.out
      obtain ⟨hl1, hl2⟩ := labZ_right HRD.out.2
      have hcall := rtext_calls K aL cL ⟨L, true, 0, false, 0, sp⟩ _ hKz H6.out.2.2.rd hl1 hl2 hI
      try go_wp2_with fail
      go_at_call 25
      refine hcall.mono ?_
      clear hcall hI
      rintro e w9 ⟨rfl, hb9⟩
      have hX9 := (hb9.block _ (isT_of H6.out.2.1).lt).trans H6.out.2.1
      have H9 := Lib.hid (And.intro (H6.out.1.below hb9) (And.intro hX9 (H6.out.2.2.below hb9 (Nat.le_refl _))))
      have r0 := block_cell H9.out.1.r 0 _ rfl
      have s0 := bk_froz H9.out.1.r 0
      have r1 := block_cell H9.out.1.r 1 _ rfl
      have s1 := bk_froz H9.out.1.r 1
      have r2 := block_cell H9.out.1.r 2 _ rfl
      have s2 := bk_froz H9.out.1.r 2
      have r3 := block_cell H9.out.1.r 3 _ rfl
      have s3 := bk_froz H9.out.1.r 3
      have r4 := block_cell H9.out.1.r 4 _ rfl
      have s4 := bk_froz H9.out.1.r 4
      have r5 := block_cell H9.out.1.r 5 _ rfl
      have s5 := bk_froz H9.out.1.r 5
      have r6 := block_cell H9.out.1.r 6 _ rfl
      have s6 := bk_froz H9.out.1.r 6
      have m0 := block_cell hX9 0 _ rfl
      have m1 := block_cell hX9 1 _ rfl
      have m2 := block_cell hX9 2 _ rfl
      have m3 := block_cell hX9 3 _ rfl
      have m4 := block_cell hX9 4 _ rfl
      have m5 := block_cell hX9 5 _ rfl
      have m6 := block_cell hX9 6 _ rfl
      clear hb9 hX9 k0 k1 k2 k3 k4 k5 k6
      by_cases hok : itemRight (d K) ⟨L, true, 0, false, 0, sp⟩ = true ∧ textR (d K) ⟨L, true, 0, false, 0, sp⟩ = d s
      · have e1 : textErr (d K) ⟨L, true, 0, false, 0, sp⟩ = 0 := by unfold textErr; rw [hok.1]; rfl
        have e2 : (⟨(textT (d K) ⟨L, true, 0, false, 0, sp⟩).toArray⟩ : ByteArray) = s := by unfold textT; rw [hok.1, if_pos rfl, hok.2]; try exact (ba_of rfl).symm
        rw [e1, e2]
        have HOK := Lib.hid hok
        clear e1 e2 hok
        go_wp2_with fail
        refine bodyPost_ret (v := .tuple #[.agg #[.string K, .slice aL L.length cL, .bool true, .int .u64 0, .bool false, .int .i64 0, .int .i64 sp], .int .i64 0]) (by simp [results, Tryz.results77, go_sem, r0, r1, r2, r3, r4, r5, r6]) rfl ⟨.inl ⟨K, aL, cL, ⟨L, true, 0, false, 0, sp⟩, rfl, HOK.out.1, HIN.out, HOK.out.2, ll7 H9.out.2.2 (isT_of H9.out.1.r) _ _ _ _ _ _ _, by omega⟩, sets7 H9.out.1.bel _ _ _ _ _ _ _⟩
      · have HN := Lib.hid (noText_bad HPA.out hok)
        have HBL := Lib.hid H9.out.1.bel
        cases hir : itemRight (d K) ⟨L, true, 0, false, 0, sp⟩ with
        | false =>
          have e1 : textErr (d K) ⟨L, true, 0, false, 0, sp⟩ = 380 := by unfold textErr; rw [hir]; rfl
          rw [e1]
          clear e1 hir hok H9
          go_wp2_with fail
          refine bodyPost_ret (v := .tuple #[zeroAgg, .int .i64 383]) (by simp [results, Tryz.results77, go_sem, r0, r1, r2, r3, r4, r5, r6]) rfl ⟨.inr ⟨rfl, HN.out⟩, ?_⟩
          iterate 7 (refine Below.setCell ?_ (by exact Nat.le_refl _) _)
          exact HBL.out
        | true =>
          have e1 : textErr (d K) ⟨L, true, 0, false, 0, sp⟩ = 0 := by unfold textErr; rw [hir]; rfl
          obtain ⟨t, et, hdt, -⟩ := str_of (textT (d K) ⟨L, true, 0, false, 0, sp⟩)
          have hts : (t.toList == s.toList) = false := ba_ne (fun e => hok ⟨hir, by rw [← e, hdt]; unfold textT; rw [hir]; rfl⟩)
          rw [e1, et]
          clear e1 et hdt hir hok H9
          go_wp2_with fail
          refine bodyPost_ret (v := .tuple #[zeroAgg, .int .i64 383]) (by simp [results, Tryz.results77, go_sem, r0, r1, r2, r3, r4, r5, r6]) rfl ⟨.inr ⟨rfl, HN.out⟩, ?_⟩
          iterate 7 (refine Below.setCell ?_ (by exact Nat.le_refl _) _)
          exact HBL.out
  · obtain ⟨a0, a1, a2, a3, a4, a5, rfl⟩ : ∃ a0 a1 a2 a3 a4 a5, Q = [a0, a1, a2, a3, a4, a5] := by
      match Q, h4 with
      | [a0, a1, a2, a3, a4, a5], _ => exact ⟨a0, a1, a2, a3, a4, a5, rfl⟩
    have za0 : a0.size ≤ 1100000 := Nat.le_trans (HQ.out.2 a0 (by simp)) hs
    have za1 : a1.size ≤ 1100000 := Nat.le_trans (HQ.out.2 a1 (by simp)) hs
    have za2 : a2.size ≤ 1100000 := Nat.le_trans (HQ.out.2 a2 (by simp)) hs
    have za3 : a3.size ≤ 1100000 := Nat.le_trans (HQ.out.2 a3 (by simp)) hs
    have za4 : a4.size ≤ 1100000 := Nat.le_trans (HQ.out.2 a4 (by simp)) hs
    have za5 : a5.size ≤ 1100000 := Nat.le_trans (HQ.out.2 a5 (by simp)) hs
    have p5 := H1.out.p 5 _ rfl
    have hlen : ([a0, a1, a2, a3, a4, a5] : List ByteArray).length = 6 := rfl
    rw [hlen]
    have HH := Lib.hid hlen
    clear h4 hpos hlen hg3
    go_wp2_with fail
    go_at_call 122
    obtain ⟨P3, eP3, hd3, hz3⟩ := str_of (plainR (d a5))
    have hc3 := rplain_calls a5 za5 w1
    rw [eP3] at hc3
    refine hc3.mono ?_
    clear hc3 eP3
    rintro e w2 ⟨rfl, hb2⟩
    have hz3' : P3.size ≤ 1100000 := by have h1 := plainR_len (d a5); have h2 : (d a5).length = a5.size := by simp
                                        omega
    have H2 := Lib.hid (H1.out.below hb2)
    have HD3 := Lib.hid hd3
    clear hb2 p5 hd3 hz3
    go_wp2_with fail
    go_at_call 121
    refine (rreadL_calls P3 w2 hz3').mono ?_
    rintro e w3 hp
    unfold CrPost at hp
    cases hrd : readS (d P3) with
    | none =>
      rw [hrd] at hp
      obtain ⟨rfl, hb3⟩ := hp
      have H3 := H2.out.below hb3
      have HN : Hid (NoText (d s) ∧ Below w.heap.size w w3) := Lib.hid ⟨(fun k en hr hi he => by
        have h1 := (parse6R HQ.out.1 hr hi he).1
        rw [HD3.out, h1, readS_bytes (right_fields hr).1] at hrd
        cases hrd), H3.bel⟩
      have r0 := block_cell H3.r 0 _ rfl
      have s0 := bk_froz H3.r 0
      have r1 := block_cell H3.r 1 _ rfl
      have s1 := bk_froz H3.r 1
      have r2 := block_cell H3.r 2 _ rfl
      have s2 := bk_froz H3.r 2
      have r3 := block_cell H3.r 3 _ rfl
      have s3 := bk_froz H3.r 3
      have r4 := block_cell H3.r 4 _ rfl
      have s4 := bk_froz H3.r 4
      have r5 := block_cell H3.r 5 _ rfl
      have s5 := bk_froz H3.r 5
      have r6 := block_cell H3.r 6 _ rfl
      have s6 := bk_froz H3.r 6
      clear H3 hrd hb3
      go_wp2_with fail
      refine bodyPost_ret (v := .tuple #[zeroAgg, .int .i64 383]) (by simp [results, Tryz.results77, go_sem, r0, r1, r2, r3, r4, r5, r6]) rfl ⟨.inr ⟨rfl, HN.out.1⟩, ?_⟩
      iterate 7 (refine Below.setCell ?_ (by exact Nat.le_refl _) _)
      exact HN.out.2
    | some L =>
      rw [hrd] at hp
      obtain ⟨⟨v5, rfl, hown5⟩, hb3⟩ := hp
      obtain ⟨aL, cL, rfl⟩ := own_form hown5
      have H3 := Lib.hid (And.intro (H2.out.below hb3) (Ll.of_own hown5))
      have HRD := Lib.hid (And.intro hrd (readS_right hrd))
      have p1 := H3.out.1.p 1 _ rfl
      have p4 := H3.out.1.p 4 _ rfl
      have hgl := H3.out.1.lt
      obtain ⟨K, eK, hdK, hzK⟩ := str_of (plainR (d a4))
      have hcK := fun wx => rplain_calls a4 za4 wx
      rw [eK] at hcK
      have hKz : K.size ≤ 1100000 := by have h1 := plainR_len (d a4); have h2 : (d a4).length = a4.size := by simp
                                        omega
      obtain ⟨sp, hsp⟩ : ∃ q, q = numI (d a1) := ⟨_, rfl⟩
      have hcN := fun wx => rnumber_calls a1 za1 wx
      rw [← hsp] at hcN
      have HC := Lib.hid (And.intro hcK (fun wx => (hcN wx).mono (fun _ _ (h : _ ∧ _) => And.intro h.1 h.2.symm)))
      have HKS := Lib.hid (And.intro hdK hsp)
      clear hown5 hb3 hrd H2 hcK hcN eK hdK hzK hsp
      go_wp2_with fail
      have HK3 : Hid (∀ w' : World, Below w3.heap.size w3 w' → w'.cell? ⟨g, 4, none⟩ = some (.string a4) ∧ w'.cell? ⟨g, 1, none⟩ = some (.string a1)) := Lib.hid (fun w' hb => ⟨(H3.out.1.below hb).p 4 _ rfl, (H3.out.1.below hb).p 1 _ rfl⟩)
      go_cut [7] (fun s7 wx => ∃ gx, s7 = .pointer (some ⟨gx, 0, none⟩) ∧ wx.heap[gx]? = some (.cells #[.string K, .slice aL L.length cL, .bool false, .int .u64 0, .bool false, .int .i64 0, .int .i64 sp] 70 (0, 0)) ∧ Below w3.heap.size w3 wx ∧ w3.heap.size ≤ gx)
      case first =>
        go_region_held_law (fun w' : World => w'.cell? ⟨g, 4, none⟩ = some (.string a4) ∧ w'.cell? ⟨g, 1, none⟩ = some (.string a1)) (first | go_keep | (with_reducible exact HK3.out _ hb4) | (with_reducible exact HK3.out _ (hb4.alloc hb4.size _)) | (with_reducible exact HK3.out _ (sets7 hb4 _ _ _ _ _ _ _)))
          (first
            | (go_at_call 122; refine at_worldR ?_; intro W1 hW1; have hz1 : W1.heap[w3.heap.size]? = some (.cells zeroCells 70 (0, 0)) ∧ Below w3.heap.size w3 W1 := (by rw [hW1]; first | exact ⟨heap_alloc_new w3 _, (Below.refl _ _).alloc (Nat.le_refl _) _⟩ | exact ⟨heap_alloc_new w3 _, ((Below.refl _ _).alloc (Nat.le_refl _) _).drew⟩ | exact ⟨heap_alloc_new w3.drew _, ((Below.refl _ _).drew).alloc (Nat.le_refl _) _⟩); clear hW1; refine (HC.out.1 W1).mono ?_; rintro e w4 ⟨rfl, hb44⟩; have hb4 : Below w3.heap.size w3 w4 := hz1.2.trans (hb44.mono hz1.2.size); have hx4 : w4.heap[w3.heap.size]? = some (.cells zeroCells 70 (0, 0)) := (hb44.block _ (isT_of hz1.1).lt).trans hz1.1; have x0 := block_cell hx4 0 _ rfl; have y0 := bk_froz hx4 0; have x1 := block_cell hx4 1 _ rfl; have y1 := bk_froz hx4 1; have x2 := block_cell hx4 2 _ rfl; have y2 := bk_froz hx4 2; have x3 := block_cell hx4 3 _ rfl; have y3 := bk_froz hx4 3; have x4 := block_cell hx4 4 _ rfl; have y4 := bk_froz hx4 4; have x5 := block_cell hx4 5 _ rfl; have y5 := bk_froz hx4 5; have x6 := block_cell hx4 6 _ rfl; have y6 := bk_froz hx4 6; have hl4 := (isT_of hx4).lt; clear hz1 hb44)
            | (go_at_call 122; refine at_worldR ?_; intro W1 hW1; have hb1 : Below w3.heap.size w3 W1 := (by rw [hW1]; first | exact Below.refl _ _ | exact (Below.refl _ _).drew | exact (Below.refl _ _).drew.drew | exact below_drewN (Below.refl _ _) _ | exact (below_drewN (Below.refl _ _) _).drew); clear hW1; refine (HC.out.1 W1).mono ?_; rintro e w4 ⟨rfl, hb44⟩; have hb4 : Below w3.heap.size w3 w4 := hb1.trans (hb44.mono hb1.size); clear hb1 hb44)
            | (go_at_call 123; refine (HC.out.2 _).mono ?_; rintro e w5 ⟨rfl, rfl⟩))
        all_goals
          go_wp2_with fail
          go_meet
          first
            | (have hx7 := blk_set (blk_set (blk_set (blk_set (blk_set (blk_set (blk_set hx4 0 (.string K)) 1 (.slice aL L.length cL)) 2 (.bool false)) 3 (.int .u64 0)) 4 (.bool false)) 5 (.int .i64 0)) 6 (.int .i64 sp)
               exact ⟨_, rfl, hx7, sets7 hb4 _ _ _ _ _ _ _, Nat.le_refl _⟩)
            | exact ⟨_, rfl, heap_alloc_new w4 _, hb4.alloc hb4.size _, hb4.size⟩
      case rest =>
      obtain ⟨w6, hw6⟩ : ∃ q, q = wc := ⟨_, rfl⟩
      subst hw6
      obtain ⟨gx, h7, hX, hb6, hgx⟩ := hcut
      subst h7
      have H6 := Lib.hid (And.intro (H3.out.1.below hb6) (And.intro hX (H3.out.2.below hb6 (Nat.le_refl _))))
      have hgR : w.heap.size < w3.heap.size := (isT_of H3.out.1.r).lt
      clear hX hb6 p1 p4 HC HK3
      go_upto_if 54 with fail
      go_cut [] (fun wx => R6Cut w g [a0, a1, a2, a3, a4, a5] gx aL cL L K sp s wx)
      case first =>
        have hB := rbits_calls a2 za2
        have hT := rnumber_calls a3 za3
        have p2 := H6.out.1.p 2 _ rfl
        have p3 := H6.out.1.p 3 _ rfl
        have hgl6 := H6.out.1.lt
        have hg1' : w.heap.size < gx := Nat.lt_of_lt_of_le hgR hgx
        have hg2' : g < gx := Nat.lt_of_lt_of_le hgl hgx
        have HX : Hid (RxSt w g _ gx _ _ _ _ _) := Lib.hid ⟨H6.out.1, H6.out.2.1, H6.out.2.2⟩
        have k0 := block_cell H6.out.2.1 0 _ rfl
        have g0 := bk_froz H6.out.2.1 0
        have k1 := block_cell H6.out.2.1 1 _ rfl
        have g1 := bk_froz H6.out.2.1 1
        have k2 := block_cell H6.out.2.1 2 _ rfl
        have g2 := bk_froz H6.out.2.1 2
        have k3 := block_cell H6.out.2.1 3 _ rfl
        have g3 := bk_froz H6.out.2.1 3
        have k4 := block_cell H6.out.2.1 4 _ rfl
        have g4 := bk_froz H6.out.2.1 4
        have k5 := block_cell H6.out.2.1 5 _ rfl
        have g5 := bk_froz H6.out.2.1 5
        have k6 := block_cell H6.out.2.1 6 _ rfl
        have g6 := bk_froz H6.out.2.1 6
        have kl := (isT_of H6.out.2.1).lt
        go_wp2_with fail
        go_at_call 124
        refine (hB _).mono ?_
        rintro e w7 ⟨rfl, rfl⟩
        cases hdash : (!a3.toList == [45]) <;> go_wp2_with fail
        · obtain ⟨bt, hbt⟩ : ∃ bt : Int, bt = (bitW 0 (d a2) : Int) := ⟨_, rfl⟩
          rw [← hbt]
          have HBT := Lib.hid hbt
          clear hbt
          have e45 : d a3 = [45] := by rw [ByteArray.toList_eq] at hdash; simpa using hdash
          have hs3 : (!decide (d a3 = [45])) = false := by rw [e45]; rfl
          have ht3 : (if d a3 = [45] then (0 : Int) else numI (d a3)) = 0 := by rw [if_pos e45]
          have hr3 : -9223372036854775808 ≤ (0 : Int) ∧ (0 : Int) ≤ 9223372036854775807 := by omega
          have HY := HX.out.set hg1' hg2' 3 (.int .u64 bt)
          have HIN : Hid (EntIn ⟨L, false, bt, false, 0, sp⟩) := Lib.hid (by
            have h := numI_range (d a1)
            rw [← HKS.out.2] at h
            have h' := bitW_lt (d a2) 0 (by omega)
            have hbt := HBT.out
            constructor <;> (dsimp only; omega))
          have HPA : Hid (∀ k e, itemRight k e = true → EntIn e → textR k e = d s → d K = k ∧ (⟨L, false, bt, false, 0, sp⟩ : Ent) = e) := Lib.hid (fun k e hr hi he => by
            obtain ⟨h1, h2, h3⟩ := parse6R HQ.out.1 hr hi he
            refine ⟨by rw [HKS.out.1, h2], ?_⟩
            have h4 : e.lab = L := by
              have h5 := HRD.out.1
              rw [HD3.out, h1, readS_bytes (right_fields hr).1] at h5
              exact Option.some.inj h5
            rw [h3, h4, HKS.out.2, hs3, ht3, HBT.out])
          have HZ := Lib.hid (HY.arr (cs' := #[.string K, .slice aL L.length cL, .bool false, .int .u64 bt, .bool false, .int .i64 0, .int .i64 sp]) (by rfl))
          clear HY hs3 ht3 hr3 hB hT hdash
          try go_wp2_with fail
          go_meet
          exact ⟨bt, 0, false, HIN.out, HPA.out, HZ.out⟩

        · obtain ⟨bt, hbt⟩ : ∃ bt : Int, bt = (bitW 0 (d a2) : Int) := ⟨_, rfl⟩
          rw [← hbt]
          have HBT := Lib.hid hbt
          clear hbt
          obtain ⟨tm, htm⟩ : ∃ q, q = numI (d a3) := ⟨_, rfl⟩
          have n45 : ¬ d a3 = [45] := fun e => by
            rw [ByteArray.toList_eq, show a3.data.toList = [45] from e] at hdash
            revert hdash; decide
          have hs3 : (!decide (d a3 = [45])) = true := by simp [n45]
          have ht3 : (if d a3 = [45] then (0 : Int) else numI (d a3)) = tm := by rw [if_neg n45]; exact htm.symm
          have hr3 := numI_range (d a3)
          rw [← htm] at hr3
          refine (hT _).mono ?_
          rintro e w8 ⟨rfl, rfl⟩
          go_wp2_with fail
          rw [← htm]
          have HY := ((HX.out.set hg1' hg2' 3 (.int .u64 bt)).set hg1' hg2' 4 (.bool true)).set hg1' hg2' 5 (.int .i64 tm)
          have HIN : Hid (EntIn ⟨L, false, bt, true, tm, sp⟩) := Lib.hid (by
            have h := numI_range (d a1)
            rw [← HKS.out.2] at h
            have h' := bitW_lt (d a2) 0 (by omega)
            have hbt := HBT.out
            constructor <;> (dsimp only; omega))
          have HPA : Hid (∀ k e, itemRight k e = true → EntIn e → textR k e = d s → d K = k ∧ (⟨L, false, bt, true, tm, sp⟩ : Ent) = e) := Lib.hid (fun k e hr hi he => by
            obtain ⟨h1, h2, h3⟩ := parse6R HQ.out.1 hr hi he
            refine ⟨by rw [HKS.out.1, h2], ?_⟩
            have h4 : e.lab = L := by
              have h5 := HRD.out.1
              rw [HD3.out, h1, readS_bytes (right_fields hr).1] at h5
              exact Option.some.inj h5
            rw [h3, h4, HKS.out.2, hs3, ht3, HBT.out])
          have HZ := Lib.hid (HY.arr (cs' := #[.string K, .slice aL L.length cL, .bool false, .int .u64 bt, .bool true, .int .i64 tm, .int .i64 sp]) (by rfl))
          clear HY hs3 ht3 hr3 hB hT hdash
          try go_wp2_with fail
          go_meet
          exact ⟨bt, tm, true, HIN.out, HPA.out, HZ.out⟩

      case rest =>
      obtain ⟨w8, hw8⟩ : ∃ q, q = wc := ⟨_, rfl⟩
      subst hw8
      obtain ⟨bt, tm, sd, hin, hpa, hrx⟩ := hcut
      have HIN := Lib.hid hin
      have HPA := Lib.hid hpa
      have H8 := Lib.hid (And.intro hrx.h1 (And.intro hrx.h2 hrx.h3))
      clear hin hpa hrx H6
      have k0 := block_cell H8.out.2.1 0 _ rfl
      have k1 := block_cell H8.out.2.1 1 _ rfl
      have k2 := block_cell H8.out.2.1 2 _ rfl
      have k3 := block_cell H8.out.2.1 3 _ rfl
      have k4 := block_cell H8.out.2.1 4 _ rfl
      have k5 := block_cell H8.out.2.1 5 _ rfl
      have k6 := block_cell H8.out.2.1 6 _ rfl
      have hI : EntIn ⟨L, false, bt, sd, tm, sp⟩ := HIN.out
      obtain ⟨hl1, hl2⟩ := labZ_right HRD.out.2
      have hcall := rtext_calls K aL cL ⟨L, false, bt, sd, tm, sp⟩ _ hKz H8.out.2.2.rd hl1 hl2 hI
      try go_wp2_with fail
      go_at_call 25
      refine hcall.mono ?_
      clear hcall hI
      rintro e w9 ⟨rfl, hb9⟩
      have hX9 := (hb9.block _ (isT_of H8.out.2.1).lt).trans H8.out.2.1
      have H9 := Lib.hid (And.intro (H8.out.1.below hb9) (And.intro hX9 (H8.out.2.2.below hb9 (Nat.le_refl _))))
      have r0 := block_cell H9.out.1.r 0 _ rfl
      have s0 := bk_froz H9.out.1.r 0
      have r1 := block_cell H9.out.1.r 1 _ rfl
      have s1 := bk_froz H9.out.1.r 1
      have r2 := block_cell H9.out.1.r 2 _ rfl
      have s2 := bk_froz H9.out.1.r 2
      have r3 := block_cell H9.out.1.r 3 _ rfl
      have s3 := bk_froz H9.out.1.r 3
      have r4 := block_cell H9.out.1.r 4 _ rfl
      have s4 := bk_froz H9.out.1.r 4
      have r5 := block_cell H9.out.1.r 5 _ rfl
      have s5 := bk_froz H9.out.1.r 5
      have r6 := block_cell H9.out.1.r 6 _ rfl
      have s6 := bk_froz H9.out.1.r 6
      have m0 := block_cell hX9 0 _ rfl
      have m1 := block_cell hX9 1 _ rfl
      have m2 := block_cell hX9 2 _ rfl
      have m3 := block_cell hX9 3 _ rfl
      have m4 := block_cell hX9 4 _ rfl
      have m5 := block_cell hX9 5 _ rfl
      have m6 := block_cell hX9 6 _ rfl
      clear hb9 hX9 k0 k1 k2 k3 k4 k5 k6
      by_cases hok : itemRight (d K) ⟨L, false, bt, sd, tm, sp⟩ = true ∧ textR (d K) ⟨L, false, bt, sd, tm, sp⟩ = d s
      · have e1 : textErr (d K) ⟨L, false, bt, sd, tm, sp⟩ = 0 := by unfold textErr; rw [hok.1]; rfl
        have e2 : (⟨(textT (d K) ⟨L, false, bt, sd, tm, sp⟩).toArray⟩ : ByteArray) = s := by unfold textT; rw [hok.1, if_pos rfl, hok.2]; try exact (ba_of rfl).symm
        rw [e1, e2]
        have HOK := Lib.hid hok
        clear e1 e2 hok
        go_wp2_with fail
        refine bodyPost_ret (v := .tuple #[.agg #[.string K, .slice aL L.length cL, .bool false, .int .u64 bt, .bool sd, .int .i64 tm, .int .i64 sp], .int .i64 0]) (by simp [results, Tryz.results77, go_sem, r0, r1, r2, r3, r4, r5, r6]) rfl ⟨.inl ⟨K, aL, cL, ⟨L, false, bt, sd, tm, sp⟩, rfl, HOK.out.1, HIN.out, HOK.out.2, ll7 H9.out.2.2 (isT_of H9.out.1.r) _ _ _ _ _ _ _, by omega⟩, sets7 H9.out.1.bel _ _ _ _ _ _ _⟩
      · have HN := Lib.hid (noText_bad HPA.out hok)
        have HBL := Lib.hid H9.out.1.bel
        cases hir : itemRight (d K) ⟨L, false, bt, sd, tm, sp⟩ with
        | false =>
          have e1 : textErr (d K) ⟨L, false, bt, sd, tm, sp⟩ = 380 := by unfold textErr; rw [hir]; rfl
          rw [e1]
          clear e1 hir hok H9
          go_wp2_with fail
          refine bodyPost_ret (v := .tuple #[zeroAgg, .int .i64 383]) (by simp [results, Tryz.results77, go_sem, r0, r1, r2, r3, r4, r5, r6]) rfl ⟨.inr ⟨rfl, HN.out⟩, ?_⟩
          iterate 7 (refine Below.setCell ?_ (by exact Nat.le_refl _) _)
          exact HBL.out
        | true =>
          have e1 : textErr (d K) ⟨L, false, bt, sd, tm, sp⟩ = 0 := by unfold textErr; rw [hir]; rfl
          obtain ⟨t, et, hdt, -⟩ := str_of (textT (d K) ⟨L, false, bt, sd, tm, sp⟩)
          have hts : (t.toList == s.toList) = false := ba_ne (fun e => hok ⟨hir, by rw [← e, hdt]; unfold textT; rw [hir]; rfl⟩)
          rw [e1, et]
          clear e1 et hdt hir hok H9
          go_wp2_with fail
          refine bodyPost_ret (v := .tuple #[zeroAgg, .int .i64 383]) (by simp [results, Tryz.results77, go_sem, r0, r1, r2, r3, r4, r5, r6]) rfl ⟨.inr ⟨rfl, HN.out⟩, ?_⟩
          iterate 7 (refine Below.setCell ?_ (by exact Nat.le_refl _) _)
          exact HBL.out
end Go.Proofs.YtdgfldeeflmnmaaGreatDoor.Sk
namespace Go.Proofs.YtdgfldeeflmnmaaGreatDoor.Sk
open Go Go.RowKit
/-- the item of no text -/
abbrev zE : Ent := ⟨[], false, 0, false, 0, 0⟩
/-- what Read tells of a text, with its item written out -/
def RdOne (s : ByteArray) (key : ByteArray) (en : Ent) (err : Int) : Prop :=
  (err = 0 ∧ itemRight (d key) en = true ∧ EntIn en ∧ textR (d key) en = d s) ∨ (err = 383 ∧ NoText (d s) ∧ key = ⟨#[]⟩ ∧ en = zE)
theorem rdOne_of {s : ByteArray} {w w' : World} {e : Ending} (h : RdtPost s w e w') :
    ∃ (key : ByteArray) (la : Option Addr) (lc : Nat) (en : Ent) (err : Int), e = .returned (.tuple #[itAgg key la lc en, .int .i64 err]) ∧ RdOne s key en err ∧ Ll w' la lc en.lab ∧ Below w.heap.size w w' := by
  obtain ⟨h | h, hb⟩ := h
  · obtain ⟨key, la, lc, en, e, h1, h2, h3, h4, _⟩ := h
    exact ⟨key, la, lc, en, 0, e, .inl ⟨rfl, h1, h2, h3⟩, h4, hb⟩
  · obtain ⟨e, h1⟩ := h
    exact ⟨⟨#[]⟩, none, 0, zE, 383, e, .inr ⟨rfl, h1, rfl, rfl⟩, ⟨fun h => absurd rfl h, fun _ => ⟨rfl, rfl⟩, fun h => absurd rfl h⟩, hb⟩
theorem RdOne.same {s k1 k2 : ByteArray} {e1 e2 : Ent} {r1 r2 : Int} (h : RdOne s k1 e1 r1) (g : RdOne s k2 e2 r2) : k1 = k2 ∧ e1 = e2 ∧ r1 = r2 := by
  rcases h with ⟨rfl, a1, a2, a3⟩ | ⟨rfl, a1, rfl, rfl⟩ <;> rcases g with ⟨rfl, b1, b2, b3⟩ | ⟨rfl, b1, rfl, rfl⟩
  · obtain ⟨h1, h2⟩ := text_inj a1 b1 a2 b2 (a3.trans b3.symm)
    exact ⟨ByteArray.ext (Array.toList_inj.1 h1), h2, rfl⟩
  · exact absurd a3 (b1 _ _ a1 a2)
  · exact absurd b3 (a1 _ _ b1 b2)
  · exact ⟨rfl, rfl, rfl⟩
theorem RdOne.lab {s k : ByteArray} {en : Ent} {err : Int} (h : RdOne s k en err) : en.lab.length ≤ 1000000000 ∧ LabZ en.lab := by
  rcases h with ⟨_, h, _, _⟩ | ⟨_, _, _, rfl⟩
  · exact labZ_right (right_lab h)
  · exact ⟨by decide, fun x hx => by cases hx⟩
set_option maxRecDepth 100000 in
set_option maxHeartbeats 4000000 in
theorem reads_calls (s : ByteArray) (w : World) (hE : Ev w) (hS : Es w) : Calls Tryz.prog 27 #[.string s] w fun e w' => e = .returned (.bool true) ∧ Below w.heap.size w w' := by
  by_cases hs : s.size ≤ 400
  · have HE := Lib.hid (And.intro hE hS)
    clear hE hS
    go_enter Tryz.func27, Tryz.ntmps27
    go_wp2_with fail
    go_at_call 18
    refine (read_calls s (by omega) w HE.out.1 HE.out.2).mono ?_
    intro e1 w1 h1
    obtain ⟨key, la, lc, en, err, rfl, h11, h12, h13⟩ := rdOne_of h1
    have H1 := Lib.hid (And.intro h11 (And.intro h12 h13))
    clear h1 h11 h12 h13
    go_wp2_with fail
    go_at_call 77
    obtain ⟨wa, hwa⟩ : ∃ q, q = w1.alloc (.cells #[.string key, .slice la en.lab.length lc, .bool en.mark, .int .u64 en.bits, .bool en.st, .int .i64 en.time, .int .i64 en.stamp] 40) := ⟨_, rfl⟩
    obtain ⟨gx, hgx⟩ : ∃ q, q = w1.heap.size := ⟨_, rfl⟩
    have hba : Below w1.heap.size w1 wa := by rw [hwa]; exact (Below.refl _ _).alloc (Nat.le_refl _) _
    have hka : wa.heap[gx]? = some (.cells #[.string key, .slice la en.lab.length lc, .bool en.mark, .int .u64 en.bits, .bool en.st, .int .i64 en.time, .int .i64 en.stamp] 40 (0, 0)) := by rw [hwa, hgx]; exact heap_alloc_new w1 _
    rw [← hwa, ← hgx]
    have HA := Lib.hid (And.intro (Bthen H1.out.2.2 hba) (And.intro hka (H1.out.2.1.below hba (Nat.le_refl _))))
    clear hwa hgx hba hka
    refine (rrd_calls s (by omega) wa).mono ?_
    intro e2 w2 h2
    obtain ⟨key2, lb, cb, en2, err2, rfl, h21, h22, h23⟩ := rdOne_of h2
    obtain ⟨rfl, rfl, rfl⟩ := H1.out.1.same h21
    have HL := Lib.hid h21.lab
    have H2 := Lib.hid (And.intro (Bthen HA.out.1 h23) (And.intro ((h23.block _ (isT_of HA.out.2.1).lt).trans HA.out.2.1) (And.intro (HA.out.2.2.below h23 (Nat.le_refl _)) h22)))
    clear h2 h21 h22 h23 HA H1
    go_upto_region 5 with fail
    obtain ⟨wb, hwb⟩ : ∃ q, q = w2.alloc (.cells #[.string key, .slice lb en.lab.length cb, .bool en.mark, .int .u64 en.bits, .bool en.st, .int .i64 en.time, .int .i64 en.stamp] 70) := ⟨_, rfl⟩
    obtain ⟨gy, hgy⟩ : ∃ q, q = w2.heap.size := ⟨_, rfl⟩
    have hbb : Below w2.heap.size w2 wb := by rw [hwb]; exact (Below.refl _ _).alloc (Nat.le_refl _) _
    have hky : wb.heap[gy]? = some (.cells #[.string key, .slice lb en.lab.length cb, .bool en.mark, .int .u64 en.bits, .bool en.st, .int .i64 en.time, .int .i64 en.stamp] 70 (0, 0)) := by rw [hwb, hgy]; exact heap_alloc_new w2 _
    have hkx := (hbb.block _ (isT_of H2.out.2.1).lt).trans H2.out.2.1
    rw [← hwb, ← hgy]
    have H3 := Lib.hid (And.intro (Bthen H2.out.1 hbb) (And.intro (H2.out.2.2.1.below hbb (Nat.le_refl _)).rd (H2.out.2.2.2.below hbb (Nat.le_refl _)).rd))
    have HSK : Hid (∀ w' : World, Below wb.heap.size wb w' → w'.cell? ⟨gx, 0, none⟩ = some (.string key) ∧ w'.cell? ⟨gx, 1, none⟩ = some (.slice la en.lab.length lc) ∧ w'.cell? ⟨gx, 2, none⟩ = some (.bool en.mark) ∧ w'.cell? ⟨gx, 3, none⟩ = some (.int .u64 en.bits) ∧ w'.cell? ⟨gx, 4, none⟩ = some (.bool en.st) ∧ w'.cell? ⟨gx, 5, none⟩ = some (.int .i64 en.time) ∧ w'.cell? ⟨gx, 6, none⟩ = some (.int .i64 en.stamp) ∧ w'.cell? ⟨gy, 0, none⟩ = some (.string key) ∧ w'.cell? ⟨gy, 1, none⟩ = some (.slice lb en.lab.length cb) ∧ w'.cell? ⟨gy, 2, none⟩ = some (.bool en.mark) ∧ w'.cell? ⟨gy, 3, none⟩ = some (.int .u64 en.bits) ∧ w'.cell? ⟨gy, 4, none⟩ = some (.bool en.st) ∧ w'.cell? ⟨gy, 5, none⟩ = some (.int .i64 en.time) ∧ w'.cell? ⟨gy, 6, none⟩ = some (.int .i64 en.stamp)) := Lib.hid (fun w' hb => by
      have h1 := (hb.block _ (isT_of hkx).lt).trans hkx
      have h2 := (hb.block _ (isT_of hky).lt).trans hky
      exact ⟨block_cell h1 0 _ rfl, block_cell h1 1 _ rfl, block_cell h1 2 _ rfl, block_cell h1 3 _ rfl, block_cell h1 4 _ rfl, block_cell h1 5 _ rfl, block_cell h1 6 _ rfl, block_cell h2 0 _ rfl, block_cell h2 1 _ rfl, block_cell h2 2 _ rfl, block_cell h2 3 _ rfl, block_cell h2 4 _ rfl, block_cell h2 5 _ rfl, block_cell h2 6 _ rfl⟩)
    have hlx := (isT_of hkx).lt
    have hly := (isT_of hky).lt
    have x0 := block_cell hkx 0 _ rfl
    have y0 := block_cell hky 0 _ rfl
    have x1 := block_cell hkx 1 _ rfl
    have y1 := block_cell hky 1 _ rfl
    have x2 := block_cell hkx 2 _ rfl
    have y2 := block_cell hky 2 _ rfl
    have x3 := block_cell hkx 3 _ rfl
    have y3 := block_cell hky 3 _ rfl
    have x4 := block_cell hkx 4 _ rfl
    have y4 := block_cell hky 4 _ rfl
    have x5 := block_cell hkx 5 _ rfl
    have y5 := block_cell hky 5 _ rfl
    have x6 := block_cell hkx 6 _ rfl
    have y6 := block_cell hky 6 _ rfl
    clear hwb hgy hbb hkx hky H2
    go_region_held_law (fun w' : World => w'.cell? ⟨gx, 0, none⟩ = some (.string key) ∧ w'.cell? ⟨gx, 1, none⟩ = some (.slice la en.lab.length lc) ∧ w'.cell? ⟨gx, 2, none⟩ = some (.bool en.mark) ∧ w'.cell? ⟨gx, 3, none⟩ = some (.int .u64 en.bits) ∧ w'.cell? ⟨gx, 4, none⟩ = some (.bool en.st) ∧ w'.cell? ⟨gx, 5, none⟩ = some (.int .i64 en.time) ∧ w'.cell? ⟨gx, 6, none⟩ = some (.int .i64 en.stamp) ∧ w'.cell? ⟨gy, 0, none⟩ = some (.string key) ∧ w'.cell? ⟨gy, 1, none⟩ = some (.slice lb en.lab.length cb) ∧ w'.cell? ⟨gy, 2, none⟩ = some (.bool en.mark) ∧ w'.cell? ⟨gy, 3, none⟩ = some (.int .u64 en.bits) ∧ w'.cell? ⟨gy, 4, none⟩ = some (.bool en.st) ∧ w'.cell? ⟨gy, 5, none⟩ = some (.int .i64 en.time) ∧ w'.cell? ⟨gy, 6, none⟩ = some (.int .i64 en.stamp)) (first | go_keep | (with_reducible exact HSK.out _ hA) | (with_reducible exact HSK.out _ hC))
      (first
        | (go_at_call 26; refine at_worldR ?_; intro W1 hW1; have hb1 : Below wb.heap.size wb W1 := (by rw [hW1]; first | exact Below.refl _ _ | exact (Below.refl _ _).drew | exact below_drewN (Below.refl _ _) _); clear hW1; refine (theirs_calls key la en.lab.length lc en.mark en.st en.bits en.time en.stamp W1).mono ?_; rintro e w4 ⟨rfl, hb4⟩; have hA : Below wb.heap.size wb w4 := hb1.trans (hb4.mono hb1.size); clear hb1 hb4)
        | (go_at_call 78; refine at_worldR ?_; intro W3 hW3; have hb3 : Below w4.heap.size w4 W3 := (by rw [hW3]; first | exact Below.refl _ _ | exact (Below.refl _ _).drew | exact below_drewN (Below.refl _ _) _); clear hW3; refine (same_yes key la lb lc cb en W3 ((H3.out.2.1.below hA (Nat.le_refl _)).below hb3 (Nat.le_refl _)) ((H3.out.2.2.below hA (Nat.le_refl _)).below hb3 (Nat.le_refl _)) HL.out.1 HL.out.2).mono ?_; rintro e w5 ⟨rfl, hb5⟩; have hC : Below wb.heap.size wb w5 := hA.trans ((hb3.trans (hb5.mono hb3.size)).mono hA.size); have hB : Below w.heap.size w w5 := H3.out.1.trans (hC.mono H3.out.1.size); clear hb3 hb5))
    all_goals
      have HB := Lib.hid hB
      clear hB hA hC
      go_wp2_with fail
      go_ret
      first | exact ⟨rfl, HB.out⟩ | exact ⟨rfl, below_drewN HB.out _⟩
  · go_enter Tryz.func27, Tryz.ntmps27
    go_wp2
    go_ret
    exact ⟨rfl, Below.refl _ _⟩
end Go.Proofs.YtdgfldeeflmnmaaGreatDoor.Sk
