/- Several parts in one text: KRo, KRv. -/
import Derived.Test.YtggfehppompcjaaGreatDoorKRj
import Derived.Test.YtggfehppompcjaaGreatDoorKRl
import Derived.Deep.RegionHeldLaw
import Derived.Deep.AppendLies
import Derived.StillTailTactics
/- Chapter 38: the reference's plain. -/
namespace Go.Proofs.YtggfehppompcjaaGreatDoor.Sk
open Go Go.RowKit
def RplInv (s : ByteArray) (w : World) (out i : Value) (wr : World) : Prop :=
  ∃ (k N : Nat) (P : B), k ≤ s.size ∧ i = .int .i64 k ∧ N = P.length ∧ N ≤ k ∧ wr.ownsRow w.heap.size 5 1 out N (cB P) ∧ plainRGo (d s) = P ++ plainRGo ((d s).drop k) ∧ (P = [] → out = .slice none 0 0) ∧ Below w.heap.size w wr
set_option maxRecDepth 100000 in
set_option maxHeartbeats 8000000 in
theorem rplain_calls (s : ByteArray) (hs : s.size ≤ 1100000) (w : World) : Calls Tryz.prog 92 #[.string s] w (TdPost (.string ⟨(plainR (d s)).toArray⟩) w) := by
  by_cases h1 : d s = [45]
  · have HW : Hid (plainR (d s) = []) := Lib.hid (by unfold plainR; rw [if_pos h1])
    have hq3 : (s.toList == [45]) = true := by rw [ByteArray.toList_eq]; simpa using h1
    clear h1
    go_enter Tryz.func92, Tryz.ntmps92
    go_wp2
    go_ret
    exact ⟨by rw [HW.out]; rfl, Below.refl _ _⟩
  have hq3 : (s.toList == [45]) = false := by rw [ByteArray.toList_eq, beq_eq_false_iff_ne]; exact h1
  have HW : Hid (plainR (d s) = plainRGo (d s)) := Lib.hid (by unfold plainR; rw [if_neg h1])
  obtain ⟨i0, hi0, hz0, hz1, hz2⟩ := info_parts infoByte
  have HI0 := Lib.hid (And.intro hi0 (And.intro hz0 (And.intro hz1 hz2)))
  clear h1 hi0 hz0 hz1 hz2
  go_enter Tryz.func92, Tryz.ntmps92
  go_wp2_with fail
  go_loopw [3, 4] (fun out i wr => RplInv s w out i wr) (fun _ i _ => s.size - (intOf i).toNat)
  case atStart => exact ⟨0, 0, [], Nat.zero_le _, rfl, rfl, Nat.le_refl _, World.ownsRow_nil _ _ _ _, by simp, fun _ => rfl, Below.refl _ _⟩
  case round =>
    obtain ⟨k, N, P, hk, rfl, hN, hNk, hown, hpl, hnil, hb⟩ := hrel
    obtain ⟨w2, hw2⟩ : ∃ q, q = wr := ⟨_, rfl⟩
    subst hw2
    have hsr := hb.size
    have HO := Lib.hid (And.intro hown (And.intro hb (And.intro hN (And.intro hpl hnil))))
    clear hown hb hN hpl hnil
    by_cases hlt : k < s.size
    · have hlt' : decide (k < s.size) = true := decide_eq_true hlt
      have hc := s[k].toNat_lt
      have HDR := Lib.hid (drop_data s k hlt)
      obtain ⟨c, hcs⟩ : ∃ c : UInt8, c = s[k] := ⟨_, rfl⟩
      have hcn : s[k].toNat = c.toNat := by rw [hcs]
      have HAPP : Hid (plainRGo ((d s).drop k) = c :: plainRGo ((d s).drop (k + 1)) → ∀ (out' : Value) (w' : World), w'.ownsRow w.heap.size 5 1 out' (N + 1) (cB P ++ [.int .u8 c.toNat]) → Below w.heap.size w w' → RplInv s w out' (.int .i64 ((k + 1 : Nat) : Int)) w') := Lib.hid (fun he out' w' ho hb' =>
        ⟨k + 1, N + 1, P ++ [c], hlt, rfl, by rw [List.length_append, HO.out.2.2.1]; rfl, by omega, by rw [cB_app]; exact ho, by rw [HO.out.2.2.2.1, he]; simp, fun h => by simp at h, hb'⟩)
      rw [← hcs] at HDR
      have hNb : N ≤ 1100000 := by omega
      by_cases h37 : c = 37
      · have hq : ((s[k].toNat : Int) == 37) = true := by rw [hcn, h37]; rfl
        have hk2 : IntKind.i64.wrap ((k : Int) + 2) = (k : Int) + 2 := by rw [IntKind.wrap_i64]; omega
        by_cases hroom : k + 2 < s.size
        · have hr' : decide ((k : Int) + 2 < (s.size : Int)) = true := by simp; omega
          have ha := s[k + 1].toNat_lt
          have hbb := s[k + 2].toNat_lt
          have t1 : ((k : Int) + 1).toNat = k + 1 := by omega
          have t2 : ((k : Int) + 2).toNat = k + 2 := by omega
          have hk1 : IntKind.i64.wrap ((k : Int) + 1) = (k : Int) + 1 := by rw [IntKind.wrap_i64]; omega
          have i1 : (0 : Int) ≤ (k : Int) + 1 := by omega
          have i2 : (0 : Int) ≤ (k : Int) + 2 := by omega
          have i3 : (k : Int) + 1 < (s.size : Int) := by omega
          have i4 : (k : Int) + 2 < (s.size : Int) := by omega
          have i5 : k + 1 < s.size := by omega
          have HD2 : Hid ((d s).drop k = 37 :: s[k + 1] :: s[k + 2] :: (d s).drop (k + 3)) := Lib.hid (by rw [HDR.out, h37, drop_data s (k + 1) (by omega), drop_data s (k + 2) hroom])
          have HD1 : Hid ((d s).drop (k + 1) = s[k + 1] :: s[k + 2] :: (d s).drop (k + 3)) := Lib.hid (by rw [drop_data s (k + 1) (by omega), drop_data s (k + 2) hroom])
          have hva := fun wx : World => (rval_calls s[k + 1] wx).mono (fun _ _ (h : _ ∧ _) => And.intro h.1 h.2.symm)
          have hvb := fun wx : World => (rval_calls s[k + 2] wx).mono (fun _ _ (h : _ ∧ _) => And.intro h.1 h.2.symm)
          have HVA := Lib.hid hva
          have HVB := Lib.hid hvb
          have HC37 : Hid (s[k].toNat = c.toNat) := Lib.hid hcn
          clear hva hvb hcs hcn
          subst h37
          by_cases g1 : valH s[k + 1].toNat < 16
          · have f1 : decide ((valH s[k + 1].toNat : Int) < 16) = true := by simp; omega
            by_cases g2 : valH s[k + 2].toNat < 16
            · have f2 : decide ((valH s[k + 2].toNat : Int) < 16) = true := by simp; omega
              obtain ⟨va, hva⟩ : ∃ v, v = valH s[k + 1].toNat := ⟨_, rfl⟩
              obtain ⟨vb, hvb⟩ : ∃ v, v = valH s[k + 2].toNat := ⟨_, rfl⟩
              rw [← hva] at f1 g1
              rw [← hvb] at f2 g2
              have hVA : ∀ wx, Calls Tryz.prog 133 #[.int .u8 s[k + 1].toNat] wx fun e w' => e = .returned (.int .i64 va) ∧ wx = w' := fun wx => by rw [hva]; exact HVA.out wx
              have hVB : ∀ wx, Calls Tryz.prog 133 #[.int .u8 s[k + 2].toNat] wx fun e w' => e = .returned (.int .i64 vb) ∧ wx = w' := fun wx => by rw [hvb]; exact HVB.out wx
              have HXA := Lib.hid (And.intro hVA hVB)
              have HX : Hid (hexR s[k + 1] s[k + 2] = some (UInt8.ofNat (16 * va + vb))) := Lib.hid (by unfold hexR; rw [← hva, ← hvb, if_pos ⟨g1, g2⟩])
              have HE : Hid (plainRGo ((d s).drop k) = UInt8.ofNat (16 * va + vb) :: plainRGo ((d s).drop (k + 3))) := Lib.hid (by rw [HD2.out]; exact plainRGo_hex HX.out _)
              have e1 : IntKind.i64.wrap (16 * (va : Int)) = 16 * (va : Int) := by rw [IntKind.wrap_i64]; omega
              have e2 : IntKind.i64.wrap (16 * (va : Int) + (vb : Int)) = 16 * (va : Int) + (vb : Int) := by rw [IntKind.wrap_i64]; omega
              have e3 : IntKind.u8.wrap (16 * (va : Int) + (vb : Int)) = 16 * (va : Int) + (vb : Int) := by rw [IntKind.wrap_u8]; omega
              have HX2 : Hid ((.int .u8 (16 * (va : Int) + (vb : Int)) : Value) = .int .u8 ((UInt8.ofNat (16 * va + vb)).toNat : Int)) := Lib.hid (by congr 1; simp; omega)
              have HAPP3 : Hid (∀ (out' : Value) (w' : World), w'.ownsRow w.heap.size 5 1 out' (N + 1) (cB P ++ [.int .u8 (16 * (va : Int) + (vb : Int))]) → Below w.heap.size w w' → RplInv s w out' (.int .i64 ((k : Int) + 3)) w') := Lib.hid (fun out' w' ho hb' =>
                ⟨k + 3, N + 1, P ++ [UInt8.ofNat (16 * va + vb)], by omega, by simp, by rw [List.length_append, HO.out.2.2.1]; rfl, by omega, by rw [cB_app]; rw [HX2.out] at ho; exact ho, by rw [HO.out.2.2.2.1, HE.out]; simp, fun h => by simp at h, hb'⟩)
              clear hva hvb hVA hVB HVA HVB HAPP
              go_wp2_with (go_at_call 133; (first | (with_reducible refine (HXA.out.1 _).mono ?_) | (with_reducible refine (HXA.out.2 _).mono ?_)); rintro e w3 ⟨rfl, rfl⟩)
              go_region_held_law (fun _ => True) (trivial)
                (first
                  | (go_at_call 133; (first | (with_reducible refine (HXA.out.1 _).mono ?_) | (with_reducible refine (HXA.out.2 _).mono ?_)); rintro e w3 ⟨rfl, rfl⟩)
                  | (refine step_append_lies _ (by rfl) _ _ _ (by rfl) w.heap.size 5 i0 (.int .u8 0) 1 1 Tryz.underlying131 HI0.out.1 HI0.out.2.1 HI0.out.2.2.1 HI0.out.2.2.2 rfl (by decide) _ N _ (by rfl) (by exact HO.out.1.alloc _) ⟨w2.heap.size, 0, none⟩ 1 1 [.int .u8 (16 * (va : Int) + (vb : Int))] (by rfl) (by rfl) (by first | exact cells_new w2 #[.int .u8 (16 * (va : Int) + (vb : Int))] _ _ rfl | exact cells_new_drew w2 #[.int .u8 (16 * (va : Int) + (vb : Int))] _ _ rfl) (by intro u hu; rw [List.mem_singleton.1 hu]; rfl) (by decide) (by unfold maxLen; omega) (by omega) (by simp; omega) _ rfl ?_; intro g5 c5 w5 hown5 hgrow5 hat5 hlt5))
              all_goals
                have hA : Below w.heap.size w w5 := by first | exact below_own (HO.out.2.1.alloc hsr _) (by simp; omega) (HO.out.1.alloc _) hgrow5 | exact below_own (HO.out.2.1.alloc hsr _).drew (by simp; omega) (HO.out.1.alloc _) hgrow5
                have H5 := Lib.hid (And.intro hown5 hA)
                clear hown5 hA hgrow5 hat5 hlt5
                go_wp2
                go_roundw
                case rel =>
                  have h := HAPP3.out _ _ H5.out.1 H5.out.2
                  rw [show (k : Int) + 3 = (k : Int) + 2 + 1 by omega] at h
                  exact h
                case measure => simp [intOf]; omega
            · have f2 : decide ((valH s[k + 2].toNat : Int) < 16) = false := by simp; omega
              have HE : Hid (plainRGo ((d s).drop k) = 37 :: plainRGo ((d s).drop (k + 1))) := Lib.hid (by
                rw [HD2.out, HD1.out]
                exact plainRGo_not (by unfold hexR; rw [if_neg (fun h => g2 h.2)]) _)
              clear g1 g2
              go_wp2_with (first
                | (go_at_call 133; (first | (with_reducible refine (HVA.out _).mono ?_) | (with_reducible refine (HVB.out _).mono ?_)); rintro e w3 ⟨rfl, rfl⟩)
                | (at_builtin; refine wpList_app rfl _ _ 131 5 1 1 _ rfl Tryz.underlying131 infoByte rfl (by decide) (by decide) w.heap.size _ N (cB P) rfl (HO.out.1.alloc _) ⟨w2.heap.size, 0, none⟩ 1 1 [.int .u8 s[k].toNat] rfl rfl (cells_new w2 #[.int .u8 s[k].toNat] _ _ rfl) (by intro u hu; rw [List.mem_singleton.1 hu]; rfl) (by omega) (by simp; omega) ?_; intro v' w4 hown' _ _ hbel; have H4 := Lib.hid (And.intro hown' (hbel _ (HO.out.2.1.alloc hsr _))); clear hown' hbel))
              go_roundw
              case rel =>
                have h4 := H4.out.1
                rw [HC37.out] at h4
                have h := HAPP.out HE.out _ _ h4 H4.out.2
                rw [show (((k + 1 : Nat) : Int)) = (k : Int) + 1 by omega] at h
                exact h
              case measure => simp [intOf]; omega
          · have f1 : decide ((valH s[k + 1].toNat : Int) < 16) = false := by simp; omega
            have HE : Hid (plainRGo ((d s).drop k) = 37 :: plainRGo ((d s).drop (k + 1))) := Lib.hid (by
              rw [HD2.out, HD1.out]
              exact plainRGo_not (by unfold hexR; rw [if_neg (fun h => g1 h.1)]) _)
            clear g1
            go_wp2_with (first
              | (go_at_call 133; (first | (with_reducible refine (HVA.out _).mono ?_) | (with_reducible refine (HVB.out _).mono ?_)); rintro e w3 ⟨rfl, rfl⟩)
              | (at_builtin; refine wpList_app rfl _ _ 131 5 1 1 _ rfl Tryz.underlying131 infoByte rfl (by decide) (by decide) w.heap.size _ N (cB P) rfl (HO.out.1.alloc _) ⟨w2.heap.size, 0, none⟩ 1 1 [.int .u8 s[k].toNat] rfl rfl (cells_new w2 #[.int .u8 s[k].toNat] _ _ rfl) (by intro u hu; rw [List.mem_singleton.1 hu]; rfl) (by omega) (by simp; omega) ?_; intro v' w4 hown' _ _ hbel; have H4 := Lib.hid (And.intro hown' (hbel _ (HO.out.2.1.alloc hsr _))); clear hown' hbel))
            go_roundw
            case rel =>
              have h4 := H4.out.1
              rw [HC37.out] at h4
              have h := HAPP.out HE.out _ _ h4 H4.out.2
              rw [show (((k + 1 : Nat) : Int)) = (k : Int) + 1 by omega] at h
              exact h
            case measure => simp [intOf]; omega
        · have hr' : decide ((k : Int) + 2 < (s.size : Int)) = false := by simp; omega
          have HE : Hid (plainRGo ((d s).drop k) = c :: plainRGo ((d s).drop (k + 1))) := Lib.hid (by
            rw [HDR.out]
            exact plainRGo_short c (by simp; omega))
          have HC37 : Hid (s[k].toNat = c.toNat) := Lib.hid hcn
          clear hcs hcn
          subst h37
          go_wp2_with (first
            | (at_builtin; refine wpList_app rfl _ _ 131 5 1 1 _ rfl Tryz.underlying131 infoByte rfl (by decide) (by decide) w.heap.size _ N (cB P) rfl (HO.out.1.alloc _) ⟨w2.heap.size, 0, none⟩ 1 1 [.int .u8 s[k].toNat] rfl rfl (cells_new w2 #[.int .u8 s[k].toNat] _ _ rfl) (by intro u hu; rw [List.mem_singleton.1 hu]; rfl) (by omega) (by simp; omega) ?_; intro v' w4 hown' _ _ hbel; have H4 := Lib.hid (And.intro hown' (hbel _ (HO.out.2.1.alloc hsr _))); clear hown' hbel))
          go_roundw
          case rel =>
            have h4 := H4.out.1
            rw [HC37.out] at h4
            have h := HAPP.out HE.out _ _ h4 H4.out.2
            rw [show (((k + 1 : Nat) : Int)) = (k : Int) + 1 by omega] at h
            exact h
          case measure => simp [intOf]; omega
      · have hne : c.toNat ≠ 37 := fun e => h37 (UInt8.toNat_inj.1 e)
        have hq : ((s[k].toNat : Int) == 37) = false := by rw [hcn]; simp; omega
        have HE : Hid (plainRGo ((d s).drop k) = c :: plainRGo ((d s).drop (k + 1))) := Lib.hid (by
          rw [HDR.out]
          exact plainRGo_other h37 _)
        subst hcs
        clear h37 hne hcn
        go_wp2_with (first
          | (at_builtin; refine wpList_app rfl _ _ 131 5 1 1 _ rfl Tryz.underlying131 infoByte rfl (by decide) (by decide) w.heap.size _ N (cB P) rfl (HO.out.1.alloc _) ⟨w2.heap.size, 0, none⟩ 1 1 [.int .u8 s[k].toNat] rfl rfl (cells_new w2 #[.int .u8 s[k].toNat] _ _ rfl) (by intro u hu; rw [List.mem_singleton.1 hu]; rfl) (by omega) (by simp; omega) ?_; intro v' w4 hown' _ _ hbel; have H4 := Lib.hid (And.intro hown' (hbel _ (HO.out.2.1.alloc hsr _))); clear hown' hbel))
        go_roundw
        case rel =>
          have h := HAPP.out HE.out _ _ H4.out.1 H4.out.2
          rw [show (((k + 1 : Nat) : Int)) = (k : Int) + 1 by omega] at h
          exact h
        case measure => simp [intOf]; omega
    · obtain rfl : k = s.size := by omega
      have hlt' : decide (s.size < s.size) = false := by simp
      have hP : plainRGo (d s) = P := by
        have h := HO.out.2.2.2.1
        rw [List.drop_eq_nil_of_le (by simp)] at h
        rw [h]
        simp [plainRGo]
      have hown := HO.out.1
      obtain ⟨a4, c4, rfl⟩ := own_form hown
      have hcv := conv_own hown HO.out.2.2.1 (by
        by_cases hp : P = []
        · have := HO.out.2.2.2.2 hp
          injection this with e1 _ _
          exact .inl e1
        · right
          rw [HO.out.2.2.1]
          exact List.length_pos_iff.2 hp)
      have HV : Hid (plainR (d s) = P) := Lib.hid (HW.out.trans hP)
      clear hown hP
      go_wp2
      go_ret
      exact ⟨by rw [HV.out]; rfl, HO.out.2.1⟩
end Go.Proofs.YtggfehppompcjaaGreatDoor.Sk
/- Chapter 38: the reference's cut. -/
namespace Go.Proofs.YtggfehppompcjaaGreatDoor.Sk
open Go Go.RowKit
theorem own_setR {W : World} {base g n cap size : Nat} {T : TypeId} {xs : List Value} (h : W.ownsRow base T size (.slice (some ⟨g, 0, none⟩) n cap) n xs) (j : Nat) (_hj : j < xs.length) (u : Value) :
    (W.setCell ⟨g, j, none⟩ u).ownsRow base T size (.slice (some ⟨g, 0, none⟩) n cap) n (xs.set j u) := by
  rcases h.2 with ⟨e, _⟩ | ⟨g', cap', cur, e, hb, hg, h1, h2, h3, h4⟩
  · cases e
  · cases e
    refine ⟨by rw [List.length_set]; exact h.1, .inr ⟨g, cap, cur.setIfInBounds j u, rfl, hb, ?_, h1, h2, by simpa using h3, ?_⟩⟩
    · unfold World.setCell
      simp only [Array.getElem?_modify, hg]
      rfl
    · rw [Array.toList_setIfInBounds, List.take_set, h4]
def RctInv (s : ByteArray) (w : World) (out i : Value) (wr : World) : Prop :=
  ∃ (k f N : Nat) (Q : List ByteArray) (u : ByteArray), CutTo 32 (d s) (Q.map d) f k ∧ i = .int .i64 k ∧ d u = ((d s).drop f).take (k - f) ∧ N = Q.length ∧ N ≤ k ∧ wr.ownsRow w.heap.size 9 1 out (N + 1) ((Q ++ [u]).map Value.string) ∧ Below w.heap.size w wr
/-- what cut gives: the pieces, in a row of its own -/
def RctPost (s : ByteArray) (w : World) (e : Ending) (w' : World) : Prop :=
  ∃ (v : Value) (Q : List ByteArray), e = .returned v ∧ Q.map d = cutAt 32 (d s) ∧ w'.ownsRow w.heap.size 9 1 v Q.length (Q.map Value.string) ∧ Below w.heap.size w w'
theorem own_one (w : World) (u : ByteArray) : (w.alloc (.cells #[.string u] 9)).ownsRow w.heap.size 9 1 (.slice (some ⟨w.heap.size, 0, none⟩) 1 1) 1 [.string u] :=
  ⟨rfl, .inr ⟨w.heap.size, 1, #[.string u], rfl, Nat.le_refl _, heap_alloc_new w _, Nat.le_refl _, by unfold maxLen; omega, rfl, rfl⟩⟩
set_option maxRecDepth 100000 in
set_option maxHeartbeats 8000000 in
theorem rcut_calls (s : ByteArray) (hs : s.size ≤ 1100000) (w : World) : Calls Tryz.prog 90 #[.string s] w (RctPost s w) := by
  go_enter Tryz.func90, Tryz.ntmps90
  go_wp2_with fail
  go_loopw [3, 4] (fun out i wr => RctInv s w out i wr) (fun _ i _ => s.size - (intOf i).toNat)
  case atStart => exact ⟨0, 0, 0, [], ⟨#[]⟩, CutTo.start _ _, rfl, by simp, rfl, Nat.le_refl _, own_one w _, (Below.refl _ _).alloc (Nat.le_refl _) _⟩
  case round =>
    obtain ⟨k, f, N, Q, u, hcut, rfl, hu, hN, hNk, hown, hb⟩ := hrel
    obtain ⟨w2, hw2⟩ : ∃ q, q = wr := ⟨_, rfl⟩
    subst hw2
    have hfk := hcut.le
    have hks : k ≤ s.size := by have := hcut.len; simpa using this
    have hsr := hb.size
    have hus : u.size ≤ 1100000 := by
      have h1 := ba_size hu
      rw [List.length_take, List.length_drop] at h1
      have h2 : (d s).length = s.size := by simp
      omega
    obtain ⟨g, c, rfl, hg1, hg2, hg3, hg4⟩ := own_cells hown (by omega)
    have hcell : w2.cell? ⟨g, N, none⟩ = some (.string u) := hg4 N _ (by rw [hN, List.map_append]; simp)
    have hfz : w2.frozen? ⟨g, N, none⟩ = false := own_froz hown N
    have H := Lib.hid (And.intro hcut (And.intro hu (And.intro hN (And.intro hown hb))))
    clear hcut hu hN hown hb hg4
    by_cases hlt : k < s.size
    · have hlt' : decide (k < s.size) = true := decide_eq_true hlt
      by_cases h32 : s[k] = 32
      · have hq : ((s[k].toNat : Int) == 32) = true := by rw [h32]; rfl
        have HX : Hid ((d s)[k]? = some 32) := Lib.hid (by rw [data_at s k hlt, h32])
        have HP : Hid (CutTo 32 (d s) ((Q ++ [u]).map d) (k + 1) (k + 1)) := Lib.hid (by
          have h := H.out.1.piece HX.out
          rw [List.map_append, List.map_singleton, H.out.2.1]
          exact h)
        clear h32
        go_wp2_with (at_builtin; refine wpList_app rfl _ _ 66 9 1 16 _ rfl Tryz.underlying66 Tryz.info9 rfl (by decide) (by decide) w.heap.size _ (N + 1) ((Q ++ [u]).map Value.string) rfl (H.out.2.2.2.1.alloc _) ⟨w2.heap.size, 0, none⟩ 1 1 [.string ⟨#[]⟩] rfl rfl (cells_new w2 #[.string ⟨#[]⟩] _ _ rfl) (by intro u hu; rw [List.mem_singleton.1 hu]; rfl) (by omega) (by simp; omega) ?_; intro v' w4 hown' _ _ hbel; have H4 := Lib.hid (And.intro hown' (hbel _ (H.out.2.2.2.2.alloc hsr _))); clear hown' hbel)
        go_roundw
        case rel => exact ⟨k + 1, k + 1, N + 1, Q ++ [u], ⟨#[]⟩, HP.out, by go_num, by simp, by rw [List.length_append, ← H.out.2.2.1]; rfl, by omega, by rw [List.map_append (l₁ := Q ++ [u])]; exact H4.out.1, H4.out.2⟩
        case measure => simp [intOf]; omega
      · have hne : s[k].toNat ≠ 32 := fun e => h32 (UInt8.toNat_inj.1 e)
        have hq : ((s[k].toNat : Int) == 32) = false := by simp; omega
        have HX := Lib.hid (H.out.1.skip (data_at s k hlt) h32)
        have hN1 : IntKind.i64.wrap (N : Int) = (N : Int) := by rw [IntKind.wrap_i64]; omega
        have hN2 : ((N : Int) + 1 - 1) = (N : Int) := by omega
        have hn1 : N < N + 1 := by omega
        have hn2 : (N : Int) < (N : Int) + 1 := by omega
        have hn3 : N ≤ 1100000 := by omega
        have b1 : (0 : Int) ≤ (k : Int) + 1 := by omega
        have b2 : (k : Int) + 1 ≤ (s.size : Int) := by omega
        have b3 : (k : Int) ≤ (k : Int) + 1 := by omega
        have b4 : k + 1 ≤ s.size := by omega
        have hk1 : IntKind.i64.wrap ((k : Int) + 1) = (k : Int) + 1 := by rw [IntKind.wrap_i64]; omega
        have t1 : ((k : Int) + 1).toNat = k + 1 := by omega
        have hez : (s.extract k (k + 1)).size = 1 := by rw [ByteArray.size_extract]; omega
        have HU : Hid (d (u ++ s.extract k (k + 1)) = ((d s).drop f).take (k + 1 - f)) := Lib.hid (by
          rw [take_more hfk (data_at s k hlt)]
          exact ba_snoc H.out.2.1 (ext_one s hlt))
        have HSET : Hid ((w2.setCell ⟨g, N, none⟩ (.string (u ++ s.extract k (k + 1)))).ownsRow w.heap.size 9 1 (.slice (some ⟨g, 0, none⟩) (N + 1) c) (N + 1) ((Q ++ [u ++ s.extract k (k + 1)]).map Value.string)) := Lib.hid (by
          have h := own_setR H.out.2.2.2.1 N (by rw [List.length_map, List.length_append, ← H.out.2.2.1]; simp) (.string (u ++ s.extract k (k + 1)))
          have e : ((Q ++ [u]).map Value.string).set N (.string (u ++ s.extract k (k + 1))) = (Q ++ [u ++ s.extract k (k + 1)]).map Value.string := by
            rw [H.out.2.2.1, List.map_append, List.map_append, List.set_append_right _ _ (by simp)]
            simp
          rw [e] at h
          exact h)
        obtain ⟨t, ht⟩ : ∃ t, s.extract k (k + 1) = t := ⟨_, rfl⟩
        rw [ht] at hez HU HSET
        have hadd : ∀ W, (Op.stringOp .add u t).run Tryz.prog W = .ok (.string (u ++ t)) W := fun W => by
          have h := run_string_add_lists (P := Tryz.prog) W (d u) (d t) (by simp; omega) (by simp; omega)
          rw [← ba_of (u := u) rfl, ← ba_of (u := t) rfl, ← ba_of (u := u ++ t) (ba_snoc rfl rfl)] at h
          exact h
        clear h32 hne
        go_wp2_with fail
        refine wp_region_still_tail 17 (by kernel_rfl) (by kernel_rfl) ?_
        change wpStill _ _ w2.drew (fun a' => wpList _ _ _ _ a' w2.drew) _ _
        have hcell' : w2.drew.cell? ⟨g, N, none⟩ = some (.string u) := hcell
        have hfz' : w2.drew.frozen? ⟨g, N, none⟩ = false := hfz
        have HSET2 : Hid ((w2.drew.setCell ⟨g, N, none⟩ (.string (u ++ t))).ownsRow w.heap.size 9 1 (.slice (some ⟨g, 0, none⟩) (N + 1) c) (N + 1) ((Q ++ [u ++ t]).map Value.string) ∧ Below w.heap.size w (w2.drew.setCell ⟨g, N, none⟩ (.string (u ++ t)))) := Lib.hid ⟨HSET.out, (H.out.2.2.2.2.drew).setCell (by exact hg1) _⟩
        have hg2' : g < w2.drew.heap.size := hg2
        generalize w2.drew = w3 at *
        clear hcell hfz HSET hg2
        simp only [List.take_succ_cons, List.take_zero, List.drop_succ_cons, List.drop_zero]
        repeat still_step
        refine wpStill_nil ?_
        go_wp2
        go_roundw
        case rel => exact ⟨k + 1, f, N, Q, _, HX.out, by go_num, HU.out, H.out.2.2.1, by omega, HSET2.out.1, HSET2.out.2⟩
        case measure => simp [intOf]; omega
    · obtain rfl : k = s.size := by omega
      have hlt' : decide (s.size < s.size) = false := by simp
      have HE : Hid ((Q ++ [u]).map d = cutAt 32 (d s)) := Lib.hid (by
        have h := CutTo.done (c := 32) (s := d s) (P := Q.map d) (f := f) (by have := H.out.1; simpa using this)
        have h2 := H.out.2.1
        rw [List.take_of_length_le (by simp)] at h2
        rw [h, List.map_append, List.map_singleton, h2])
      have HO : Hid (w2.ownsRow w.heap.size 9 1 (.slice (some ⟨g, 0, none⟩) (N + 1) c) (Q ++ [u]).length ((Q ++ [u]).map Value.string)) := Lib.hid (by
        rw [List.length_append, ← H.out.2.2.1]
        exact H.out.2.2.2.1)
      go_wp2
      go_ret
      exact ⟨_, Q ++ [u], rfl, HE.out, HO.out, H.out.2.2.2.2⟩
end Go.Proofs.YtggfehppompcjaaGreatDoor.Sk
