/- Texts of the claim, put together: KRe. -/
import Derived.Test.YtdgfldeeflmnmaaGreatDoorSKRd
import Derived.Test.YtdgfldeeflmnmaaGreatDoorSKcB
namespace Go.Proofs.YtdgfldeeflmnmaaGreatDoor.Sk
open Go Go.RowKit
theorem bk_cell {w : World} {b : Nat} {cs : Array Value} {T : TypeId} (h : w.heap[b]? = some (.cells cs T (0, 0))) (j : Nat) (u : Value) (hu : cs[j]? = some u) : w.cell? ⟨b, j, none⟩ = some u := by
  simp only [World.cell?, h]
  exact hu
theorem bk_froz {w : World} {b : Nat} {cs : Array Value} {T : TypeId} (h : w.heap[b]? = some (.cells cs T (0, 0))) (j : Nat) : w.frozen? ⟨b, j, none⟩ = false := by simp [World.frozen?, h]
theorem ext_piece (s : ByteArray) {f k : Nat} (h : f ≤ k) (h2 : k ≤ s.size) : (⟨(((d s).drop f).take (k - f)).toArray⟩ : ByteArray) = s.extract f k := by
  rw [← d_extract s h h2]
theorem d_mk (l : B) : d (⟨l.toArray⟩ : ByteArray) = l := by simp
theorem two_small {s : ByteArray} {P : List B} (h : ∀ p ∈ P, p.length ≤ s.size) : ∀ x ∈ two P, x.1.size ≤ s.size ∧ x.2.size ≤ s.size := by
  intro x hx
  have : ∀ (P : List B), (∀ p ∈ P, p.length ≤ s.size) → ∀ x ∈ two P, x.1.size ≤ s.size ∧ x.2.size ≤ s.size := by
    intro P
    induction P using two.induct with
    | case1 a b r ih =>
      intro h x hx
      simp only [two, List.mem_cons] at hx
      rcases hx with rfl | hx
      · have h1 := h a (by simp)
        have h2 := h b (by simp)
        exact ⟨by show a.toArray.size ≤ s.size; simpa using h1, by show b.toArray.size ≤ s.size; simpa using h2⟩
      · exact ih (fun p hp => h p (by simp [hp])) x hx
    | case2 P hn =>
      intro h x hx
      unfold two at hx
      split at hx
      · exact absurd rfl (hn _ _ _)
      · simp at hx
  exact this P h x hx
/-- behind k bytes of Read -/
def RbI (s : ByteArray) (w : World) (out fr nm nd i : Value) (wr : World) : Prop :=
  ∃ (P : List B) (f k : Nat) (n : ByteArray) (b : Bool), CutTo 255 (d s) P f k ∧ i = .int .i64 k ∧ fr = .int .i64 f ∧ nm = .string n ∧ nd = .bool b ∧ b = decide (P.length % 2 = 1) ∧ (b = true → ∃ P0, P = P0 ++ [d n]) ∧
    (∀ p ∈ P, p.length ≤ s.size) ∧ wr.ownsRow w.heap.size 79 2 out (two P).length (lFlat (two P)) ∧ Below w.heap.size w wr
set_option maxRecDepth 100000 in
set_option maxHeartbeats 4000000 in
theorem rreadL_calls (s : ByteArray) (w : World) (hs : s.size ≤ 1100000) : Calls Tryz.prog 121 #[.string s] w (CrPost s w) := by
  go_enter Tryz.func121, Tryz.ntmps121
  go_wp2_with fail
  go_loopw [4, 5, 6, 7, 8] (fun out fr nm nd i wr => RbI s w out fr nm nd i wr) (fun _ _ _ _ i _ => s.size - (intOf i).toNat)
  case atStart => exact ⟨[], 0, 0, _, false, CutTo.start _ _, rfl, rfl, rfl, rfl, rfl, (fun h => by cases h), (fun p hp => by cases hp), World.ownsRow_nil _ _ _ _, Below.refl _ _⟩
  case round =>
    obtain ⟨P, f, k, n, b, hcut, rfl, rfl, rfl, rfl, hb1, hb2, hpl, hown, hb⟩ := hrel
    obtain ⟨w1, hw1⟩ : ∃ q, q = wr := ⟨_, rfl⟩
    subst hw1
    have hfk := hcut.le
    have hks : k ≤ s.size := by have := hcut.len; simpa using this
    have hbs := hb.size
    have HI := Lib.hid (And.intro hcut (And.intro hb1 (And.intro hb2 (And.intro hpl (And.intro hown hb)))))
    clear hcut hb1 hb2 hpl hown hb
    by_cases hlt : k < s.size
    · have hlt' : (k : Int) < (s.size : Int) := by omega
      by_cases hc : s[k] = 255
      · have hq : ((s[k].toNat : Int) == 255) = true := by rw [hc]; rfl
        have HX : Hid ((d s)[k]? = some 255) := Lib.hid (by rw [data_at s k hlt, hc])
        have HP := Lib.hid (HI.out.1.piece HX.out)
        have HE := Lib.hid (ext_piece s hfk hks)
        have HPL : Hid (∀ p ∈ P ++ [((d s).drop f).take (k - f)], p.length ≤ s.size) := Lib.hid (fun p hp => by
          rcases List.mem_append.1 hp with hp | hp
          · exact HI.out.2.2.2.1 p hp
          · rw [List.mem_singleton.1 hp, List.length_take, List.length_drop]
            simp; omega)
        clear hc
        cases b with
        | false =>
          have hev : P.length % 2 = 0 := by have := HI.out.2.1; simp at this; omega
          have HEV := Lib.hid hev
          clear hev
          go_wp2
          go_roundw
          case rel =>
            refine ⟨P ++ [((d s).drop f).take (k - f)], k + 1, k + 1, _, true, HP.out, by go_num, by go_num, rfl, rfl, ?_, fun _ => ⟨P, ?_⟩, HPL.out, ?_, HI.out.2.2.2.2.2⟩
            · rw [List.length_append, List.length_singleton]
              have := HEV.out
              symm
              simp; omega
            · rw [← HE.out, d_mk]
            · rw [two_one HEV.out]
              exact HI.out.2.2.2.2.1
          case measure => simp [intOf]; omega
        | true =>
          obtain ⟨P0, hP0⟩ := HI.out.2.2.1 rfl
          have hev : P0.length % 2 = 0 := by have := HI.out.2.1; rw [hP0] at this; simp at this; omega
          have h2 : two P = two P0 := by rw [hP0]; exact two_one hev _
          have h3 : two (P ++ [((d s).drop f).take (k - f)]) = two P ++ [(n, s.extract f k)] := by
            rw [h2, hP0, two_snoc hev, HE.out]
          have hl2 : (two P).length ≤ 1100000 := by
            rw [two_len]
            have h4 := cutAt_len 255 (d s)
            rw [HI.out.1.cut, List.length_append] at h4
            simp at h4
            omega
          have HT := Lib.hid (And.intro h3 hev)
          have HPE : Hid ((P ++ [((d s).drop f).take (k - f)]).length % 2 = 0) := Lib.hid (by rw [List.length_append, hP0, List.length_append]; simp; omega)
          obtain ⟨m, hm⟩ : ∃ m, m = (two P).length := ⟨_, rfl⟩
          have HM := Lib.hid hm
          rw [← hm] at hl2
          have hown2 : w1.ownsRow w.heap.size 79 2 u4 m (lFlat (two P)) := by rw [hm]; exact HI.out.2.2.2.2.1
          have HO := Lib.hid hown2
          clear hP0 hev h2 h3 hm hown2
          go_wp2_with (at_builtin; refine wpList_app rfl _ _ 30 79 2 32 _ rfl Tryz.underlying30 Tryz.info79 rfl (by decide) (by decide) w.heap.size _ m (lFlat (two P)) rfl (HO.out.alloc _) ⟨w1.heap.size, 0, none⟩ 1 1 [.string n, .string (s.extract f k)] rfl rfl (cells_new w1 #[.string n, .string (s.extract f k)] _ _ rfl) (by intro u hu; simp at hu; rcases hu with rfl | rfl <;> rfl) (by omega) (by simp; omega) ?_; intro v' w2 hown' hgrow _ hbel; have HO2 := Lib.hid (And.intro hown' (hbel _ (HI.out.2.2.2.2.2.alloc hbs _))); clear hown' hgrow hbel)
          go_roundw
          case rel =>
            refine ⟨P ++ [((d s).drop f).take (k - f)], k + 1, k + 1, _, false, HP.out, by go_num, by go_num, rfl, rfl, ?_, (fun h => by cases h), HPL.out, ?_, HO2.out.2⟩
            · rw [HPE.out]; rfl
            · rw [HT.out.1, List.length_append, lFlat_append, List.length_singleton, ← HM.out]
              exact HO2.out.1
          case measure => simp [intOf]; omega
      · have hne : s[k].toNat ≠ 255 := fun e => hc (UInt8.toNat_inj.1 e)
        have hq : ((s[k].toNat : Int) == 255) = false := by simp; omega
        have HX := Lib.hid (HI.out.1.skip (data_at s k hlt) hc)
        clear hc hne
        go_wp2
        go_roundw
        case rel => exact ⟨P, f, k + 1, n, b, HX.out, by go_num, rfl, rfl, rfl, HI.out.2.1, HI.out.2.2.1, HI.out.2.2.2.1, HI.out.2.2.2.2.1, HI.out.2.2.2.2.2⟩
        case measure => simp [intOf]; omega
    · obtain rfl : k = s.size := by omega
      have hend : cutAt 255 (d s) = P ++ [(d s).drop f] := CutTo.done (by have := HI.out.1; simpa using this)
      have HEND := Lib.hid hend
      have hlt' : decide ((s.size : Int) < (s.size : Int)) = false := by simp
      clear hend
      cases b with
      | true =>
        have HN : Hid (readS (d s) = none) := Lib.hid (readS_odd HEND.out (by have := HI.out.2.1; simp at this; omega))
        have HBB := Lib.hid HI.out.2.2.2.2.2
        clear HI
        go_wp2
        go_ret2
        exact CrPost.no HN.out HBB.out
      | false =>
        have hev : P.length % 2 = 0 := by have := HI.out.2.1; simp at this; omega
        have HEV := Lib.hid hev
        clear hev
        by_cases hf : f < s.size
        · have hf' : decide ((f : Int) < (s.size : Int)) = true := by simp; omega
          have HN : Hid (readS (d s) = none) := Lib.hid (readS_rest HEND.out (by intro e; have := congrArg List.length e; simp at this; omega))
          have HBB := Lib.hid HI.out.2.2.2.2.2
          clear HI
          go_wp2
          go_ret2
          exact CrPost.no HN.out HBB.out
        · have hf' : decide ((f : Int) < (s.size : Int)) = false := by simp; omega
          have hnil : (d s).drop f = [] := List.drop_eq_nil_of_le (by simp; omega)
          have HR : Hid (readS (d s) = if labRight (two P) then some (two P) else none) := Lib.hid (readS_lab (by rw [HEND.out, hnil]) HEV.out)
          obtain ⟨a', c', rfl⟩ := own_form HI.out.2.2.2.2.1
          have hln : (two P).length ≤ 1000000000 := by
            rw [two_len]
            have h4 := cutAt_len 255 (d s)
            rw [HEND.out, List.length_append] at h4
            simp at h4
            omega
          have hcall := rrightG_calls a' c' (two P) w1 (RdL.of_own HI.out.2.2.2.2.1) hln (fun x hx => by have := two_small HI.out.2.2.2.1 x hx; omega)
          have HC := Lib.hid hcall
          clear hnil hln hcall
          cases hr : labRight (two P) with
          | true =>
            have HN : Hid (readS (d s) = some (two P)) := Lib.hid (by rw [HR.out, if_pos hr])
            have HRR := Lib.hid hr
            clear hr
            go_wp2_with fail
            go_at_call 117
            refine HC.out.mono ?_
            rintro e w3 ⟨rfl, hb3⟩
            rw [HRR.out]
            have HB3 := Lib.hid hb3
            clear hb3
            go_wp2
            go_ret2
            exact CrPost.yes HN.out (HI.out.2.2.2.2.1.kept' HB3.out) (HI.out.2.2.2.2.2.trans (HB3.out.mono hbs))
          | false =>
            have HN : Hid (readS (d s) = none) := Lib.hid (by rw [HR.out, hr]; rfl)
            have HRR := Lib.hid hr
            clear hr
            go_wp2_with fail
            go_at_call 117
            refine HC.out.mono ?_
            rintro e w3 ⟨rfl, hb3⟩
            rw [HRR.out]
            have HB3 := Lib.hid hb3
            clear hb3
            go_wp2
            go_ret2
            exact CrPost.no HN.out (HI.out.2.2.2.2.2.trans (HB3.out.mono hbs))
set_option maxRecDepth 100000 in
theorem rjobG_calls (s : ByteArray) (w : World) (hs : s.size ≤ 4611686018427387904) : Calls Tryz.prog 105 #[.string s] w (TdPost (.bool (jobB (d s))) w) := by
  by_cases h0 : s.size = 0
  · have HF : Hid (jobB (d s) = false) := Lib.hid (by unfold jobB; rw [decide_eq_false (by simp; omega)]; rfl)
    have hz : (s.size : Int) = 0 := by omega
    clear h0
    go_enter Tryz.func105, Tryz.ntmps105
    go_wp2
    go_ret
    exact ⟨ret_bool HF.out.symm, Below.refl _ _⟩
  have hz : ((s.size : Int) == 0) = false := beq_eq_false_iff_ne.2 (by omega)
  by_cases h1 : 128 < s.size
  · have HF : Hid (jobB (d s) = false) := Lib.hid (by unfold jobB; rw [decide_eq_false (by simp; omega)]; rfl)
    have hg : decide (128 < (s.size : Int)) = true := by simp; omega
    clear h0 h1
    go_enter Tryz.func105, Tryz.ntmps105
    go_wp2
    go_ret
    exact ⟨ret_bool HF.out.symm, Below.refl _ _⟩
  have hg : decide (128 < (s.size : Int)) = false := by simp; omega
  have HF : Hid (jobB (d s) = valid (d s)) := Lib.hid (by unfold jobB; rw [decide_eq_true (by simp; omega)]; rfl)
  clear h0 h1
  go_enter Tryz.func105, Tryz.ntmps105
  go_wp2_with fail
  go_at_call 156
  refine (rcheckU_calls s _ hs).mono ?_
  rintro e w' ⟨⟨k, er, rfl, he⟩, hb⟩
  have HE := Lib.hid (And.intro he hb)
  clear he hb
  go_wp2
  go_ret
  exact ⟨ret_bool (by rw [HF.out, ← HE.out.1]), HE.out.2⟩
def RyPost (s : ByteArray) (w : World) (e : Ending) (w' : World) : Prop :=
  (∃ (j : ByteArray) (ja : Option Addr) (jn jc : Nat) (er : Int), e = .returned (.tuple #[.agg #[.string j, .slice ja jn jc], .int .i64 er]) ∧ ((er == 0) = (readKey (d s)).isSome)) ∧ Below w.heap.size w w'
theorem RyPost.no {s : ByteArray} {w w' : World} (h : (readKey (d s)).isSome = false) (hb : Below w.heap.size w w') : RyPost s w (.returned (.tuple #[.agg #[.string ⟨#[]⟩, .slice none 0 0], .int .i64 50])) w' :=
  ⟨⟨_, _, _, _, _, rfl, by rw [h]; rfl⟩, hb⟩
theorem RyPost.yes {s : ByteArray} {w w' : World} {j : ByteArray} {ja : Option Addr} {jn jc : Nat} (h : (readKey (d s)).isSome = true) (hb : Below w.heap.size w w') : RyPost s w (.returned (.tuple #[.agg #[.string j, .slice ja jn jc], .int .i64 0])) w' :=
  ⟨⟨_, _, _, _, _, rfl, by rw [h]; rfl⟩, hb⟩
set_option maxRecDepth 100000 in
set_option maxHeartbeats 4000000 in
theorem rreadkey_calls (s : ByteArray) (w : World) (hs : s.size ≤ 1100000) : Calls Tryz.prog 116 #[.string s] w (RyPost s w) := by
  go_enter Tryz.func116, Tryz.ntmps116
  go_wp2_with fail
  obtain ⟨w0, hw0⟩ : ∃ q, q = w.alloc (.cells #[.string ⟨#[]⟩, .slice none 0 0] 86) := ⟨_, rfl⟩
  have hblk : w0.heap[w.heap.size]? = some (.cells #[.string ⟨#[]⟩, .slice none 0 0] 86 (0, 0)) := by rw [hw0]; exact heap_alloc_new w _
  have hb0 : Below w.heap.size w w0 := by rw [hw0]; exact (Below.refl _ _).alloc (Nat.le_refl _) _
  rw [← hw0]
  obtain ⟨g, hg⟩ : ∃ g, g = w.heap.size := ⟨_, rfl⟩
  rw [← hg] at hblk ⊢
  have H0 := Lib.hid (And.intro hblk (And.intro hb0 hg))
  clear hw0 hblk hb0 hg
  go_loopw [4] (fun i wr => ∃ k : Nat, k ≤ s.size ∧ i = .int .i64 k ∧ (254 : UInt8) ∉ (d s).take k ∧ wr = w0) (fun i _ => s.size - (intOf i).toNat)
  case atStart => exact ⟨0, Nat.zero_le _, rfl, by simp, rfl⟩
  case round =>
    obtain ⟨k, hk, rfl, hno, rfl⟩ := hrel
    have HNO := Lib.hid hno
    clear hno
    by_cases hlt : k < s.size
    · have hlt' : decide (k < s.size) = true := decide_eq_true hlt
      by_cases hc : s[k] = 254
      · have hq : ((s[k].toNat : Int) == 254) = true := by rw [hc]; rfl
        have HK : Hid ((readKey (d s)).isSome = ((readS (d (s.extract (k + 1) s.size))).isSome && jobB (d (s.extract 0 k)))) := Lib.hid (by
          rw [readKey_at (by rw [data_at s k hlt, hc]) HNO.out, d_extract s (by omega) (by omega), d_extract s (by omega) (by omega)]
          rw [List.take_of_length_le (l := (d s).drop (k + 1)) (by simp)]
          simp)
        have hk1 : ((k : Int) + 1).toNat = k + 1 := by omega
        have z1 : (s.extract (k + 1) s.size).size ≤ 1100000 := by rw [ByteArray.size_extract]; omega
        have z0 : (s.extract 0 k).size ≤ 4611686018427387904 := by rw [ByteArray.size_extract]; omega
        have hjl : k ≤ s.size := by omega
        clear hc
        go_wp2_with fail
        go_at_call 121
        refine (rreadL_calls _ _ z1).mono ?_
        rintro e w4 ⟨hpost, hb4⟩
        have hbk := (hb4.block g (Array.getElem?_eq_some_iff.1 H0.out.1).1).trans H0.out.1
        have HB4 := Lib.hid (And.intro hbk (H0.out.2.1.trans (hb4.mono H0.out.2.1.size)))
        have d0 := bk_cell hbk 0 _ rfl
        have d1 := bk_cell hbk 1 _ rfl
        have g0 := bk_froz hbk 0
        have g1 := bk_froz hbk 1
        have hge := H0.out.2.2
        have HSET : Hid (∀ wx, Below w.heap.size w wx → ∀ x y, Below w.heap.size w ((wx.setCell ⟨g, 0, none⟩ x).setCell ⟨g, 1, none⟩ y)) := Lib.hid (fun wx hb x y => (hb.setCell (by exact Nat.le_of_eq hge.symm) _).setCell (by exact Nat.le_of_eq hge.symm) _)
        clear hb4 hbk hge
        rcases (show readS (d (s.extract (k + 1) s.size)) = none ∨ ∃ l, readS (d (s.extract (k + 1) s.size)) = some l by cases readS (d (s.extract (k + 1) s.size)) <;> simp) with hr | ⟨l, hr⟩
        · rw [hr] at hpost
          have HN : Hid ((readKey (d s)).isSome = false) := Lib.hid (by rw [HK.out, hr]; rfl)
          clear hr
          subst hpost
          go_wp2
          exact bodyPost_ret (v := .tuple #[.agg #[.string ⟨#[]⟩, .slice none 0 0], .int .i64 50]) (by simp [results, Tryz.results116, go_sem, d0, d1]) rfl (RyPost.no HN.out (HSET.out _ HB4.out.2 _ _))
        · rw [hr] at hpost
          obtain ⟨v, rfl, hown⟩ := hpost
          have HK2 : Hid ((readKey (d s)).isSome = jobB (d (s.extract 0 k))) := Lib.hid (by rw [HK.out, hr]; simp)
          obtain ⟨a, c, rfl⟩ := own_form hown
          clear hr hown HK
          go_wp2_with fail
          go_at_call 105
          refine (rjobG_calls _ _ z0).mono ?_
          rintro e w5 ⟨rfl, hb5⟩
          have hbk := (hb5.block g (Array.getElem?_eq_some_iff.1 HB4.out.1).1).trans HB4.out.1
          have HB5 := Lib.hid (And.intro hbk (HB4.out.2.trans (hb5.mono HB4.out.2.size)))
          have e0 := bk_cell hbk 0 _ rfl
          have e1 := bk_cell hbk 1 _ rfl
          have i0 := bk_froz hbk 0
          have i1 := bk_froz hbk 1
          clear hb5 hbk d0 d1 g0 g1
          cases hj : jobB (d (s.extract 0 k)) with
          | false =>
            have HN := Lib.hid (HK2.out.trans hj)
            go_wp2
            exact bodyPost_ret (v := .tuple #[.agg #[.string ⟨#[]⟩, .slice none 0 0], .int .i64 50]) (by simp [results, Tryz.results116, go_sem, e0, e1]) rfl (RyPost.no HN.out (HSET.out _ HB5.out.2 _ _))
          | true =>
            have HN := Lib.hid (HK2.out.trans hj)
            go_wp2
            exact bodyPost_ret (v := .tuple #[.agg #[.string (s.extract 0 k), .slice a l.length c], .int .i64 0]) (by simp [results, Tryz.results116, go_sem, e0, e1]) rfl (RyPost.yes HN.out (HSET.out _ HB5.out.2 _ _))
      · have hne : s[k].toNat ≠ 254 := fun e => hc (UInt8.toNat_inj.1 e)
        have hq : ((s[k].toNat : Int) == 254) = false := by simp; omega
        have HX := Lib.hid (take_no (data_at s k hlt) hc HNO.out)
        clear hc hne
        go_wp2
        go_roundw
        case rel => exact ⟨k + 1, hlt, by go_num, HX.out, by trivial⟩
        case measure => simp [intOf]; omega
    · obtain rfl : k = s.size := by omega
      have HN : Hid ((readKey (d s)).isSome = false) := Lib.hid (by
        have h := HNO.out
        rw [List.take_of_length_le (by simp)] at h
        rw [readKey_no h]; rfl)
      have d0 := bk_cell H0.out.1 0 _ rfl
      have d1 := bk_cell H0.out.1 1 _ rfl
      have g0 := bk_froz H0.out.1 0
      have g1 := bk_froz H0.out.1 1
      have hge := H0.out.2.2
      have HSET : Hid (∀ x y, Below w.heap.size w ((wr.setCell ⟨g, 0, none⟩ x).setCell ⟨g, 1, none⟩ y)) := Lib.hid (fun x y => (H0.out.2.1.setCell (by exact Nat.le_of_eq hge.symm) _).setCell (by exact Nat.le_of_eq hge.symm) _)
      clear hge
      go_wp2
      exact bodyPost_ret (v := .tuple #[.agg #[.string ⟨#[]⟩, .slice none 0 0], .int .i64 50]) (by simp [results, Tryz.results116, go_sem, d0, d1]) rfl (RyPost.no HN.out (HSET.out _ _))
end Go.Proofs.YtdgfldeeflmnmaaGreatDoor.Sk
