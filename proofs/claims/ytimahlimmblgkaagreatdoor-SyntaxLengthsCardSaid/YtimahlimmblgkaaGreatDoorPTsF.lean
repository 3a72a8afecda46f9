/- Chapter 07: whether trees are the same. -/
import Derived.Test.YtimahlimmblgkaaGreatDoorPTsE
namespace Go.Proofs.YtimahlimmblgkaaGreatDoor.Sy
open Go Go.RowKit
def SameH (x : L) : Prop := ∀ (y : L) (P Q : Nat → Prop) (w : World), RdT P w x → RdT Q w y → Calls Tryz.prog 19 #[x.val, y.val] w fun e w' => e = .returned (.bool (same x.tree y.tree)) ∧ Below w.heap.size w w'
theorem sameL_take : ∀ (l m : List T) (j : Nat) (x y : T), l[j]? = some x → m[j]? = some y → l.length = m.length → sameL l m = ((sameL (l.take j) (m.take j)) && (same x y && sameL (l.drop (j + 1)) (m.drop (j + 1))))
  | [], _, _, _, _, h, _, _ => by simp at h
  | _ :: _, [], _, _, _, _, h, _ => by simp at h
  | a :: l, c :: m, 0, x, y, h, k, _ => by
    simp at h k
    subst h k
    simp [sameL]
  | a :: l, c :: m, j + 1, x, y, h, k, hl => by
    simp at h k hl
    have ih := sameL_take l m j x y h k hl
    simp only [List.take_succ_cons, List.drop_succ_cons, sameL]
    rw [ih, Bool.and_assoc]
theorem sameL_len : ∀ (l m : List T), sameL l m = true → l.length = m.length
  | [], [], _ => rfl
  | [], _ :: _, h => by simp [sameL] at h
  | _ :: _, [], h => by simp [sameL] at h
  | _ :: l, _ :: m, h => by
    simp [sameL] at h
    simp [sameL_len l m h.2]
/-- at the head of the loop over two rows of trees -/
def ERel (w : World) (l m : List L) (n : Nat) (G : Nat) (v : Value) (wr : World) : Prop :=
  ∃ j : Nat, j ≤ n ∧ G = n - j ∧ v = .int .i64 (j : Int) ∧ Below w.heap.size w wr ∧ sameL ((treeL l).take j) ((treeL m).take j) = true
set_option maxRecDepth 100000 in
set_option maxHeartbeats 8000000 in
theorem equal_calls (P Q : Nat → Prop) (a c : Option Addr) (ac cc : Nat) (l m : List L) (w : World) (ha : RdF w a (nFlat l)) (hc : RdF w c (nFlat m)) (hl : l.length ≤ 1000000000) (hm : m.length ≤ 1000000000) (hx : ∀ x, x ∈ l → RdT P w x) (hy : ∀ y, y ∈ m → RdT Q w y)
    (ih : ∀ x, x ∈ l → SameH x) :
    Calls Tryz.prog 54 #[.slice a l.length ac, .slice c m.length cc, .func (.func 19) #[] #[]] w fun e w' => e = .returned (.bool (sameL (treeL l) (treeL m))) ∧ Below w.heap.size w w' := by
  have HH := Lib.hid (And.intro ha (And.intro hc (And.intro hx (And.intro hy ih))))
  obtain ⟨n, hn⟩ : ∃ q, q = l.length := ⟨_, rfl⟩
  obtain ⟨k, hk⟩ : ∃ q, q = m.length := ⟨_, rfl⟩
  rw [← hn, ← hk]
  rw [← hn] at hl
  rw [← hk] at hm
  have HN := Lib.hid (And.intro hn hk)
  clear ha hc hx hy ih hn hk
  go_enter Tryz.func54, Tryz.ntmps54
  by_cases hnk : n = k
  rotate_left
  · have hne : ((n : Int) != (k : Int)) = true := by simp; omega
    have HK := Lib.hid hnk
    clear hnk
    go_wp2_with fail
    go_ret
    refine ⟨?_, Below.refl _ _⟩
    have : sameL (treeL l) (treeL m) = false := by
      cases hs : sameL (treeL l) (treeL m)
      · rfl
      · have := sameL_len _ _ hs
        rw [treeL_len, treeL_len, ← HN.out.1, ← HN.out.2] at this
        exact absurd this HK.out
    rw [this]
    rfl
  subst hnk
  go_wp2_with fail
  go_loopg [17] n (fun G v wr => ERel w l m n G v wr)
  case atStart => exact ⟨0, Nat.zero_le _, rfl, rfl, Below.refl _ _, rfl⟩
  case round =>
    unfold ERel at hrel
    obtain ⟨j, hj, rfl, rfl, hb, hsm⟩ := hrel
    have HB := Lib.hid (And.intro hb hsm)
    clear hb hsm
    obtain ⟨wA, hwA⟩ : ∃ q, q = wr := ⟨_, rfl⟩
    subst hwA
    by_cases hlt : j < n
    · obtain ⟨x, hx⟩ : ∃ x, l[j]? = some x := ⟨_, List.getElem?_eq_getElem (by have := HN.out.1; omega)⟩
      obtain ⟨y, hy⟩ : ∃ y, m[j]? = some y := ⟨_, List.getElem?_eq_getElem (by have := HN.out.2; omega)⟩
      obtain ⟨b1, o1, rfl, hb1, hc1⟩ := RdF.nat (RdF.below HH.out.1 HB.out.1) hx
      obtain ⟨b2, o2, rfl, hb2, hc2⟩ := RdF.nat (RdF.below HH.out.2.1 HB.out.1) hy
      have HX := Lib.hid (And.intro hx hy)
      have hxm := List.mem_of_getElem? hx
      have hym := List.mem_of_getElem? hy
      have HC : Hid (∀ W, Below w.heap.size w W → Calls Tryz.prog 19 #[x.val, y.val] W fun e w' => e = .returned (.bool (same x.tree y.tree)) ∧ Below W.heap.size W w') := Lib.hid (fun W hb => HH.out.2.2.2.2 x hxm y P Q W ((HH.out.2.2.1 x hxm).bel hb) ((HH.out.2.2.2.1 y hym).bel hb))
      obtain ⟨bs, hbs⟩ : ∃ q, q = same x.tree y.tree := ⟨_, rfl⟩
      rw [← hbs] at HC
      have HS := Lib.hid hbs
      clear hx hy hxm hym hbs
      obtain ⟨kx, sax, scx, sx, mnx, mxx, lzx, nax, ncx, lx⟩ := x
      obtain ⟨ky, say, scy, sy, mny, mxy, lzy, nay, ncy, ly⟩ := y
      rw [val_mk, val_mk] at HC
      have d0 := hc1 0 _ rfl
      rw [Nat.add_zero] at d0
      have d1 := hc1 1 _ rfl
      have d2 := hc1 2 _ rfl
      have d3 := hc1 3 _ rfl
      have d4 := hc1 4 _ rfl
      have d5 := hc1 5 _ rfl
      have e0 : ∀ o, (wA.alloc o).cell? _ = some _ := fun o => (((Below.refl wA.heap.size wA).alloc (Nat.le_refl _) o).cell (p := ⟨b2, o2 + j * 6 + 0, none⟩) hb2).trans (hc2 0 _ rfl)
      have e1 : ∀ o, (wA.alloc o).cell? _ = some _ := fun o => (((Below.refl wA.heap.size wA).alloc (Nat.le_refl _) o).cell (p := ⟨b2, o2 + j * 6 + 1, none⟩) hb2).trans (hc2 1 _ rfl)
      have e2 : ∀ o, (wA.alloc o).cell? _ = some _ := fun o => (((Below.refl wA.heap.size wA).alloc (Nat.le_refl _) o).cell (p := ⟨b2, o2 + j * 6 + 2, none⟩) hb2).trans (hc2 2 _ rfl)
      have e3 : ∀ o, (wA.alloc o).cell? _ = some _ := fun o => (((Below.refl wA.heap.size wA).alloc (Nat.le_refl _) o).cell (p := ⟨b2, o2 + j * 6 + 3, none⟩) hb2).trans (hc2 3 _ rfl)
      have e4 : ∀ o, (wA.alloc o).cell? _ = some _ := fun o => (((Below.refl wA.heap.size wA).alloc (Nat.le_refl _) o).cell (p := ⟨b2, o2 + j * 6 + 4, none⟩) hb2).trans (hc2 4 _ rfl)
      have e5 : ∀ o, (wA.alloc o).cell? _ = some _ := fun o => (((Below.refl wA.heap.size wA).alloc (Nat.le_refl _) o).cell (p := ⟨b2, o2 + j * 6 + 5, none⟩) hb2).trans (hc2 5 _ rfl)
      rw [Nat.add_zero] at e0
      clear hc1 hc2
      go_wp2_with fail
      refine at_world ?_
      intro W hW
      have hbW : Below wA.heap.size wA W := by rw [hW]; exact ((Below.refl _ _).alloc (Nat.le_refl _) _).alloc (by simp) _
      clear hW
      refine (HC.out W (HB.out.1.trans (hbW.mono HB.out.1.size))).mono ?_
      rintro e w5 ⟨rfl, hb5⟩
      have H5 := Lib.hid (HB.out.1.trans ((Bthen hbW hb5).mono HB.out.1.size))
      clear hb5 hbW d0 d1 d2 d3 d4 d5 e0 e1 e2 e3 e4 e5
      cases bs with
      | false =>
        go_wp2_with fail
        go_ret
        refine ⟨?_, H5.out⟩
        have hs := sameL_take (treeL l) (treeL m) j _ _ (treeL_at HX.out.1) (treeL_at HX.out.2) (by rw [treeL_len, treeL_len, ← HN.out.1, ← HN.out.2])
        rw [hs, ← HS.out]
        simp
      | true =>
        go_wp2_with fail
        go_roundg (n - (j + 1))
        case measure => omega
        case rel =>
          refine ⟨j + 1, hlt, rfl, by simp, H5.out, ?_⟩
          have h1 := (sameL_eq _ _).1 HB.out.2
          have h2 := (same_eq _ _).1 HS.out.symm
          refine (sameL_eq _ _).2 ?_
          rw [List.take_add_one, List.take_add_one, h1, treeL_at HX.out.1, treeL_at HX.out.2, h2]
    · obtain rfl : j = n := by omega
      go_wp2_with fail
      go_ret
      refine ⟨?_, HB.out.1⟩
      have h1 := HB.out.2
      rw [List.take_of_length_le (by rw [treeL_len]; have := HN.out.1; omega), List.take_of_length_le (by rw [treeL_len]; have := HN.out.2; omega)] at h1
      rw [h1]
      rfl
theorem same_no {k s a b z l k' s' a' b' z' l'} (h : ¬ (k = k' ∧ a = a' ∧ b = b' ∧ z = z' ∧ s = s' ∧ sameL l l' = true)) : same (.mk k s a b z l) (.mk k' s' a' b' z' l') = false := by
  cases hs : same (.mk k s a b z l) (.mk k' s' a' b' z' l')
  · rfl
  · exfalso
    have h2 := (same_eq _ _).1 hs
    injection h2 with h1 h2 h3 h4 h5 h6
    exact h ⟨h1, h3, h4, h5, h2, (sameL_eq _ _).2 h6⟩
theorem same_yes {k s a b z l l'} : same (.mk k s a b z l) (.mk k s a b z l') = sameL l l' := by simp [same]
set_option maxRecDepth 100000 in
set_option maxHeartbeats 8000000 in
theorem same_all : ∀ x : L, SameH x := by
  intro x
  induction x using L.ind with
  | _ k sa sc s mn mx lz na nc l ih =>
    intro y P Q w hx hy
    obtain ⟨k', sa', sc', s', mn', mx', lz', na', nc', l'⟩ := y
    rw [val_mk, val_mk]
    have hxp : RdF w na (nFlat l) ∧ Sl w sa sc s ∧ s.length < 4611686018427387904 ∧ l.length ≤ 1000000000 ∧ ∀ x, x ∈ l → RdT P w x := by
      cases hx with
      | mk hk hmn hmx hs hsl hn hnl hnb hP sub => exact ⟨hn, hs, hsl, hnl, sub⟩
    have hyp : RdF w na' (nFlat l') ∧ Sl w sa' sc' s' ∧ s'.length < 4611686018427387904 ∧ l'.length ≤ 1000000000 ∧ ∀ x, x ∈ l' → RdT Q w x := by
      cases hy with
      | mk hk hmn hmx hs hsl hn hnl hnb hP sub => exact ⟨hn, hs, hsl, hnl, sub⟩
    have HE : Hid (∀ W, Below w.heap.size w W → Calls Tryz.prog 54 #[.slice na l.length nc, .slice na' l'.length nc', .func (.func 19) #[] #[]] W fun e w' => e = .returned (.bool (sameL (treeL l) (treeL l'))) ∧ Below W.heap.size W w') :=
      Lib.hid (fun W hb => equal_calls P Q na na' nc nc' l l' W (RdF.below hxp.1 hb) (RdF.below hyp.1 hb) hxp.2.2.2.1 hyp.2.2.2.1 (fun x h => (hxp.2.2.2.2 x h).bel hb) (fun x h => (hyp.2.2.2.2 x h).bel hb) ih)
    have HQ : Hid (∀ W, Below w.heap.size w W → Calls Tryz.prog 53 #[.slice sa s.length sc, .slice sa' s'.length sc'] W fun e w' => e = .returned (.bool (decide (s = s'))) ∧ ∃ q, w' = W.drewN q) :=
      Lib.hid (fun W hb => eq_calls sa sa' sc sc' s s' W (Sl.chg hxp.2.1 (fun q _ hq => hb.block _ hq) hb.size) (Sl.chg hyp.2.1 (fun q _ hq => hb.block _ hq) hb.size) hxp.2.2.1)
    obtain ⟨n, hn⟩ : ∃ q, q = l.length := ⟨_, rfl⟩
    obtain ⟨n', hn'⟩ : ∃ q, q = l'.length := ⟨_, rfl⟩
    obtain ⟨m, hm⟩ : ∃ q, q = s.length := ⟨_, rfl⟩
    obtain ⟨m', hm'⟩ : ∃ q, q = s'.length := ⟨_, rfl⟩
    rw [← hn, ← hn'] at HE
    rw [← hm, ← hm'] at HQ
    rw [← hn, ← hn', ← hm, ← hm']
    have HT : Hid ((L.mk k sa sc s mn mx lz na nc l).tree = .mk k s mn mx lz (treeL l) ∧ (L.mk k' sa' sc' s' mn' mx' lz' na' nc' l').tree = .mk k' s' mn' mx' lz' (treeL l')) := Lib.hid ⟨rfl, rfl⟩
    have HB : Hid (∀ o1 o2, Below w.heap.size w ((w.alloc o1).alloc o2)) := Lib.hid (fun o1 o2 => ((Below.refl _ _).alloc (Nat.le_refl _) _).alloc (by simp) _)
    clear hn hn' hm hm' hxp hyp hx hy ih
    go_enter Tryz.func19, Tryz.ntmps19
    by_cases c1 : k = k'
    rotate_left
    · have c1' : (k == k') = false := beq_eq_false_iff_ne.2 c1
      have HC := Lib.hid c1
      clear c1
      go_wp2_with fail
      go_ret
      exact ⟨by rw [HT.out.1, HT.out.2, same_no (fun h => HC.out h.1)]; rfl, HB.out _ _⟩
    subst c1
    by_cases c1 : mn = mn'
    rotate_left
    · have c1' : (mn == mn') = false := beq_eq_false_iff_ne.2 c1
      have HC := Lib.hid c1
      clear c1
      go_wp2_with fail
      go_ret
      exact ⟨by rw [HT.out.1, HT.out.2, same_no (fun h => HC.out h.2.1)]; rfl, HB.out _ _⟩
    subst c1
    by_cases c1 : mx = mx'
    rotate_left
    · have c1' : (mx == mx') = false := beq_eq_false_iff_ne.2 c1
      have HC := Lib.hid c1
      clear c1
      go_wp2_with fail
      go_ret
      exact ⟨by rw [HT.out.1, HT.out.2, same_no (fun h => HC.out h.2.2.1)]; rfl, HB.out _ _⟩
    subst c1
    by_cases c1 : lz = lz'
    rotate_left
    · have c1' : (lz == lz') = false := beq_eq_false_iff_ne.2 c1
      have HC := Lib.hid c1
      clear c1
      go_wp2_with fail
      go_ret
      exact ⟨by rw [HT.out.1, HT.out.2, same_no (fun h => HC.out h.2.2.2.1)]; rfl, HB.out _ _⟩
    subst c1
    go_wp2_with fail
    refine at_world ?_
    intro W hW
    have hbW : Below w.heap.size w W := by rw [hW]; exact HB.out _ _
    have g1 : W.heap[w.heap.size]? = some (.cells #[.int .u8 k, .slice sa m sc, .int .i64 mn, .int .i64 mx, .bool lz, .slice na n nc] 27 (0, 0)) := by
      rw [hW]
      exact (((Below.refl (w.alloc _).heap.size _).alloc (Nat.le_refl _) _).block _ (by simp)).trans (heap_alloc_new w _)
    have g2 : W.heap[w.heap.size + 1]? = some (.cells #[.int .u8 k, .slice sa' m' sc', .int .i64 mn, .int .i64 mx, .bool lz, .slice na' n' nc'] 27 (0, 0)) := by
      rw [hW]
      have := heap_alloc_new (w.alloc (.cells #[.int .u8 k, .slice sa m sc, .int .i64 mn, .int .i64 mx, .bool lz, .slice na n nc] 27)) (.cells #[.int .u8 k, .slice sa' m' sc', .int .i64 mn, .int .i64 mx, .bool lz, .slice na' n' nc'] 27)
      simpa using this
    have c5 := block_cell g1 5 _ rfl
    have y5 := block_cell g2 5 _ rfl
    clear hW g1 g2
    refine (HQ.out W hbW).mono ?_
    rintro e w3 ⟨rfl, q, rfl⟩
    have HW := Lib.hid hbW
    clear hbW
    by_cases c1 : s = s'
    · have HC := Lib.hid c1
      have hd : decide (s = s') = true := decide_eq_true c1
      rw [hd]
      clear c1 hd
      go_wp2_with fail
      refine (HE.out _ (below_drewN HW.out q)).mono ?_
      rintro e w4 ⟨rfl, hb4⟩
      have H4 := Lib.hid (Bthen (below_drewN HW.out q) hb4)
      clear hb4
      go_wp2_with fail
      go_ret
      refine ⟨?_, H4.out⟩
      have hs := HC.out
      subst hs
      rw [HT.out.1, HT.out.2, same_yes]
      rfl
    · have HC := Lib.hid c1
      have hd : decide (s = s') = false := decide_eq_false c1
      rw [hd]
      clear c1 hd
      go_wp2_with fail
      go_ret
      exact ⟨by rw [HT.out.1, HT.out.2, same_no (fun h => HC.out h.2.2.2.2.1)]; rfl, below_drewN HW.out q⟩
end Go.Proofs.YtimahlimmblgkaaGreatDoor.Sy
