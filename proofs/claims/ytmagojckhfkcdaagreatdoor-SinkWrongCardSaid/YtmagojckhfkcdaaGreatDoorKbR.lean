/- Several parts in one text: KiB, KbA, KbR. -/
import Derived.Test.YtmagojckhfkcdaaGreatDoorKiA
import Derived.Test.YtmagojckhfkcdaaGreatDoorKbQ
import Derived.Test.YtmagojckhfkcdaaGreatDoorPuB
import Derived.Test.YtmagojckhfkcdaaGreatDoorKtA
import Derived.Test.YtmagojckhfkcdaaGreatDoorKtD
import Derived.Test.YtmagojckhfkcdaaGreatDoorKsE
/- Chapter 38: the law's items at two single items, either answer. -/
namespace Go.Proofs.YtmagojckhfkcdaaGreatDoor.Sk
open Go Go.RowKit
set_option maxRecDepth 100000 in
set_option maxHeartbeats 4000000 in
theorem item1_no (x y : SI) (w : World) (ha : RdL w x.la x.e.lab) (hb : RdL w y.la y.e.lab) (hn : x.e.lab.length ≤ 1000000000) (hne : x.it ≠ y.it) :
    Calls Tryz.prog 38 #[.agg #[.string x.key, .slice x.la x.e.lab.length x.lc, .bool x.e.mark, .int .u64 x.e.bits, .bool x.e.st, .int .i64 x.e.time, .int .i64 x.e.stamp], .agg #[.string y.key, .slice y.la y.e.lab.length y.lc, .bool y.e.mark, .int .u64 y.e.bits, .bool y.e.st, .int .i64 y.e.time, .int .i64 y.e.stamp]] w
      fun en w' => en = .returned (.bool false) ∧ Below w.heap.size w w' := by
  obtain ⟨xk, xa, xc, ⟨xl, xm, xb, xs, xt, xp⟩⟩ := x
  obtain ⟨yk, ya, yc, ⟨yl, ym, yb, ys, yt, yp⟩⟩ := y
  simp only [SI.it, ne_eq, It.mk.injEq, Ent.mk.injEq] at hne
  dsimp only at ha hb hn ⊢
  have HB : Hid (Below w.heap.size w ((w.alloc (.cells #[.string xk, .slice xa xl.length xc, .bool xm, .int .u64 xb, .bool xs, .int .i64 xt, .int .i64 xp] 40)).alloc (.cells #[.string yk, .slice ya yl.length yc, .bool ym, .int .u64 yb, .bool ys, .int .i64 yt, .int .i64 yp] 40))) := Lib.hid (((Below.refl _ _).alloc (Nat.le_refl _) _).alloc (by simp) _)
  have HL := Lib.hid (And.intro ha hb)
  clear ha hb
  by_cases h1 : xk = yk
  · subst h1
    by_cases h2 : xm = ym
    · subst h2
      by_cases h3 : xb = yb
      · subst h3
        by_cases h4 : xs = ys
        · subst h4
          by_cases h5 : xt = yt
          · subst h5
            by_cases h6 : xp = yp
            · subst h6
              have h7 : decide (xl = yl) = false := by simpa using hne
              clear hne
              go_enter Tryz.func38, Tryz.ntmps38
              go_wp2_with (go_at_call 39; refine (sameL_calls xa ya xc yc xl yl _ (HL.out.1.below HB.out (Nat.le_refl _)) (HL.out.2.below HB.out (Nat.le_refl _)) hn).mono ?_; rintro en w1 ⟨rfl, n, rfl⟩; rw [h7])
              go_ret
              exact ⟨rfl, below_drewN HB.out n⟩
            · have q : (xp == yp) = false := by simpa using h6
              clear hne h6
              go_enter Tryz.func38, Tryz.ntmps38
              go_wp2
              go_ret
              exact ⟨rfl, HB.out⟩
          · have q : (xt == yt) = false := by simpa using h5
            clear hne h5
            go_enter Tryz.func38, Tryz.ntmps38
            go_wp2
            go_ret
            exact ⟨rfl, HB.out⟩
        · have q : (xs == ys) = false := by simpa using h4
          clear hne h4
          go_enter Tryz.func38, Tryz.ntmps38
          go_wp2
          go_ret
          exact ⟨rfl, HB.out⟩
      · have q : (xb == yb) = false := by simpa using h3
        clear hne h3
        go_enter Tryz.func38, Tryz.ntmps38
        go_wp2
        go_ret
        exact ⟨rfl, HB.out⟩
    · have q : (xm == ym) = false := by simpa using h2
      clear hne h2
      go_enter Tryz.func38, Tryz.ntmps38
      go_wp2
      go_ret
      exact ⟨rfl, HB.out⟩
  · have q : (xk.toList == yk.toList) = false := beq_eq_false_iff_ne.2 (fun e => h1 (by rw [ByteArray.toList_eq, ByteArray.toList_eq] at e; obtain ⟨⟨a⟩⟩ := xk; obtain ⟨⟨b⟩⟩ := yk; simp only at e; rw [e]))
    clear hne h1
    go_enter Tryz.func38, Tryz.ntmps38
    go_wp2
    go_ret
    exact ⟨rfl, HB.out⟩
set_option maxRecDepth 100000 in
set_option maxHeartbeats 2000000 in
theorem eqf1_no (a b : Option Addr) (ca cb : Nat) (x y : SI) (w : World) (ha : RdI w a [x]) (hb : RdI w b [y]) (hn : x.e.lab.length ≤ 1000000000) (hne : x.it ≠ y.it) :
    Calls Tryz.prog 37 #[.slice a 1 ca, .slice b 1 cb, .func (Fn.func 38) #[] #[]] w
      fun e w' => e = .returned (.bool false) ∧ Below w.heap.size w w' := by
  obtain ⟨ba, oa, rfl, hla, hta, hca⟩ := ha.at_ (k := 0) (x := x) rfl
  obtain ⟨bb, ob, rfl, hlb, htb, hcb⟩ := hb.at_ (k := 0) (x := y) rfl
  have H := Lib.hid (And.intro (ha.lab x (by simp)) (And.intro (hb.lab y (by simp)) hne))
  simp only [Nat.zero_mul, Nat.add_zero] at hca hcb
  have c0 := hca 0 _ rfl
  rw [Nat.add_zero] at c0
  have c1 := hca 1 _ rfl
  have c2 := hca 2 _ rfl
  have c3 := hca 3 _ rfl
  have c4 := hca 4 _ rfl
  have c5 := hca 5 _ rfl
  have c6 := hca 6 _ rfl
  have d0 := hcb 0 _ rfl
  rw [Nat.add_zero] at d0
  have d1 := hcb 1 _ rfl
  have d2 := hcb 2 _ rfl
  have d3 := hcb 3 _ rfl
  have d4 := hcb 4 _ rfl
  have d5 := hcb 5 _ rfl
  have d6 := hcb 6 _ rfl
  clear hca hcb ha hb hta htb hne
  go_enter Tryz.func37, Tryz.ntmps37
  go_wp2_with fail
  go_loopw [17] (fun i wr => i = .int .i64 0 ∧ wr = w) (fun _ _ => 0)
  case atStart => exact ⟨rfl, rfl⟩
  case round =>
    obtain ⟨rfl, rfl⟩ := hrel
    go_wp2_with fail
    go_at_call 38
    have hb2 : Below wr.heap.size wr ((wr.alloc (.cells (iB x).toArray 40)).alloc (.cells (iB y).toArray 40)) := ((Below.refl _ _).alloc (Nat.le_refl _) _).alloc (by simp) _
    refine (item1_no x y _ (H.out.1.below hb2 (Nat.le_refl _)).rd (H.out.2.1.below hb2 (Nat.le_refl _)).rd hn H.out.2.2).mono ?_
    rintro en w1 ⟨rfl, hb1⟩
    have HB1 : Hid (Below wr.heap.size wr w1) := Lib.hid (Bthen hb2 hb1)
    clear hb1 hb2 c0 c1 c2 c3 c4 c5 c6 d0 d1 d2 d3 d4 d5 d6
    go_wp2
    go_ret
    exact ⟨rfl, HB1.out⟩
theorem items1_no (a b : Option Addr) (ca cb : Nat) (x y : SI) (w : World) (ha : RdI w a [x]) (hb : RdI w b [y]) (hn : x.e.lab.length ≤ 1000000000) (hne : x.it ≠ y.it) :
    Calls Tryz.prog 12 #[.slice a 1 ca, .slice b 1 cb] w fun e w' => e = .returned (.bool false) ∧ Below w.heap.size w w' := by
  have H := Lib.hid (eqf1_no a b ca cb x y w ha hb hn hne)
  clear ha hb hn hne
  go_enter Tryz.func12, Tryz.ntmps12
  go_wp2_with fail
  go_at_call 37
  refine H.out.mono ?_
  rintro en w1 ⟨rfl, hb1⟩
  have HB := Lib.hid hb1
  clear hb1
  go_wp2
  go_ret
  exact ⟨rfl, HB.out⟩
end Go.Proofs.YtmagojckhfkcdaaGreatDoor.Sk
/- Chapter 38's texts: the string that a word is; strconv.Atoi at every string. -/
namespace Go.Proofs.YtmagojckhfkcdaaGreatDoor.Sk
open Go Go.RowKit
theorem hexD_V (c : Nat) : Rs.hexD (c : Int) = Option.map (fun n : Nat => (n : Int)) (hexV c) := by
  unfold Rs.hexD hexV
  by_cases h1 : 48 ≤ c ∧ c ≤ 57
  · rw [if_pos (show 48 ≤ (c : Int) ∧ (c : Int) ≤ 57 by omega), if_pos h1]
    simp only [Option.map_some, Option.some.injEq]
    omega
  · rw [if_neg (show ¬ (48 ≤ (c : Int) ∧ (c : Int) ≤ 57) by omega), if_neg h1]
    by_cases h2 : 97 ≤ c ∧ c ≤ 102
    · rw [if_pos (show 97 ≤ (c : Int) ∧ (c : Int) ≤ 102 by omega), if_pos h2]
      simp only [Option.map_some, Option.some.injEq]
      omega
    · rw [if_neg (show ¬ (97 ≤ (c : Int) ∧ (c : Int) ≤ 102) by omega), if_neg h2]
      by_cases h3 : 65 ≤ c ∧ c ≤ 70
      · rw [if_pos (show 65 ≤ (c : Int) ∧ (c : Int) ≤ 70 by omega), if_pos h3]
        simp only [Option.map_some, Option.some.injEq]
        omega
      · rw [if_neg (show ¬ (65 ≤ (c : Int) ∧ (c : Int) ≤ 70) by omega), if_neg h3]
        rfl
theorem hexV_lt {c n : Nat} (h : hexV c = some n) : n < 16 := by
  unfold hexV at h
  split at h
  · cases h; omega
  · split at h
    · cases h; omega
    · split at h
      · cases h; omega
      · cases h
theorem hex2_ok {a b x : UInt8} (h : hex2 a b = some x) : Rs.hexM 255 0 [a, b] = .ok x.toNat := by
  unfold hex2 at h
  cases ha : hexV a.toNat with
  | none => rw [ha] at h; cases h
  | some n =>
    cases hb : hexV b.toNat with
    | none => rw [ha, hb] at h; cases h
    | some m =>
      rw [ha, hb] at h
      cases h
      have h1 := hexV_lt ha
      have h2 := hexV_lt hb
      simp only [Rs.hexM, hexD_V, ha, hb, Option.map_some, Int.toNat_natCast]
      rw [if_neg (show ¬ 255 < 0 * 16 + n by omega), if_neg (show ¬ 255 < (0 * 16 + n) * 16 + m by omega)]
      simp only [Go.Lib.NumEnd.ok.injEq]
      rw [UInt8.toNat_ofNat_of_lt' (by show 16 * n + m < 256; omega)]
      omega
theorem hex2_no {a b : UInt8} (h : hex2 a b = none) : ∀ n, Rs.hexM 255 0 [a, b] ≠ .ok n := by
  intro k
  unfold hex2 at h
  cases ha : hexV a.toNat with
  | none => simp only [Rs.hexM, hexD_V, ha, Option.map_none]; simp
  | some n =>
    cases hb : hexV b.toNat with
    | none =>
      have h1 := hexV_lt ha
      simp only [Rs.hexM, hexD_V, ha, hb, Option.map_none, Option.map_some, Int.toNat_natCast]
      rw [if_neg (show ¬ 255 < 0 * 16 + n by omega)]
      simp
    | some m => rw [ha, hb] at h; cases h
theorem plainGo_len : ∀ (n : Nat) (s : B), s.length ≤ n → (plainGo s).length ≤ s.length
  | 0, s, h => by
    obtain rfl : s = [] := List.eq_nil_of_length_eq_zero (by omega)
    simp [plainGo]
  | n + 1, [], _ => by simp [plainGo]
  | n + 1, [c], _ => by simp [plainGo]
  | n + 1, [c, a], _ => by simp [plainGo]
  | n + 1, c :: a :: b :: r, h => by
    simp only [List.length_cons] at h
    have h1 := plainGo_len n r (by omega)
    have h2 := plainGo_len n (a :: b :: r) (by simp only [List.length_cons]; omega)
    rw [plainGo]
    split
    · split
      · simp only [List.length_cons]; omega
      · simp only [List.length_cons] at h2 ⊢; omega
    · simp only [List.length_cons] at h2 ⊢; omega
/-- where plain stands: what is written, and what is still to come -/
def PlInv (s : ByteArray) (w : World) (i : Value) (wr : World) : Prop :=
  ∃ (k : Nat) (acc : B), k ≤ s.size ∧ i = .int .i64 k ∧ plainGo (d s) = acc ++ plainGo ((d s).drop k) ∧ acc.length ≤ k ∧ Bd wr w.heap.size acc ∧ Below w.heap.size w wr
set_option maxRecDepth 100000 in
set_option maxHeartbeats 1000000 in
theorem plain_calls (s : ByteArray) (w : World) (hs : s.size ≤ 10000000) (hE : Es w) :
    Calls Tryz.prog 45 #[.string s] w fun e w' => e = .returned (.string ⟨(plainS (d s)).toArray⟩) ∧ Below w.heap.size w w' := by
  have hln : (d s).length = s.size := by simp [d]
  by_cases h1 : s = ⟨#[45]⟩
  · subst h1
    clear hE
    go_enter Tryz.func45, Tryz.ntmps45
    go_wp2
    go_ret
    exact ⟨rfl, Below.refl _ _⟩
  · have hd1 : d s ≠ [45] := fun e => h1 (by rcases s with ⟨⟨l⟩⟩; simp [d] at e; subst e; rfl)
    have he1 : (s.toList == [45]) = false := by rw [ByteArray.toList_eq, beq_eq_false_iff_ne]; exact hd1
    have HW : Hid (plainS (d s) = plainGo (d s)) := Lib.hid (by unfold plainS; rw [if_neg hd1])
    have hsz : (s.size : Int) ≤ 10000000 := by omega
    have HE := Lib.hid hE
    clear hE h1 hd1
    go_enter Tryz.func45, Tryz.ntmps45
    go_wp2_with fail
    go_loopw [4] (fun i wr => PlInv s w i wr) (fun i _ => s.size - (intOf i).toNat)
    case atStart => exact ⟨0, [], Nat.zero_le _, rfl, by simp, Nat.le_refl _, by simpa using Bd.new w, (Below.refl _ _).alloc (Nat.le_refl _) _⟩
    case round =>
      obtain ⟨k, acc, hkl, rfl, hacc, hal, hbd, hb⟩ := hrel
      by_cases hlt : k < s.size
      · obtain ⟨c, hc⟩ : ∃ c, (d s)[k]? = some c := ⟨_, List.getElem?_eq_getElem (by omega)⟩
        have hcs : s[k] = c := (List.getElem?_eq_some_iff.1 hc).2
        have hdr : (d s).drop k = c :: (d s).drop (k + 1) := by rw [List.drop_eq_getElem_cons (by omega), (List.getElem?_eq_some_iff.1 hc).2]
        have hcn : c.toNat < 256 := c.toNat_lt
        obtain ⟨w0, hw0⟩ : ∃ q, q = wr := ⟨_, rfl⟩
        subst hw0
        have HC := Lib.hid (And.intro hacc (And.intro hdr (And.intro hbd hb)))
        have hbs := hb.size
        clear hacc hdr hbd hb hc
        by_cases h37 : c.toNat = 37
        · have i1 : ((c.toNat : Int) == 37) = true := by rw [h37]; rfl
          have hc37 : Hid (c = 37) := Lib.hid (UInt8.toNat_inj.1 h37)
          clear h37
          by_cases h2 : k + 2 < s.size
          · obtain ⟨a, ha⟩ : ∃ a, (d s)[k + 1]? = some a := ⟨_, List.getElem?_eq_getElem (by omega)⟩
            obtain ⟨b, hb2⟩ : ∃ b, (d s)[k + 2]? = some b := ⟨_, List.getElem?_eq_getElem (by omega)⟩
            have hdr3 : (d s).drop (k + 1) = a :: b :: (d s).drop (k + 3) := by
              rw [List.drop_eq_getElem_cons (by omega), (List.getElem?_eq_some_iff.1 ha).2, List.drop_eq_getElem_cons (by omega), (List.getElem?_eq_some_iff.1 hb2).2]
            obtain ⟨t, ht⟩ : ∃ t, t = s.extract (k + 1) (k + 3) := ⟨_, rfl⟩
            have hdt : d t = [a, b] := by
              have h3 : d t = ((d s).drop (k + 1)).take 2 := by
                rw [ht]
                simp [d, ByteArray.data_extract, Array.toList_extract, List.extract]
              rw [h3, hdr3]
              rfl
            have htz : t.size = 2 := by have h3 : t.size = (d t).length := by simp [d]
                                        rw [h3, hdt]; rfl
            have HT := Lib.hid (And.intro hdt (And.intro htz hdr3))
            clear ha hb2 hdr3 hdt htz
            have g1 : IntKind.i64.wrap ((k : Int) + 1) = (k : Int) + 1 := IntWalk.i64_in _ (by omega)
            have g3 : IntKind.i64.wrap ((k : Int) + 3) = (k : Int) + 3 := IntWalk.i64_in _ (by omega)
            cases hx : hex2 a b with
            | some x =>
              have hxn : x.toNat < 256 := x.toNat_lt
              have hcall := pu8_some t (by rw [HT.out.2.1]; decide) (by rw [HT.out.2.1]; decide) w0 x.toNat (by
                show Rs.hexM 255 0 (d t) = _
                rw [HT.out.1]
                exact hex2_ok hx)
              have HX := Lib.hid (And.intro hx hcall)
              have g8 : IntKind.u8.wrap (x.toNat : Int) = (x.toNat : Int) := by rw [IntKind.wrap_u8]; omega
              clear hx hcall
              go_wp2_with fail
              go_at_call 47
              rw [← ht]
              refine HX.out.2.mono ?_
              rintro e w2 ⟨rfl, hb2⟩
              have H2 := Lib.hid (And.intro (HC.out.2.2.1.below hb2) (HC.out.2.2.2.trans (hb2.mono hbs)))
              clear hb2
              go_wp2_with fail
              go_at_call 50
              refine (wb_calls w.heap.size acc x w2 H2.out.1 (by omega)).mono ?_
              rintro e w3 ⟨rfl, hbd3, hb3, hk3⟩
              have H3 := Lib.hid (And.intro hbd3 (H2.out.2.trans hb3))
              clear hbd3 hb3 hk3
              go_wp2
              go_roundw
              case rel =>
                refine ⟨k + 3, acc ++ [x], by omega, by go_num, ?_, by simp; omega, H3.out.1, H3.out.2⟩
                rw [HC.out.1, HC.out.2.1, HT.out.2.2, hc37.out, plainGo_hex HX.out.1]
                simp
              case measure => simp [intOf]; omega
            | none =>
              have hcall := pu8_none t (by rw [HT.out.2.1]; decide) w0 (HE.out.below HC.out.2.2.2) (.inr (fun n => by
                show Rs.hexM 255 0 (d t) ≠ _
                rw [HT.out.1]
                exact hex2_no hx n))
              have HX := Lib.hid (And.intro hx hcall)
              clear hx hcall
              go_wp2_with fail
              go_at_call 47
              rw [← ht]
              refine HX.out.2.mono ?_
              rintro e w2 ⟨xv, te, pe, -, rfl, hb2⟩
              have H2 := Lib.hid (And.intro (HC.out.2.2.1.below hb2) (HC.out.2.2.2.trans (hb2.mono hbs)))
              clear hb2
              go_wp2_with fail
              go_at_call 50
              refine (wb_calls w.heap.size acc c w2 H2.out.1 (by omega)).mono ?_
              rintro e w3 ⟨rfl, hbd3, hb3, hk3⟩
              have H3 := Lib.hid (And.intro hbd3 (H2.out.2.trans hb3))
              clear hbd3 hb3 hk3
              go_wp2
              go_roundw
              case rel =>
                refine ⟨k + 1, acc ++ [c], by omega, by go_num, ?_, by simp; omega, H3.out.1, H3.out.2⟩
                rw [HC.out.1, HC.out.2.1, HT.out.2.2, hc37.out, plainGo_not HX.out.1]
                simp
              case measure => simp [intOf]; omega
          · have hsh : ((d s).drop (k + 1)).length < 2 := by rw [List.length_drop]; omega
            have HSH := Lib.hid hsh
            clear hsh
            go_wp2_with fail
            go_at_call 50
            refine (wb_calls w.heap.size acc c w0 HC.out.2.2.1 (by omega)).mono ?_
            rintro e w3 ⟨rfl, hbd3, hb3, hk3⟩
            have H3 := Lib.hid (And.intro hbd3 (HC.out.2.2.2.trans hb3))
            clear hbd3 hb3 hk3
            go_wp2
            go_roundw
            case rel =>
              refine ⟨k + 1, acc ++ [c], by omega, by go_num, ?_, by simp; omega, H3.out.1, H3.out.2⟩
              rw [HC.out.1, HC.out.2.1, plainGo_short c HSH.out]
              simp
            case measure => simp [intOf]; omega
        · have i1 : ¬ (c.toNat : Int) = 37 := by omega
          have i3 : ((c.toNat : Int) == 37) = false := by simpa using i1
          have hc37 : c ≠ 37 := fun e => h37 (by rw [e]; rfl)
          have hc37 := Lib.hid hc37
          clear h37 i1
          go_wp2_with fail
          go_at_call 50
          refine (wb_calls w.heap.size acc c w0 HC.out.2.2.1 (by omega)).mono ?_
          rintro e w3 ⟨rfl, hbd3, hb3, hk3⟩
          have H3 := Lib.hid (And.intro hbd3 (HC.out.2.2.2.trans hb3))
          clear hbd3 hb3 hk3
          go_wp2
          go_roundw
          case rel =>
            refine ⟨k + 1, acc ++ [c], by omega, by go_num, ?_, by simp; omega, H3.out.1, H3.out.2⟩
            rw [HC.out.1, HC.out.2.1, plainGo_other hc37.out]
            simp
          case measure => simp [intOf]; omega
      · obtain rfl : k = s.size := by omega
        have hfin : plainGo (d s) = acc := by
          rw [hacc, List.drop_of_length_le (by omega)]
          simp [plainGo]
        have HF := Lib.hid (And.intro hfin hb)
        clear hfin hb hacc
        go_wp2_with fail
        go_at_call 51
        refine (bs_calls w.heap.size _ _ hbd).mono ?_
        rintro e w2 ⟨rfl, hb2, hk2⟩
        go_wp2
        go_ret
        exact ⟨by rw [HW.out, HF.out.1]; rfl, HF.out.2.trans hb2⟩
open Go.Lib in
theorem atoi_range {l : B} {v : Int} (h : atoiAll l = .ok v) : -9223372036854775808 ≤ v ∧ v ≤ 9223372036854775807 := by
  unfold atoiAll at h
  split at h
  · cases h
  · rename_i c r
    simp only at h
    split at h
    · cases h
    · cases h
    · rename_i u hu
      split at h
      · cases h
      · split at h
        · cases h
        · rename_i h1 h2
          simp only [NumEnd.ok.injEq] at h
          by_cases hn : c.toNat = 45
          · simp only [hn, if_true] at h
            simp only [hn, true_and, Nat.not_lt] at h2
            omega
          · simp only [hn, if_false] at h
            simp only [hn, not_false_eq_true, true_and, Nat.not_le] at h1
            omega
def AtPost (s : ByteArray) (w : World) (e : Ending) (w' : World) : Prop :=
  ∃ (n : Int) (ev : Value), e = .returned (.tuple #[.int .i64 n, ev]) ∧ (-9223372036854775808 ≤ n ∧ n ≤ 9223372036854775807) ∧ (∀ v, Go.Lib.atoiAll (d s) = .ok v → n = v) ∧ (Go.Lib.atoiAll (d s) = Go.Lib.NumEnd.syntax → n = 0) ∧ Below w.heap.size w w'
theorem atoi_calls (s : ByteArray) (hs : s.size ≤ 10000000) (w : World) (hE : Es w) :
    Calls Tryz.prog 46 #[.string s] w (AtPost s w) := by
  rcases h : Go.Lib.atoiAll (d s) with v | _ | _
  next =>
    refine (Tryz.strconv_Atoi_ok s (by omega) v h w).mono ?_
    rintro e w' ⟨rfl, hw⟩
    refine ⟨v, _, rfl, atoi_range h, fun u hu => ?_, (fun hu => by rw [h] at hu; cases hu), ?_⟩
    · rw [h] at hu; injection hu
    · rcases hw with rfl | ⟨t, rfl⟩
      · exact Below.refl _ _
      · exact bytesBelow w t
  next =>
    obtain ⟨te, pe, hc⟩ := hE.syn
    refine (Tryz.strconv_Atoi_syntax s (by omega) h _ w hc (.inr ⟨_, _, rfl⟩)).mono ?_
    rintro e w' ⟨N, rfl, _, _, hb⟩
    exact ⟨0, _, rfl, ⟨by decide, by decide⟩, (fun u hu => by rw [h] at hu; cases hu), (fun _ => rfl), hb⟩
  next =>
    obtain ⟨te, pe, hc⟩ := hE.rng
    refine (Tryz.strconv_Atoi_range s (by omega) h _ w hc (.inr ⟨_, _, rfl⟩)).mono ?_
    rintro e w' ⟨N, rfl, _, _, hb⟩
    refine ⟨_, _, rfl, ?_, (fun u hu => by rw [h] at hu; cases hu), (fun hu => by rw [h] at hu; cases hu), hb⟩
    unfold Go.Lib.atoiSat
    split <;> decide
theorem hexM_le : ∀ (l : B) (M acc n : Nat), acc ≤ M → Rs.hexM M acc l = .ok n → n ≤ M
  | [], M, acc, n, h, e => by simp only [Rs.hexM, Go.Lib.NumEnd.ok.injEq] at e; omega
  | c :: r, M, acc, n, h, e => by
    simp only [Rs.hexM] at e
    split at e
    · split at e
      · cases e
      · exact hexM_le r M _ n (by omega) e
    · cases e
def PuPost (t : ByteArray) (w : World) (e : Ending) (w' : World) : Prop :=
  ∃ (x : Int) (ev : Value), e = .returned (.tuple #[.int .u64 x, ev]) ∧ Hid (0 ≤ x ∧ x < 18446744073709551616) ∧ (∀ n : Nat, t.size ≠ 0 → Rs.hexM 18446744073709551615 0 (d t) = .ok n → x = (n : Int)) ∧ Below w.heap.size w w'
theorem pu64_calls (t : ByteArray) (ht : t.size ≤ 1100000) (w : World) (hE : Es w) :
    Calls Tryz.prog 47 #[.string t, .int .i64 16, .int .i64 64] w (PuPost t w) := by
  by_cases h0 : t.size = 0
  · refine (pu64_none t ht w hE (.inl h0)).mono ?_
    rintro e w' ⟨x, te, pe, hx, rfl, hb⟩
    exact ⟨x, _, rfl, Lib.hid ⟨hx.1, by have := hx.2; omega⟩, (fun n h => absurd h0 h), hb⟩
  · by_cases h1 : ∃ n, Rs.hexM 18446744073709551615 0 t.data.toList = .ok n
    · obtain ⟨n, hn⟩ := h1
      refine (pu64_some t h0 ht w n hn).mono ?_
      rintro e w' ⟨rfl, hb⟩
      have hle := hexM_le _ _ _ _ (Nat.zero_le _) hn
      refine ⟨_, _, rfl, Lib.hid ⟨by omega, by omega⟩, fun m _ hm => ?_, hb⟩
      have h2 : Rs.hexM 18446744073709551615 0 t.data.toList = .ok m := hm
      rw [hn] at h2
      injection h2 with h2
      rw [h2]
    · refine (pu64_none t ht w hE (.inr (fun n hn => h1 ⟨n, hn⟩))).mono ?_
      rintro e w' ⟨x, te, pe, hx, rfl, hb⟩
      exact ⟨x, _, rfl, Lib.hid ⟨hx.1, by have := hx.2; omega⟩, (fun n _ hn => absurd ⟨n, hn⟩ h1), hb⟩
end Go.Proofs.YtmagojckhfkcdaaGreatDoor.Sk
/- Chapter 38's texts: Read. -/
namespace Go.Proofs.YtmagojckhfkcdaaGreatDoor.Sk
open Go Go.RowKit
theorem blk_set {w : World} {b : Nat} {cs : Array Value} {T : TypeId} (h : w.heap[b]? = some (.cells cs T (0, 0))) (o : Nat) (v : Value) : (w.setCell ⟨b, o, none⟩ v).heap[b]? = some (.cells (cs.setIfInBounds o v) T (0, 0)) := by
  unfold World.setCell
  simp only [Array.getElem?_modify, h]
  rfl
theorem blk_froz {w : World} {b : Nat} {cs : Array Value} {T : TypeId} (h : w.heap[b]? = some (.cells cs T (0, 0))) (j : Nat) : w.frozen? ⟨b, j, none⟩ = false := by simp [World.frozen?, h]
theorem blk_other {w : World} {b b' : Nat} (hne : b' ≠ b) (o : Nat) (v : Value) : (w.setCell ⟨b, o, none⟩ v).heap[b']? = w.heap[b']? := by
  unfold World.setCell
  simp only [Array.getElem?_modify]
  rw [if_neg (fun e => hne e.symm)]
/-- the pieces between spaces -/
def wsp (s : ByteArray) : List ByteArray := Lib.splitB ⟨#[32]⟩ 0 (Lib.countB s ⟨#[32]⟩) s
theorem wsp_data (s : ByteArray) : (wsp s).map d = cutAt 32 (d s) := by
  unfold wsp
  show List.map (fun x : ByteArray => x.data.toList) _ = _
  rw [Lib.splitB_data]
  exact split_one 32 (d s)
theorem wsp_length (s : ByteArray) : (wsp s).length = Lib.countB s ⟨#[32]⟩ + 1 := Lib.splitB_all ⟨#[32]⟩ (by decide) 0 _ s rfl
theorem wsp_le (s : ByteArray) : ∀ p ∈ wsp s, p.size ≤ s.size := by
  intro p hp
  have := cutAt_le 32 (d s) (d p) (by rw [← wsp_data]; exact List.mem_map_of_mem hp)
  simpa using this
abbrev zeroAgg : Value := .agg #[.string ⟨#[]⟩, .slice none 0 0, .bool false, .int .u64 0, .bool false, .int .i64 0, .int .i64 0]
abbrev itAgg (key : ByteArray) (la : Option Addr) (lc : Nat) (en : Ent) : Value := .agg #[.string key, .slice la en.lab.length lc, .bool en.mark, .int .u64 en.bits, .bool en.st, .int .i64 en.time, .int .i64 en.stamp]
def NoText (s : B) : Prop := ∀ k en, itemRight k en = true → EntIn en → textR k en ≠ s
def RdtPost (s : ByteArray) (w : World) (e : Ending) (w' : World) : Prop :=
  ((∃ (key : ByteArray) (la : Option Addr) (lc : Nat) (en : Ent), e = .returned (.tuple #[itAgg key la lc en, .int .i64 0]) ∧ itemRight (d key) en = true ∧ EntIn en ∧ textR (d key) en = d s ∧ Ll w' la lc en.lab ∧ key.size ≤ 10000000) ∨
    (e = .returned (.tuple #[zeroAgg, .int .i64 383]) ∧ NoText (d s))) ∧ Below w.heap.size w w'
theorem noText_len {s : ByteArray} (h4 : (wsp s).length ≠ 4) (h6 : (wsp s).length ≠ 6) : NoText (d s) := by
  intro k en hr hi he
  have h1 := wsp_data s
  rw [← he, cut_text] at h1
  have h2 := congrArg List.length h1
  rw [List.length_map] at h2
  unfold wordsT headW at h2
  split at h2
  · simp at h2; exact h4 h2
  · simp at h2; exact h6 h2
theorem words_of {s : ByteArray} {k : B} {en : Ent} (h : textR k en = d s) : (wsp s).map d = wordsT k en := by rw [wsp_data, ← h, cut_text]
theorem parse4 {s a0 a1 a2 a3 : ByteArray} (hw : wsp s = [a0, a1, a2, a3]) {k : B} {en : Ent} (hr : itemRight k en = true) (hi : EntIn en) (h : textR k en = d s) {st : Int} (hst : ∀ v, Go.Lib.atoiAll (d a1) = .ok v → st = v) :
    readS (plainS (d a3)) = some en.lab ∧ plainS (d a2) = k ∧ en = ⟨en.lab, true, 0, false, 0, st⟩ := by
  have h1 := words_of h
  rw [hw] at h1
  obtain ⟨l1, s10, s11, m1, t1⟩ := right_fields hr
  obtain ⟨lab, mk, b, sd, tm, sp⟩ := en
  unfold wordsT headW at h1
  simp only at h1 l1 m1 t1
  cases mk with
  | false => simp at h1
  | true =>
    simp only [if_true, List.map_cons, List.map_nil, List.cons_append, List.nil_append, List.cons.injEq, and_true] at h1
    obtain ⟨_, e1, e2, e3⟩ := h1
    obtain ⟨rfl, rfl⟩ := m1 rfl
    obtain rfl := t1 rfl
    rw [e1] at hst
    obtain rfl := hst _ (atoi_itoa hi.s0 hi.s1)
    refine ⟨by rw [e3, plain_word]; exact readS_bytes l1, by rw [e2, plain_word], rfl⟩
theorem parse6 {s a0 a1 a2 a3 a4 a5 : ByteArray} (hw : wsp s = [a0, a1, a2, a3, a4, a5]) {k : B} {en : Ent} (hr : itemRight k en = true) (hi : EntIn en) (h : textR k en = d s) {st bt tm : Int} (hst : ∀ v, Go.Lib.atoiAll (d a1) = .ok v → st = v)
    (hbt : ∀ n : Nat, a2.size ≠ 0 → Rs.hexM 18446744073709551615 0 (d a2) = .ok n → bt = (n : Int)) (htm : ∀ v, Go.Lib.atoiAll (d a3) = .ok v → tm = v) (htd : d a3 = [45] → tm = 0) :
    readS (plainS (d a5)) = some en.lab ∧ plainS (d a4) = k ∧ en = ⟨en.lab, false, bt, !decide (d a3 = [45]), tm, st⟩ := by
  have h1 := words_of h
  rw [hw] at h1
  obtain ⟨l1, s10, s11, m1, t1⟩ := right_fields hr
  obtain ⟨lab, mk, b, sd, tm', sp⟩ := en
  unfold wordsT headW at h1
  simp only at h1 l1 m1 t1
  cases mk with
  | true => simp at h1
  | false =>
    simp only [Bool.false_eq_true, if_false, List.map_cons, List.map_nil, List.cons_append, List.nil_append, List.cons.injEq, and_true] at h1
    obtain ⟨_, e1, e2, e3, e4, e5⟩ := h1
    rw [e1] at hst
    obtain rfl := hst _ (atoi_itoa hi.s0 hi.s1)
    have hz : a2.size ≠ 0 := fun hz => by
      have h3 : (d a2).length = a2.size := by simp [d]
      rw [hz, e2, bits_len hi.b1] at h3
      cases h3
    have hb := hbt b.toNat hz (by rw [e2]; exact bits_back hi.b0 hi.b1)
    have hb2 : bt = b := by have := hi.b0; simp only at this; omega
    subst hb2
    refine ⟨by rw [e5, plain_word]; exact readS_bytes l1, by rw [e4, plain_word], ?_⟩
    cases sd with
    | true =>
      simp only [if_true] at e3
      have h4 : ¬ (d a3 = [45]) := by rw [e3]; exact itoa_ne_dash _
      rw [e3] at htm
      obtain rfl := htm _ (atoi_itoa hi.t0 hi.t1)
      simp [h4]
    | false =>
      simp only [Bool.false_eq_true, if_false] at e3
      obtain rfl := t1 rfl
      obtain rfl := htd e3
      simp [e3]
abbrev zeroCells : Array Value := #[.string ⟨#[]⟩, .slice none 0 0, .bool false, .int .u64 0, .bool false, .int .i64 0, .int .i64 0]
theorem parse6' {s a0 a1 a2 a3 a4 a5 : ByteArray} (hw : wsp s = [a0, a1, a2, a3, a4, a5]) {k : B} {en : Ent} (hr : itemRight k en = true) (hi : EntIn en) (h : textR k en = d s) {st bt tm : Int} (hst : ∀ v, Go.Lib.atoiAll (d a1) = .ok v → st = v)
    (hbt : ∀ n : Nat, a2.size ≠ 0 → Rs.hexM 18446744073709551615 0 (d a2) = .ok n → bt = (n : Int)) (htm : ∀ v, Go.Lib.atoiAll (d a3) = .ok v → tm = v) (htz : Go.Lib.atoiAll (d a3) = Go.Lib.NumEnd.syntax → tm = 0) {sd : Bool} (hsd : sd = decide (d a3 = [45])) :
    readS (plainS (d a5)) = some en.lab ∧ plainS (d a4) = k ∧ en = ⟨en.lab, false, bt, !sd, tm, st⟩ := by
  rw [hsd]
  exact parse6 hw hr hi h hst hbt htm (fun e => htz (by rw [e]; rfl))
theorem parse6_lab {s a0 a1 a2 a3 a4 a5 : ByteArray} (hw : wsp s = [a0, a1, a2, a3, a4, a5]) {k : B} {en : Ent} (hr : itemRight k en = true) (_hi : EntIn en) (h : textR k en = d s) : readS (plainS (d a5)) = some en.lab := by
  have h1 := words_of h
  rw [hw] at h1
  obtain ⟨l1, _⟩ := right_fields hr
  have h2 : d a5 = wordS (bytesS en.lab) := by
    unfold wordsT headW at h1
    split at h1 <;> simp at h1
    exact h1.2.2.2.2.2
  rw [h2, plain_word]
  exact readS_bytes l1
theorem readS_right {s : B} {l : List Lab} (h : readS s = some l) : labRight l = true := by
  unfold readS at h
  split at h
  · cases h
  · split at h
    · rename_i h1
      cases h
      exact h1
    · cases h
/-- where Read stands: the result's cells, the pieces, the item -/
structure RdSt (w : World) (ps xs : Array Value) (wx : World) : Prop where
  r : wx.heap[w.heap.size]? = some (.cells zeroCells 40 (0, 0))
  p : wx.heap[w.heap.size + 1]? = some (.cells ps 9 (0, 0))
  x : wx.heap[w.heap.size + 2]? = some (.cells xs 40 (0, 0))
  bel : Below w.heap.size w wx
theorem RdSt.below {w wx w' : World} {ps xs : Array Value} (h : RdSt w ps xs wx) (hb : Below wx.heap.size wx w') : RdSt w ps xs w' :=
  ⟨(hb.block _ (isT_of h.r).lt).trans h.r, (hb.block _ (isT_of h.p).lt).trans h.p, (hb.block _ (isT_of h.x).lt).trans h.x, Bthen h.bel hb⟩
theorem RdSt.set {w wx : World} {ps xs : Array Value} (h : RdSt w ps xs wx) (o : Nat) (v : Value) : RdSt w ps (xs.setIfInBounds o v) (wx.setCell ⟨w.heap.size + 2, o, none⟩ v) :=
  ⟨(blk_other (by omega) o v).trans h.r, (blk_other (by omega) o v).trans h.p, blk_set h.x o v, h.bel.setCell (by simp only; omega) v⟩
theorem Ll.setX {w : World} {b o c : Nat} {v : Value} {a : Option Addr} {l : List Lab} {cs : Array Value} (h : Ll w a c l) (hb : w.heap[b]? = some (.cells cs 40 (0, 0))) : Ll (w.setCell ⟨b, o, none⟩ v) a c l :=
  h.fr (X := fun k => k = b) (Fr.setCell (p := ⟨b, o, none⟩) (Fr.refl (fun k => k = b) w) rfl v) (fun g hg e => hg.ne (isT_of hb) (by decide) e)
/-- labels beside a block of an item -/
def LlX (b : Nat) (w : World) (a : Option Addr) (c : Nat) (l : List Lab) : Prop := Ll w a c l ∧ ∃ cs, w.heap[b]? = some (.cells cs 40 (0, 0))
theorem LlX.set {b : Nat} {w : World} {a : Option Addr} {c : Nat} {l : List Lab} (h : LlX b w a c l) (o : Nat) (v : Value) : LlX b (w.setCell ⟨b, o, none⟩ v) a c l := by
  obtain ⟨h1, cs, h2⟩ := h
  exact ⟨h1.setX h2, _, blk_set h2 o v⟩
theorem LlX.ll {b : Nat} {w : World} {a : Option Addr} {c : Nat} {l : List Lab} (h : LlX b w a c l) : Ll w a c l := h.1
theorem RdSt.start (w : World) (ps : Array Value) : RdSt w ps zeroCells (((w.alloc (.cells zeroCells 40)).alloc (.cells ps 9)).alloc (.cells zeroCells 40)) := by
  refine ⟨?_, ?_, ?_, (((Below.refl _ _).alloc (Nat.le_refl _) _).alloc (by simp) _).alloc (by simp; omega) _⟩
  · have h1 := heap_alloc_new w (.cells zeroCells 40)
    exact (Below.heap_alloc _ _ _ (by simp; omega)).trans ((Below.heap_alloc _ _ _ (by simp)).trans h1)
  · have h1 := heap_alloc_new (w.alloc (.cells zeroCells 40)) (.cells ps 9)
    exact (Below.heap_alloc _ _ _ (by simp)).trans (by simpa using h1)
  · have h1 := heap_alloc_new ((w.alloc (.cells zeroCells 40)).alloc (.cells ps 9)) (.cells zeroCells 40)
    simpa using h1
theorem plainS_len (s : B) : (plainS s).length ≤ s.length := by
  unfold plainS
  split
  · simp
  · exact plainGo_len _ s (Nat.le_refl _)
/-- the number of the text's second word -/
theorem parse4_st {s a0 a1 a2 a3 : ByteArray} (hw : wsp s = [a0, a1, a2, a3]) {k : B} {en : Ent} (hi : EntIn en) (h : textR k en = d s) : ∀ v, Go.Lib.atoiAll (d a1) = .ok v → en.stamp = v := by
  intro v hv
  have h1 := words_of h
  rw [hw] at h1
  have h2 : d a1 = Go.Lib.itoa en.stamp := by
    unfold wordsT headW at h1
    split at h1 <;> simp at h1
    exact h1.2.1
  rw [h2, atoi_itoa hi.s0 hi.s1] at hv
  injection hv
set_option maxRecDepth 100000 in
set_option maxHeartbeats 4000000 in
theorem read_calls (s : ByteArray) (hs : s.size ≤ 1100000) (w : World) (hE : Ev w) (hS : Es w) :
    Calls Tryz.prog 17 #[.string s] w (RdtPost s w) := by
  have hb0 : Below w.heap.size w (w.alloc (.cells #[.string ⟨#[]⟩, .slice none 0 0, .bool false, .int .u64 0, .bool false, .int .i64 0, .int .i64 0] 40)) := (Below.refl _ _).alloc (Nat.le_refl _) _
  obtain ⟨m, hm⟩ := (hE.below hb0).kv.mx
  have hsp := Tryz.strings_Split s ⟨#[32]⟩ m (w.alloc (.cells #[.string ⟨#[]⟩, .slice none 0 0, .bool false, .int .u64 0, .bool false, .int .i64 0, .int .i64 0] 40)) (by omega) hm (by decide)
  rw [← wsp_length s] at hsp
  rw [show Lib.splitB ⟨#[32]⟩ 0 (Lib.countB s ⟨#[32]⟩) s = wsp s from rfl] at hsp
  have HSP := Lib.hid hsp
  have HE := Lib.hid (And.intro hE hS)
  clear hsp hE hS hm hb0
  have hle := wsp_le s
  by_cases h4 : (wsp s).length = 4
  · obtain ⟨a0, a1, a2, a3, hw⟩ : ∃ a0 a1 a2 a3, wsp s = [a0, a1, a2, a3] := by
      match wsp s, h4 with
      | [a0, a1, a2, a3], _ => exact ⟨a0, a1, a2, a3, rfl⟩
    have hsp := HSP.out
    rw [hw] at hsp hle
    simp only [List.length_cons, List.length_nil, List.map_cons, List.map_nil, Nat.zero_add, Nat.reduceAdd] at hsp
    have z1 : a1.size ≤ 1100000 := Nat.le_trans (hle a1 (by simp)) hs
    have z2 : a2.size ≤ 1100000 := Nat.le_trans (hle a2 (by simp)) hs
    have z3 : a3.size ≤ 1100000 := Nat.le_trans (hle a3 (by simp)) hs
    have HW := Lib.hid (And.intro hw hsp)
    clear hw hsp hle h4 HSP
    go_enter Tryz.func17, Tryz.ntmps17
    go_wp2_with fail
    go_at_call 43
    refine HW.out.2.mono ?_
    rintro e w2 ⟨rfl, rfl⟩
    have hst := RdSt.start w #[.string a0, .string a1, .string a2, .string a3]
    have p1 := block_cell hst.p 1 _ rfl
    have p2 := block_cell hst.p 2 _ rfl
    have p3 := block_cell hst.p 3 _ rfl
    obtain ⟨w3, hw3⟩ : ∃ q, q = (((w.alloc (.cells zeroCells 40)).alloc (.cells #[.string a0, .string a1, .string a2, .string a3] 9)).alloc (.cells zeroCells 40)) := ⟨_, rfl⟩
    rw [← hw3] at hst p1 p2 p3
    have H3 := Lib.hid hst
    clear hst
    go_wp2_with fail
    rw [← hw3]
    clear hw3
    go_at_call 45
    refine (plain_calls a3 w3 (by omega) (HE.out.2.below H3.out.bel)).mono ?_
    rintro e w4 ⟨rfl, hb4⟩
    have H4 := Lib.hid (H3.out.below hb4)
    clear hb4 p1 p2 p3
    obtain ⟨P3, hP3⟩ : ∃ P, P = (⟨(plainS (d a3)).toArray⟩ : ByteArray) := ⟨_, rfl⟩
    rw [← hP3]
    have hd3 : d P3 = plainS (d a3) := by rw [hP3]
    have hz3 : P3.size ≤ 1100000 := by
      have h1 : P3.size = (d P3).length := by simp [d]
      have h2 := plainS_len (d a3)
      have h3 : (d a3).length = a3.size := by simp [d]
      rw [hd3] at h1
      omega
    obtain ⟨mx, hmx⟩ := (HE.out.1.below H4.out.bel).kv.mx
    have hcr := cread_calls P3 w4 hz3 mx hmx
    have HP := Lib.hid (And.intro hd3 hcr)
    clear hP3 hd3 hmx hcr H3
    go_wp2_with fail
    go_at_call 44
    refine HP.out.2.mono ?_
    rintro e w5 hp
    unfold CrPost at hp
    cases hrd : readS (d P3) with
    | none =>
      rw [hrd] at hp
      obtain ⟨rfl, hb5⟩ := hp
      have H5 := H4.out.below hb5
      have x0 := block_cell H5.x 0 _ rfl
      have y0 := blk_froz H5.x 0
      have x1 := block_cell H5.x 1 _ rfl
      have y1 := blk_froz H5.x 1
      have x2 := block_cell H5.x 2 _ rfl
      have y2 := blk_froz H5.x 2
      have x3 := block_cell H5.x 3 _ rfl
      have y3 := blk_froz H5.x 3
      have x4 := block_cell H5.x 4 _ rfl
      have y4 := blk_froz H5.x 4
      have x5 := block_cell H5.x 5 _ rfl
      have y5 := blk_froz H5.x 5
      have x6 := block_cell H5.x 6 _ rfl
      have y6 := blk_froz H5.x 6
      have r0 := block_cell H5.r 0 _ rfl
      have s0 := blk_froz H5.r 0
      have s1 := blk_froz H5.r 1
      have s2 := blk_froz H5.r 2
      have s3 := blk_froz H5.r 3
      have s4 := blk_froz H5.r 4
      have s5 := blk_froz H5.r 5
      have s6 := blk_froz H5.r 6
      have r1 := block_cell H5.r 1 _ rfl
      have r2 := block_cell H5.r 2 _ rfl
      have r3 := block_cell H5.r 3 _ rfl
      have r4 := block_cell H5.r 4 _ rfl
      have r5 := block_cell H5.r 5 _ rfl
      have r6 := block_cell H5.r 6 _ rfl
      have hlt5 := (isT_of H5.r).lt
      have hltx := (isT_of H5.x).lt
      have HN : Hid (NoText (d s) ∧ Below w.heap.size w w5) := Lib.hid ⟨(fun k en hr hi he => by
        have h1 := (parse4 HW.out.1 hr hi he (parse4_st HW.out.1 hi he)).1
        rw [← HP.out.1, hrd] at h1
        cases h1), H5.bel⟩
      clear H5 hrd hb5
      go_wp2_with fail
      refine bodyPost_ret (v := .tuple #[zeroAgg, .int .i64 383]) (by simp [results, Tryz.results17, go_sem, r0, r1, r2, r3, r4, r5, r6]) rfl ⟨.inr ⟨rfl, HN.out.1⟩, ?_⟩
      iterate 7 (refine Below.setCell ?_ (by exact Nat.le_refl _) _)
      exact HN.out.2
    | some L =>
      rw [hrd] at hp
      obtain ⟨⟨v5, rfl, hown5⟩, hb5⟩ := hp
      obtain ⟨a5, c5, rfl⟩ := own_form hown5
      have H5 := Lib.hid (And.intro (H4.out.below hb5) (Ll.of_own hown5))
      have HRD := Lib.hid (show readS (plainS (d a3)) = some L by rw [← HP.out.1]; exact hrd)
      have p2 := block_cell H5.out.1.p 2 _ rfl
      clear hown5 hb5 hrd H4
      go_wp2_with fail
      go_at_call 45
      refine (plain_calls a2 w5 (by omega) (HE.out.2.below H5.out.1.bel)).mono ?_
      rintro e w6 ⟨rfl, hb6⟩
      have H6 := Lib.hid (And.intro (H5.out.1.below hb6) (H5.out.2.below hb6 (Nat.le_refl _)))
      obtain ⟨K, hK⟩ : ∃ K, K = (⟨(plainS (d a2)).toArray⟩ : ByteArray) := ⟨_, rfl⟩
      rw [← hK]
      have HK : Hid (d K = plainS (d a2)) := Lib.hid (by rw [hK])
      have hKz : K.size ≤ 1100000 := by
        have h1 : K.size = (d K).length := by simp [d]
        have h2 := plainS_len (d a2)
        have h3 : (d a2).length = a2.size := by simp [d]
        rw [HK.out] at h1
        omega
      have p1 := block_cell H6.out.1.p 1 _ rfl
      have x0 := block_cell H6.out.1.x 0 _ rfl
      have y0 := blk_froz H6.out.1.x 0
      have x1 := block_cell H6.out.1.x 1 _ rfl
      have y1 := blk_froz H6.out.1.x 1
      have x2 := block_cell H6.out.1.x 2 _ rfl
      have y2 := blk_froz H6.out.1.x 2
      have x3 := block_cell H6.out.1.x 3 _ rfl
      have y3 := blk_froz H6.out.1.x 3
      have x4 := block_cell H6.out.1.x 4 _ rfl
      have y4 := blk_froz H6.out.1.x 4
      have x5 := block_cell H6.out.1.x 5 _ rfl
      have y5 := blk_froz H6.out.1.x 5
      have x6 := block_cell H6.out.1.x 6 _ rfl
      have y6 := blk_froz H6.out.1.x 6
      have hltx := (isT_of H6.out.1.x).lt
      clear hb6 hK p2 H5
      go_wp2_with fail
      go_at_call 46
      obtain ⟨w7, hw7⟩ : ∃ q, q = ((w6.setCell ⟨w.heap.size + 2, 0, none⟩ (.string K)).setCell ⟨w.heap.size + 2, 1, none⟩ (.slice a5 L.length c5)).setCell ⟨w.heap.size + 2, 2, none⟩ (.bool true) := ⟨_, rfl⟩
      rw [← hw7]
      have H7 : Hid (RdSt w #[.string a0, .string a1, .string a2, .string a3] #[.string K, .slice a5 L.length c5, .bool true, .int .u64 0, .bool false, .int .i64 0, .int .i64 0] w7 ∧ Ll w7 a5 c5 L) := Lib.hid (by
        rw [hw7]
        refine ⟨((H6.out.1.set 0 _).set 1 _).set 2 _, ?_⟩
        exact ((H6.out.2.setX H6.out.1.x).setX (H6.out.1.set 0 _).x).setX ((H6.out.1.set 0 _).set 1 _).x)
      clear hw7 p1 x0 x1 x2 x3 x4 x5 x6 y0 y1 y2 y3 y4 y5 y6 H6 hltx
      refine (atoi_calls a1 (by omega) w7 (HE.out.2.below H7.out.1.bel)).mono ?_
      rintro e w8 ⟨n, ev, rfl, hn, hnv, -, hb8⟩
      have H8 := Lib.hid (And.intro (H7.out.1.below hb8) (H7.out.2.below hb8 (Nat.le_refl _)))
      have HNV := Lib.hid (And.intro hn hnv)
      have x0 := block_cell H8.out.1.x 0 _ rfl
      have y0 := blk_froz H8.out.1.x 0
      have x1 := block_cell H8.out.1.x 1 _ rfl
      have y1 := blk_froz H8.out.1.x 1
      have x2 := block_cell H8.out.1.x 2 _ rfl
      have y2 := blk_froz H8.out.1.x 2
      have x3 := block_cell H8.out.1.x 3 _ rfl
      have y3 := blk_froz H8.out.1.x 3
      have x4 := block_cell H8.out.1.x 4 _ rfl
      have y4 := blk_froz H8.out.1.x 4
      have x5 := block_cell H8.out.1.x 5 _ rfl
      have y5 := blk_froz H8.out.1.x 5
      have x6 := block_cell H8.out.1.x 6 _ rfl
      have y6 := blk_froz H8.out.1.x 6
      have hltx := (isT_of H8.out.1.x).lt
      clear hb8 hn hnv H7
      go_wp2_with fail
      go_at_call 9
      obtain ⟨w9, hw9⟩ : ∃ q, q = w8.setCell ⟨w.heap.size + 2, 6, none⟩ (.int .i64 n) := ⟨_, rfl⟩
      rw [← hw9]
      have H9 : Hid (RdSt w #[.string a0, .string a1, .string a2, .string a3] #[.string K, .slice a5 L.length c5, .bool true, .int .u64 0, .bool false, .int .i64 0, .int .i64 n] w9 ∧ Ll w9 a5 c5 L) := Lib.hid (by
        rw [hw9]
        exact ⟨H8.out.1.set 6 _, H8.out.2.setX H8.out.1.x⟩)
      clear hw9 x0 x1 x2 x3 x4 x5 x6 y0 y1 y2 y3 y4 y5 y6 H8 hltx
      obtain ⟨en, hen⟩ : ∃ en : Ent, en = ⟨L, true, 0, false, 0, n⟩ := ⟨_, rfl⟩
      have hei : EntIn en := by rw [hen]; exact ⟨(show (0 : Int) ≤ 0 by decide), (show (0 : Int) < 18446744073709551616 by decide), (show (-9223372036854775808 : Int) ≤ 0 by decide), (show (0 : Int) ≤ 9223372036854775807 by decide), HNV.out.1.1, HNV.out.1.2⟩
      have hlab : en.lab = L := by rw [hen]
      have hLR := readS_right HRD.out
      have hcall := text_calls K a5 c5 en w9 (HE.out.1.below H9.out.1.bel) hei (by omega) (by rw [hlab]; exact H9.out.2.rd) (by rw [hlab]; have := (labRight_ok hLR).1; omega) (fun x hx => by rw [hlab] at hx; have h3 := ((labRight_ok hLR).2 x hx).2; simp only [d, Array.length_toList] at h3; have h4 : x.2.size ≤ 1024 := h3; omega)
      have HEN := Lib.hid (And.intro hen (And.intro hei (And.intro hlab hcall)))
      have hcall2 := hcall
      rw [hen] at hcall2
      clear hcall hei hlab hLR
      refine hcall2.mono ?_
      clear hcall2
      rintro e w10 ⟨rfl, hb10⟩
      rw [← hen]
      have H10 := Lib.hid (And.intro (H9.out.1.below hb10) (H9.out.2.below hb10 (Nat.le_refl _)))
      clear hb10 hen
      have x0 := block_cell H10.out.1.x 0 _ rfl
      have y0 := blk_froz H10.out.1.x 0
      have x1 := block_cell H10.out.1.x 1 _ rfl
      have y1 := blk_froz H10.out.1.x 1
      have x2 := block_cell H10.out.1.x 2 _ rfl
      have y2 := blk_froz H10.out.1.x 2
      have x3 := block_cell H10.out.1.x 3 _ rfl
      have y3 := blk_froz H10.out.1.x 3
      have x4 := block_cell H10.out.1.x 4 _ rfl
      have y4 := blk_froz H10.out.1.x 4
      have x5 := block_cell H10.out.1.x 5 _ rfl
      have y5 := blk_froz H10.out.1.x 5
      have x6 := block_cell H10.out.1.x 6 _ rfl
      have y6 := blk_froz H10.out.1.x 6
      have r0 := block_cell H10.out.1.r 0 _ rfl
      have s0 := blk_froz H10.out.1.r 0
      have r1 := block_cell H10.out.1.r 1 _ rfl
      have s1 := blk_froz H10.out.1.r 1
      have r2 := block_cell H10.out.1.r 2 _ rfl
      have s2 := blk_froz H10.out.1.r 2
      have r3 := block_cell H10.out.1.r 3 _ rfl
      have s3 := blk_froz H10.out.1.r 3
      have r4 := block_cell H10.out.1.r 4 _ rfl
      have s4 := blk_froz H10.out.1.r 4
      have r5 := block_cell H10.out.1.r 5 _ rfl
      have s5 := blk_froz H10.out.1.r 5
      have r6 := block_cell H10.out.1.r 6 _ rfl
      have s6 := blk_froz H10.out.1.r 6
      have hltx := (isT_of H10.out.1.x).lt
      have hltr := (isT_of H10.out.1.r).lt
      cases hir : itemRight (d K) en with
      | false =>
        have HN : Hid (NoText (d s) ∧ Below w.heap.size w w10) := Lib.hid ⟨(fun k en' hr hi he => by
          obtain ⟨q1, q2, q3⟩ := parse4 HW.out.1 hr hi he HNV.out.2
          rw [HRD.out] at q1
          obtain rfl := Option.some.inj q1
          rw [← q2, ← HK.out, q3, ← HEN.out.1, hir] at hr
          cases hr), H10.out.1.bel⟩
        rw [show textErr (d K) en = 380 by unfold textErr; rw [hir]; rfl]
        clear hir
        go_wp2_with fail
        refine bodyPost_ret (v := .tuple #[zeroAgg, .int .i64 383]) (by simp [results, Tryz.results17, go_sem, r0, r1, r2, r3, r4, r5, r6]) rfl ⟨.inr ⟨rfl, HN.out.1⟩, ?_⟩
        iterate 7 (refine Below.setCell ?_ (by exact Nat.le_refl _) _)
        exact HN.out.2
      | true =>
        rw [show textErr (d K) en = 0 by unfold textErr; rw [hir]; rfl, show textT (d K) en = textR (d K) en by unfold textT; rw [hir]; rfl]
        obtain ⟨T, hT⟩ : ∃ T : ByteArray, T = ⟨(textR (d K) en).toArray⟩ := ⟨_, rfl⟩
        rw [← hT]
        have hTd : d T = textR (d K) en := by rw [hT]
        have HIR := Lib.hid (And.intro hir hTd)
        by_cases heq : d T = d s
        · have hq1 : (T.toList == s.toList) = true := beq_iff_eq.2 (by rw [ByteArray.toList_eq, ByteArray.toList_eq]; exact heq)
          have HQ := Lib.hid (And.intro heq H10.out.1.bel)
          clear hT hTd heq hir
          go_wp2_with fail
          refine bodyPost_ret (v := .tuple #[.agg #[.string K, .slice a5 L.length c5, .bool true, .int .u64 0, .bool false, .int .i64 0, .int .i64 n], .int .i64 0]) (by simp [results, Tryz.results17, go_sem, r0, r1, r2, r3, r4, r5, r6]) rfl ⟨.inl ⟨K, a5, c5, en, ?_, HIR.out.1, HEN.out.2.1, HIR.out.2.symm.trans HQ.out.1, ?_, by omega⟩, ?_⟩
          · rw [HEN.out.1]
          · rw [HEN.out.2.2.1]
            refine LlX.ll (b := w.heap.size) ?_
            iterate 7 (refine LlX.set ?_ _ _)
            exact ⟨H10.out.2, _, H10.out.1.r⟩
          · iterate 7 (refine Below.setCell ?_ (by exact Nat.le_refl _) _)
            exact HQ.out.2
        · have hq1 : (T.toList == s.toList) = false := beq_eq_false_iff_ne.2 (fun e => heq (by rw [ByteArray.toList_eq, ByteArray.toList_eq] at e; exact e))
          have HN : Hid (NoText (d s) ∧ Below w.heap.size w w10) := Lib.hid ⟨(fun k en' hr hi he => by
            obtain ⟨q1, q2, q3⟩ := parse4 HW.out.1 hr hi he HNV.out.2
            rw [HRD.out] at q1
            obtain rfl := Option.some.inj q1
            rw [← q2, ← HK.out, q3, ← HEN.out.1, ← hTd] at he
            exact heq he), H10.out.1.bel⟩
          clear hT hTd heq hir
          go_wp2_with fail
          refine bodyPost_ret (v := .tuple #[zeroAgg, .int .i64 383]) (by simp [results, Tryz.results17, go_sem, r0, r1, r2, r3, r4, r5, r6]) rfl ⟨.inr ⟨rfl, HN.out.1⟩, ?_⟩
          iterate 7 (refine Below.setCell ?_ (by exact Nat.le_refl _) _)
          exact HN.out.2
  · by_cases h6 : (wsp s).length = 6
    · obtain ⟨a0, a1, a2, a3, a4, a5, hw⟩ : ∃ a0 a1 a2 a3 a4 a5, wsp s = [a0, a1, a2, a3, a4, a5] := by
        match wsp s, h6 with
        | [a0, a1, a2, a3, a4, a5], _ => exact ⟨a0, a1, a2, a3, a4, a5, rfl⟩
      have hsp := HSP.out
      rw [hw] at hsp hle
      simp only [List.length_cons, List.length_nil, List.map_cons, List.map_nil, Nat.zero_add, Nat.reduceAdd] at hsp
      have z1 : a1.size ≤ 1100000 := Nat.le_trans (hle a1 (by simp)) hs
      have z2 : a2.size ≤ 1100000 := Nat.le_trans (hle a2 (by simp)) hs
      have z3 : a3.size ≤ 1100000 := Nat.le_trans (hle a3 (by simp)) hs
      have z4 : a4.size ≤ 1100000 := Nat.le_trans (hle a4 (by simp)) hs
      have z5 : a5.size ≤ 1100000 := Nat.le_trans (hle a5 (by simp)) hs
      have HW := Lib.hid (And.intro hw hsp)
      clear hw hsp hle h4 h6 HSP
      go_enter Tryz.func17, Tryz.ntmps17
      go_wp2_with fail
      go_at_call 43
      refine HW.out.2.mono ?_
      rintro e w2 ⟨rfl, rfl⟩
      have hst := RdSt.start w #[.string a0, .string a1, .string a2, .string a3, .string a4, .string a5]
      have p1 := block_cell hst.p 1 _ rfl
      have p2 := block_cell hst.p 4 _ rfl
      have p3 := block_cell hst.p 5 _ rfl
      obtain ⟨w3, hw3⟩ : ∃ q, q = (((w.alloc (.cells zeroCells 40)).alloc (.cells #[.string a0, .string a1, .string a2, .string a3, .string a4, .string a5] 9)).alloc (.cells zeroCells 40)) := ⟨_, rfl⟩
      rw [← hw3] at hst p1 p2 p3
      have H3 := Lib.hid hst
      clear hst
      go_wp2_with fail
      rw [← hw3]
      clear hw3
      go_at_call 45
      refine (plain_calls a5 w3 (by omega) (HE.out.2.below H3.out.bel)).mono ?_
      rintro e w4 ⟨rfl, hb4⟩
      have H4 := Lib.hid (H3.out.below hb4)
      clear hb4 p1 p2 p3
      obtain ⟨P3, hP3⟩ : ∃ P, P = (⟨(plainS (d a5)).toArray⟩ : ByteArray) := ⟨_, rfl⟩
      rw [← hP3]
      have hd3 : d P3 = plainS (d a5) := by rw [hP3]
      have hz3 : P3.size ≤ 1100000 := by
        have h1 : P3.size = (d P3).length := by simp [d]
        have h2 := plainS_len (d a5)
        have h3 : (d a5).length = a5.size := by simp [d]
        rw [hd3] at h1
        omega
      obtain ⟨mx, hmx⟩ := (HE.out.1.below H4.out.bel).kv.mx
      have hcr := cread_calls P3 w4 hz3 mx hmx
      have HP := Lib.hid (And.intro hd3 hcr)
      clear hP3 hd3 hmx hcr H3
      go_wp2_with fail
      go_at_call 44
      refine HP.out.2.mono ?_
      rintro e w5 hp
      unfold CrPost at hp
      cases hrd : readS (d P3) with
      | none =>
        rw [hrd] at hp
        obtain ⟨rfl, hb5⟩ := hp
        have H5 := H4.out.below hb5
        have x0 := block_cell H5.x 0 _ rfl
        have y0 := blk_froz H5.x 0
        have x1 := block_cell H5.x 1 _ rfl
        have y1 := blk_froz H5.x 1
        have x2 := block_cell H5.x 2 _ rfl
        have y2 := blk_froz H5.x 2
        have x3 := block_cell H5.x 3 _ rfl
        have y3 := blk_froz H5.x 3
        have x4 := block_cell H5.x 4 _ rfl
        have y4 := blk_froz H5.x 4
        have x5 := block_cell H5.x 5 _ rfl
        have y5 := blk_froz H5.x 5
        have x6 := block_cell H5.x 6 _ rfl
        have y6 := blk_froz H5.x 6
        have r0 := block_cell H5.r 0 _ rfl
        have s0 := blk_froz H5.r 0
        have s1 := blk_froz H5.r 1
        have s2 := blk_froz H5.r 2
        have s3 := blk_froz H5.r 3
        have s4 := blk_froz H5.r 4
        have s5 := blk_froz H5.r 5
        have s6 := blk_froz H5.r 6
        have r1 := block_cell H5.r 1 _ rfl
        have r2 := block_cell H5.r 2 _ rfl
        have r3 := block_cell H5.r 3 _ rfl
        have r4 := block_cell H5.r 4 _ rfl
        have r5 := block_cell H5.r 5 _ rfl
        have r6 := block_cell H5.r 6 _ rfl
        have hlt5 := (isT_of H5.r).lt
        have hltx := (isT_of H5.x).lt
        have HN : Hid (NoText (d s) ∧ Below w.heap.size w w5) := Lib.hid ⟨(fun k en hr hi he => by
          have h1 := (parse6_lab HW.out.1 hr hi he)
          rw [← HP.out.1, hrd] at h1
          cases h1), H5.bel⟩
        clear H5 hrd hb5
        go_wp2_with fail
        refine bodyPost_ret (v := .tuple #[zeroAgg, .int .i64 383]) (by simp [results, Tryz.results17, go_sem, r0, r1, r2, r3, r4, r5, r6]) rfl ⟨.inr ⟨rfl, HN.out.1⟩, ?_⟩
        iterate 7 (refine Below.setCell ?_ (by exact Nat.le_refl _) _)
        exact HN.out.2
      | some L =>
        rw [hrd] at hp
        obtain ⟨⟨v5, rfl, hown5⟩, hb5⟩ := hp
        obtain ⟨a5', c5, rfl⟩ := own_form hown5
        have H5 := Lib.hid (And.intro (H4.out.below hb5) (Ll.of_own hown5))
        have HRD := Lib.hid (show readS (plainS (d a5)) = some L by rw [← HP.out.1]; exact hrd)
        have p2 := block_cell H5.out.1.p 4 _ rfl
        clear hown5 hb5 hrd H4
        go_wp2_with fail
        go_at_call 45
        refine (plain_calls a4 w5 (by omega) (HE.out.2.below H5.out.1.bel)).mono ?_
        rintro e w6 ⟨rfl, hb6⟩
        have H6 := Lib.hid (And.intro (H5.out.1.below hb6) (H5.out.2.below hb6 (Nat.le_refl _)))
        obtain ⟨K, hK⟩ : ∃ K, K = (⟨(plainS (d a4)).toArray⟩ : ByteArray) := ⟨_, rfl⟩
        rw [← hK]
        have HK : Hid (d K = plainS (d a4)) := Lib.hid (by rw [hK])
        have hKz : K.size ≤ 1100000 := by
          have h1 : K.size = (d K).length := by simp [d]
          have h2 := plainS_len (d a4)
          have h3 : (d a4).length = a4.size := by simp [d]
          rw [HK.out] at h1
          omega
        have p1 := block_cell H6.out.1.p 1 _ rfl
        have x0 := block_cell H6.out.1.x 0 _ rfl
        have y0 := blk_froz H6.out.1.x 0
        have x1 := block_cell H6.out.1.x 1 _ rfl
        have y1 := blk_froz H6.out.1.x 1
        have x2 := block_cell H6.out.1.x 2 _ rfl
        have y2 := blk_froz H6.out.1.x 2
        have x3 := block_cell H6.out.1.x 3 _ rfl
        have y3 := blk_froz H6.out.1.x 3
        have x4 := block_cell H6.out.1.x 4 _ rfl
        have y4 := blk_froz H6.out.1.x 4
        have x5 := block_cell H6.out.1.x 5 _ rfl
        have y5 := blk_froz H6.out.1.x 5
        have x6 := block_cell H6.out.1.x 6 _ rfl
        have y6 := blk_froz H6.out.1.x 6
        have hltx := (isT_of H6.out.1.x).lt
        clear hb6 hK p2 H5
        go_wp2_with fail
        go_at_call 46
        obtain ⟨w7, hw7⟩ : ∃ q, q = ((w6.setCell ⟨w.heap.size + 2, 0, none⟩ (.string K)).setCell ⟨w.heap.size + 2, 1, none⟩ (.slice a5' L.length c5)).setCell ⟨w.heap.size + 2, 2, none⟩ (.bool false) := ⟨_, rfl⟩
        rw [← hw7]
        have H7 : Hid (RdSt w #[.string a0, .string a1, .string a2, .string a3, .string a4, .string a5] #[.string K, .slice a5' L.length c5, .bool false, .int .u64 0, .bool false, .int .i64 0, .int .i64 0] w7 ∧ Ll w7 a5' c5 L) := Lib.hid (by
          rw [hw7]
          refine ⟨((H6.out.1.set 0 _).set 1 _).set 2 _, ?_⟩
          exact ((H6.out.2.setX H6.out.1.x).setX (H6.out.1.set 0 _).x).setX ((H6.out.1.set 0 _).set 1 _).x)
        clear hw7 p1 x0 x1 x2 x3 x4 x5 x6 y0 y1 y2 y3 y4 y5 y6 H6 hltx
        refine (atoi_calls a1 (by omega) w7 (HE.out.2.below H7.out.1.bel)).mono ?_
        rintro e w8 ⟨n, ev, rfl, hn, hnv, -, hb8⟩
        have H8 := Lib.hid (And.intro (H7.out.1.below hb8) (H7.out.2.below hb8 (Nat.le_refl _)))
        have HNV := Lib.hid (And.intro hn hnv)
        have q2 := block_cell H8.out.1.p 2 _ rfl
        have x0 := block_cell H8.out.1.x 0 _ rfl
        have y0 := blk_froz H8.out.1.x 0
        have x1 := block_cell H8.out.1.x 1 _ rfl
        have y1 := blk_froz H8.out.1.x 1
        have x2 := block_cell H8.out.1.x 2 _ rfl
        have y2 := blk_froz H8.out.1.x 2
        have x3 := block_cell H8.out.1.x 3 _ rfl
        have y3 := blk_froz H8.out.1.x 3
        have x4 := block_cell H8.out.1.x 4 _ rfl
        have y4 := blk_froz H8.out.1.x 4
        have x5 := block_cell H8.out.1.x 5 _ rfl
        have y5 := blk_froz H8.out.1.x 5
        have x6 := block_cell H8.out.1.x 6 _ rfl
        have y6 := blk_froz H8.out.1.x 6
        have hltx := (isT_of H8.out.1.x).lt
        clear hb8 hn hnv H7
        go_wp2_with fail
        go_at_call 47
        obtain ⟨wa, hwa⟩ : ∃ q, q = w8.setCell ⟨w.heap.size + 2, 6, none⟩ (.int .i64 n) := ⟨_, rfl⟩
        rw [← hwa]
        have Ha : Hid (RdSt w #[.string a0, .string a1, .string a2, .string a3, .string a4, .string a5] #[.string K, .slice a5' L.length c5, .bool false, .int .u64 0, .bool false, .int .i64 0, .int .i64 n] wa ∧ Ll wa a5' c5 L) := Lib.hid (by
          rw [hwa]
          exact ⟨H8.out.1.set 6 _, H8.out.2.setX H8.out.1.x⟩)
        clear hwa q2 x0 x1 x2 x3 x4 x5 x6 y0 y1 y2 y3 y4 y5 y6 H8 hltx
        refine (pu64_calls a2 (by omega) wa (HE.out.2.below Ha.out.1.bel)).mono ?_
        rintro e wb ⟨bt, evb, rfl, HBT, hbv, hbb⟩
        have Hb := Lib.hid (And.intro (Ha.out.1.below hbb) (Ha.out.2.below hbb (Nat.le_refl _)))
        have HBV := Lib.hid hbv
        have q3 := block_cell Hb.out.1.p 3 _ rfl
        obtain ⟨sd, hsd⟩ : ∃ sd, (a3.toList == [45]) = sd := ⟨_, rfl⟩
        have HSD : Hid (sd = decide (d a3 = [45])) := Lib.hid (by
          rw [← hsd, ByteArray.toList_eq]
          by_cases h : a3.data.toList = [45]
          · rw [decide_eq_true (show d a3 = [45] from h), h]; rfl
          · rw [decide_eq_false (show ¬ d a3 = [45] from h)]; exact beq_eq_false_iff_ne.2 h)
        have x0 := block_cell Hb.out.1.x 0 _ rfl
        have y0 := blk_froz Hb.out.1.x 0
        have x1 := block_cell Hb.out.1.x 1 _ rfl
        have y1 := blk_froz Hb.out.1.x 1
        have x2 := block_cell Hb.out.1.x 2 _ rfl
        have y2 := blk_froz Hb.out.1.x 2
        have x3 := block_cell Hb.out.1.x 3 _ rfl
        have y3 := blk_froz Hb.out.1.x 3
        have x4 := block_cell Hb.out.1.x 4 _ rfl
        have y4 := blk_froz Hb.out.1.x 4
        have x5 := block_cell Hb.out.1.x 5 _ rfl
        have y5 := blk_froz Hb.out.1.x 5
        have x6 := block_cell Hb.out.1.x 6 _ rfl
        have y6 := blk_froz Hb.out.1.x 6
        have hltx := (isT_of Hb.out.1.x).lt
        clear hbb hbv Ha
        go_wp2_with fail
        go_at_call 46
        obtain ⟨wc, hwc⟩ : ∃ q, q = (wb.setCell ⟨w.heap.size + 2, 3, none⟩ (.int .u64 bt)).setCell ⟨w.heap.size + 2, 4, none⟩ (.bool (!sd)) := ⟨_, rfl⟩
        rw [← hwc]
        have Hc : Hid (RdSt w #[.string a0, .string a1, .string a2, .string a3, .string a4, .string a5] #[.string K, .slice a5' L.length c5, .bool false, .int .u64 bt, .bool (!sd), .int .i64 0, .int .i64 n] wc ∧ Ll wc a5' c5 L) := Lib.hid (by
          rw [hwc]
          exact ⟨(Hb.out.1.set 3 _).set 4 _, (Hb.out.2.setX Hb.out.1.x).setX (Hb.out.1.set 3 _).x⟩)
        clear hwc q3 x0 x1 x2 x3 x4 x5 x6 y0 y1 y2 y3 y4 y5 y6 Hb hltx hsd
        refine (atoi_calls a3 (by omega) wc (HE.out.2.below Hc.out.1.bel)).mono ?_
        rintro e wd ⟨tm, evt, rfl, htm, htv, htz, hbd⟩
        have Hd := Lib.hid (And.intro (Hc.out.1.below hbd) (Hc.out.2.below hbd (Nat.le_refl _)))
        have HTM := Lib.hid (And.intro htm (And.intro htv htz))
        have x0 := block_cell Hd.out.1.x 0 _ rfl
        have y0 := blk_froz Hd.out.1.x 0
        have x1 := block_cell Hd.out.1.x 1 _ rfl
        have y1 := blk_froz Hd.out.1.x 1
        have x2 := block_cell Hd.out.1.x 2 _ rfl
        have y2 := blk_froz Hd.out.1.x 2
        have x3 := block_cell Hd.out.1.x 3 _ rfl
        have y3 := blk_froz Hd.out.1.x 3
        have x4 := block_cell Hd.out.1.x 4 _ rfl
        have y4 := blk_froz Hd.out.1.x 4
        have x5 := block_cell Hd.out.1.x 5 _ rfl
        have y5 := blk_froz Hd.out.1.x 5
        have x6 := block_cell Hd.out.1.x 6 _ rfl
        have y6 := blk_froz Hd.out.1.x 6
        have hltx := (isT_of Hd.out.1.x).lt
        clear hbd htm htv htz Hc
        go_wp2_with fail
        go_at_call 9
        obtain ⟨w9, hw9⟩ : ∃ q, q = wd.setCell ⟨w.heap.size + 2, 5, none⟩ (.int .i64 tm) := ⟨_, rfl⟩
        rw [← hw9]
        have H9 : Hid (RdSt w #[.string a0, .string a1, .string a2, .string a3, .string a4, .string a5] #[.string K, .slice a5' L.length c5, .bool false, .int .u64 bt, .bool (!sd), .int .i64 tm, .int .i64 n] w9 ∧ Ll w9 a5' c5 L) := Lib.hid (by
          rw [hw9]
          exact ⟨Hd.out.1.set 5 _, Hd.out.2.setX Hd.out.1.x⟩)
        clear hw9 x0 x1 x2 x3 x4 x5 x6 y0 y1 y2 y3 y4 y5 y6 Hd hltx
        obtain ⟨en, hen⟩ : ∃ en : Ent, en = ⟨L, false, bt, !sd, tm, n⟩ := ⟨_, rfl⟩
        have hei : EntIn en := by rw [hen]; exact ⟨HBT.out.1, HBT.out.2, HTM.out.1.1, HTM.out.1.2, HNV.out.1.1, HNV.out.1.2⟩
        have hlab : en.lab = L := by rw [hen]
        have hLR := readS_right HRD.out
        have hcall := text_calls K a5' c5 en w9 (HE.out.1.below H9.out.1.bel) hei (by omega) (by rw [hlab]; exact H9.out.2.rd) (by rw [hlab]; have := (labRight_ok hLR).1; omega) (fun x hx => by rw [hlab] at hx; have h3 := ((labRight_ok hLR).2 x hx).2; simp only [d, Array.length_toList] at h3; have h4 : x.2.size ≤ 1024 := h3; omega)
        have HEN := Lib.hid (And.intro hen (And.intro hei (And.intro hlab hcall)))
        have hcall2 := hcall
        rw [hen] at hcall2
        clear hcall hei hlab hLR
        refine hcall2.mono ?_
        clear hcall2
        rintro e w10 ⟨rfl, hb10⟩
        rw [← hen]
        have H10 := Lib.hid (And.intro (H9.out.1.below hb10) (H9.out.2.below hb10 (Nat.le_refl _)))
        clear hb10 hen
        have x0 := block_cell H10.out.1.x 0 _ rfl
        have y0 := blk_froz H10.out.1.x 0
        have x1 := block_cell H10.out.1.x 1 _ rfl
        have y1 := blk_froz H10.out.1.x 1
        have x2 := block_cell H10.out.1.x 2 _ rfl
        have y2 := blk_froz H10.out.1.x 2
        have x3 := block_cell H10.out.1.x 3 _ rfl
        have y3 := blk_froz H10.out.1.x 3
        have x4 := block_cell H10.out.1.x 4 _ rfl
        have y4 := blk_froz H10.out.1.x 4
        have x5 := block_cell H10.out.1.x 5 _ rfl
        have y5 := blk_froz H10.out.1.x 5
        have x6 := block_cell H10.out.1.x 6 _ rfl
        have y6 := blk_froz H10.out.1.x 6
        have r0 := block_cell H10.out.1.r 0 _ rfl
        have s0 := blk_froz H10.out.1.r 0
        have r1 := block_cell H10.out.1.r 1 _ rfl
        have s1 := blk_froz H10.out.1.r 1
        have r2 := block_cell H10.out.1.r 2 _ rfl
        have s2 := blk_froz H10.out.1.r 2
        have r3 := block_cell H10.out.1.r 3 _ rfl
        have s3 := blk_froz H10.out.1.r 3
        have r4 := block_cell H10.out.1.r 4 _ rfl
        have s4 := blk_froz H10.out.1.r 4
        have r5 := block_cell H10.out.1.r 5 _ rfl
        have s5 := blk_froz H10.out.1.r 5
        have r6 := block_cell H10.out.1.r 6 _ rfl
        have s6 := blk_froz H10.out.1.r 6
        have hltx := (isT_of H10.out.1.x).lt
        have hltr := (isT_of H10.out.1.r).lt
        cases hir : itemRight (d K) en with
        | false =>
          have HN : Hid (NoText (d s) ∧ Below w.heap.size w w10) := Lib.hid ⟨(fun k en' hr hi he => by
            obtain ⟨q1, q2, q3⟩ := parse6' HW.out.1 hr hi he HNV.out.2 HBV.out HTM.out.2.1 HTM.out.2.2 HSD.out
            rw [HRD.out] at q1
            obtain rfl := Option.some.inj q1
            rw [← q2, ← HK.out, q3, ← HEN.out.1, hir] at hr
            cases hr), H10.out.1.bel⟩
          rw [show textErr (d K) en = 380 by unfold textErr; rw [hir]; rfl]
          clear hir
          go_wp2_with fail
          refine bodyPost_ret (v := .tuple #[zeroAgg, .int .i64 383]) (by simp [results, Tryz.results17, go_sem, r0, r1, r2, r3, r4, r5, r6]) rfl ⟨.inr ⟨rfl, HN.out.1⟩, ?_⟩
          iterate 7 (refine Below.setCell ?_ (by exact Nat.le_refl _) _)
          exact HN.out.2
        | true =>
          rw [show textErr (d K) en = 0 by unfold textErr; rw [hir]; rfl, show textT (d K) en = textR (d K) en by unfold textT; rw [hir]; rfl]
          obtain ⟨T, hT⟩ : ∃ T : ByteArray, T = ⟨(textR (d K) en).toArray⟩ := ⟨_, rfl⟩
          rw [← hT]
          have hTd : d T = textR (d K) en := by rw [hT]
          have HIR := Lib.hid (And.intro hir hTd)
          by_cases heq : d T = d s
          · have hq1 : (T.toList == s.toList) = true := beq_iff_eq.2 (by rw [ByteArray.toList_eq, ByteArray.toList_eq]; exact heq)
            have HQ := Lib.hid (And.intro heq H10.out.1.bel)
            clear hT hTd heq hir
            go_wp2_with fail
            refine bodyPost_ret (v := .tuple #[.agg #[.string K, .slice a5' L.length c5, .bool false, .int .u64 bt, .bool (!sd), .int .i64 tm, .int .i64 n], .int .i64 0]) (by simp [results, Tryz.results17, go_sem, r0, r1, r2, r3, r4, r5, r6]) rfl ⟨.inl ⟨K, a5', c5, en, ?_, HIR.out.1, HEN.out.2.1, HIR.out.2.symm.trans HQ.out.1, ?_, by omega⟩, ?_⟩
            · rw [HEN.out.1]
            · rw [HEN.out.2.2.1]
              refine LlX.ll (b := w.heap.size) ?_
              iterate 7 (refine LlX.set ?_ _ _)
              exact ⟨H10.out.2, _, H10.out.1.r⟩
            · iterate 7 (refine Below.setCell ?_ (by exact Nat.le_refl _) _)
              exact HQ.out.2
          · have hq1 : (T.toList == s.toList) = false := beq_eq_false_iff_ne.2 (fun e => heq (by rw [ByteArray.toList_eq, ByteArray.toList_eq] at e; exact e))
            have HN : Hid (NoText (d s) ∧ Below w.heap.size w w10) := Lib.hid ⟨(fun k en' hr hi he => by
              obtain ⟨q1, q2, q3⟩ := parse6' HW.out.1 hr hi he HNV.out.2 HBV.out HTM.out.2.1 HTM.out.2.2 HSD.out
              rw [HRD.out] at q1
              obtain rfl := Option.some.inj q1
              rw [← q2, ← HK.out, q3, ← HEN.out.1, ← hTd] at he
              exact heq he), H10.out.1.bel⟩
            clear hT hTd heq hir
            go_wp2_with fail
            refine bodyPost_ret (v := .tuple #[zeroAgg, .int .i64 383]) (by simp [results, Tryz.results17, go_sem, r0, r1, r2, r3, r4, r5, r6]) rfl ⟨.inr ⟨rfl, HN.out.1⟩, ?_⟩
            iterate 7 (refine Below.setCell ?_ (by exact Nat.le_refl _) _)
            exact HN.out.2
    · have HN := Lib.hid (noText_len h4 h6)
      obtain ⟨nw, hnw⟩ : ∃ nw, nw = (wsp s).length := ⟨_, rfl⟩
      rw [← hnw] at h4 h6 HSP
      have hq4 : ((nw : Int) != 4) = true := by simp; omega
      have hq6 : ((nw : Int) != 6) = true := by simp; omega
      clear hnw hle h4 h6
      go_enter Tryz.func17, Tryz.ntmps17
      go_wp2_with fail
      go_at_call 43
      refine HSP.out.mono ?_
      rintro e w2 ⟨rfl, rfl⟩
      go_wp2_with fail
      refine bodyPost_ret (v := .tuple #[zeroAgg, .int .i64 383]) (by simp [results, Tryz.results17, go_sem]) rfl ⟨.inr ⟨rfl, HN.out⟩, ?_⟩
      exact (((Below.refl _ _).alloc (Nat.le_refl _) _).alloc (by simp) _).alloc (by simp; omega) _
end Go.Proofs.YtmagojckhfkcdaaGreatDoor.Sk
