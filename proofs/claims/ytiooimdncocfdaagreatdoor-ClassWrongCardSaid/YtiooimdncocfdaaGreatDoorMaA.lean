/- Several parts in one text: MadP, Mad. -/
import Derived.Test.YtiooimdncocfdaaGreatDoorPlA
import Derived.Test.YtiooimdncocfdaaGreatDoorSlC
/- Plain facts on the sets that are made of small numbers: they are right, of at most 20 ranges. -/
namespace Go.Proofs.YtiooimdncocfdaaGreatDoor.Rs
abbrev Sm := Int × Int × Int
def SmOk (x : Sm) : Prop := (0 ≤ x.1 ∧ x.1 ≤ 255) ∧ (0 ≤ x.2.1 ∧ x.2.1 ≤ 255) ∧ (0 ≤ x.2.2 ∧ x.2.2 ≤ 255)
def mkLo (at_ : Int) (x : Sm) : Int := at_ + 2 + (if x.2.2 % 3 = 0 then x.1 else if x.2.2 % 3 = 1 then x.1 * 16 else x.1 * 256)
def mkR (at_ : Int) (x : Sm) : R := if mkLo at_ x < 57344 ∧ 55295 < mkLo at_ x + x.2.1 then (57344 + x.1, 57344 + x.1 + x.2.1) else (mkLo at_ x, mkLo at_ x + x.2.1)
def mkGo (at_ : Int) : List Sm → S
  | [] => []
  | x :: l => if 1114111 < (mkR at_ x).2 then [] else mkR at_ x :: mkGo (mkR at_ x).2 l
def made (l : List Sm) : S := mkGo (-2) (l.take 20)
theorem mkLo_bd {a : Int} {x : Sm} (h : SmOk x) : a + 2 ≤ mkLo a x ∧ mkLo a x ≤ a + 65282 := by
  obtain ⟨h1, h2, h3⟩ := h
  unfold mkLo
  split
  · omega
  · split <;> omega
theorem mkR_ok {a : Int} {x : Sm} (ha : -2 ≤ a) (h : SmOk x) (hh : (mkR a x).2 ≤ 1114111) : okR (mkR a x) = true ∧ a + 1 < (mkR a x).1 := by
  have hb := mkLo_bd (a := a) h
  obtain ⟨h1, h2, h3⟩ := h
  rw [okR_iff]
  unfold mkR at *
  split at hh <;> simp only at hh <;> split <;> simp only <;> omega
theorem mkGo_right : ∀ (l : List Sm) (a : Int), -2 ≤ a → (∀ x ∈ l, SmOk x) → rightA a (mkGo a l) = true
  | [], _, _, _ => rfl
  | x :: l, a, ha, hl => by
    unfold mkGo
    split
    · rfl
    · rename_i h
      have hx := mkR_ok ha (hl x (List.mem_cons_self ..)) (by omega)
      have := (okR_iff _).1 hx.1
      rw [rightA_cons]
      exact ⟨hx.1, hx.2, mkGo_right l _ (by omega) (fun y hy => hl y (List.mem_cons_of_mem _ hy))⟩
theorem mkGo_len : ∀ (l : List Sm) (a : Int), (mkGo a l).length ≤ l.length
  | [], _ => Nat.le_refl _
  | x :: l, a => by
    unfold mkGo
    split
    · simp
    · simp only [List.length_cons]
      have := mkGo_len l (mkR a x).2
      omega
theorem made_right {l : List Sm} (h : ∀ x ∈ l, SmOk x) : right (made l) = true := mkGo_right _ _ (by omega) (fun x hx => h x (List.mem_of_mem_take hx))
theorem made_len (l : List Sm) : (made l).length ≤ 20 := by
  have := mkGo_len (l.take 20) (-2)
  unfold made
  simp only [List.length_take] at this
  omega
end Go.Proofs.YtiooimdncocfdaaGreatDoor.Rs
/- Made: a right set of small numbers. -/
namespace Go.Proofs.YtiooimdncocfdaaGreatDoor
open Go.RowKit Go.Shelf

/-- A slice of triples of bytes in w that reads as l: nil only if empty. -/
structure Sm (w : World) (a : Option Addr) (cap : Nat) (l : List Rs.Sm) : Prop where
  rd : l ≠ [] → ∃ b off, a = some ⟨b, off, none⟩ ∧ b < w.heap.size ∧ ∀ (i : Nat) (r : Rs.Sm), l[i]? = some r → w.cell? ⟨b, off + i * 3, none⟩ = some (.int .u8 r.1) ∧ w.cell? ⟨b, off + i * 3 + 1, none⟩ = some (.int .u8 r.2.1) ∧ w.cell? ⟨b, off + i * 3 + 2, none⟩ = some (.int .u8 r.2.2)
  nil : a = none → l = [] ∧ cap = 0
  le : l.length ≤ cap
  ok : ∀ x ∈ l, Rs.SmOk x
theorem Sm.below {w w1 : World} {a : Option Addr} {cap : Nat} {l : List Rs.Sm} (h : Sm w a cap l) (hb : Below w.heap.size w w1) : Sm w1 a cap l := by
  refine ⟨fun hl => ?_, h.nil, h.le, h.ok⟩
  obtain ⟨b, off, rfl, h1, h2⟩ := h.rd hl
  refine ⟨b, off, rfl, by have := hb.size; omega, fun i r hr => ?_⟩
  rw [hb.cell (p := ⟨b, off + i * 3, none⟩) h1, hb.cell (p := ⟨b, off + i * 3 + 1, none⟩) h1, hb.cell (p := ⟨b, off + i * 3 + 2, none⟩) h1]
  exact h2 i r hr

def MadInv (w : World) (l : List Rs.Sm) (m : Nat) (v t i : Value) (wr : World) : Prop :=
  ∃ (k : Nat) (out : Rs.S) (at_ : Int), k ≤ m ∧ out.length = k ∧ i = .int .i64 k ∧ t = .int .i64 at_ ∧ -2 ≤ at_ ∧ at_ ≤ 1114111 ∧ Rs.made l = out ++ Rs.mkGo at_ ((l.take m).drop k) ∧ wr.ownsRow w.heap.size 27 2 v out.length (rFlat out) ∧ Below w.heap.size w wr
set_option maxRecDepth 100000 in
set_option maxHeartbeats 2000000 in
theorem Made_calls (a : Option Addr) (cap : Nat) (l : List Rs.Sm) (w : World) (hsl : Sm w a cap l) (hn : cap ≤ maxLen) :
    Calls Tryz.prog 15 #[.slice a l.length cap] w fun e w' => ∃ v, e = .returned v ∧ w'.ownsRow w.heap.size 27 2 v (Rs.made l).length (rFlat (Rs.made l)) ∧ Below w.heap.size w w' := by
  have HSL := Lib.hid hsl
  clear hsl
  obtain ⟨i0, hi0, hz0, hz1, hz2⟩ := info_parts Tryz.info27
  have hcap := HSL.out.le
  have hmx : (cap : Int) ≤ 9223372036854775807 := by unfold maxLen at hn; omega
  obtain ⟨m, hm⟩ : ∃ m, m = min l.length 20 := ⟨_, rfl⟩
  have hm1 : m ≤ 20 := by omega
  have hm2 : m ≤ l.length := by omega
  go_enter Tryz.func15, Tryz.ntmps15
  go_wp2
  have e1 : max (min (l.length : Int) 20) 0 = (m : Int) := by omega
  have e2 : (min (l.length : Int) 20).toNat = m := by omega
  simp only [e1, e2]
  have htk : l.take 20 = l.take m := by
    rcases Nat.le_total l.length 20 with h | h
    · rw [List.take_of_length_le h, List.take_of_length_le (by omega)]
    · rw [show m = 20 by omega]
  have hm3 : m = l.length ∨ m = 20 := by omega
  clear hm e1 e2
  have HTK := Lib.hid htk
  clear htk
  go_loopw [3, 4, 6, 7, 8, 15] (fun v t _ _ _ i wr => MadInv w l m v t i wr) (fun _ _ _ _ _ i _ => m - (intOf i).toNat)
  case atStart => exact ⟨0, [], -2, Nat.zero_le _, rfl, rfl, rfl, by omega, by omega, by simp only [Rs.made, HTK.out, List.nil_append, List.drop_zero], World.ownsRow_nil _ _ _ _, Below.refl _ _⟩
  case round =>
    obtain ⟨k, out, at_, hk, hok, rfl, rfl, ha1, ha2, hmd, hrow, hb⟩ := hrel
    have hbs := hb.size
    by_cases hlt : k < m
    · obtain ⟨b, off, rfl, hbl, hc⟩ := HSL.out.rd (by intro e; subst e; simp at hm2; omega)
      obtain ⟨r, hr⟩ : ∃ r, l[k]? = some r := ⟨_, List.getElem?_eq_getElem (by omega)⟩
      obtain ⟨c0, c1, c2⟩ := hc k _ hr
      rw [← hb.cell (by exact hbl)] at c0 c1 c2
      have hrr : Rs.SmOk r := HSL.out.ok _ (List.mem_of_getElem? hr)
      have hbw : b < wr.heap.size := by omega
      have hlo := Rs.mkLo_bd (a := at_) hrr
      have hdr : (l.take m).drop k = r :: (l.take m).drop (k + 1) := by
        rw [List.drop_eq_getElem_cons (by simp only [List.length_take]; omega)]
        congr 1
        rw [List.getElem_take]
        exact (List.getElem?_eq_some_iff.1 hr).2
      rw [hdr] at hmd
      obtain ⟨g, ln, fr⟩ := r
      obtain ⟨⟨o1, o2⟩, ⟨o3, o4⟩, o5, o6⟩ := hrr
      dsimp only at c0 c1 c2 o1 o2 o3 o4 o5 o6
      have HR := Lib.hid (show _ ∧ _ from ⟨hrow, hmd⟩)
      clear hr hc hrow hmd hdr hlo
      rcases (show fr % 3 = 0 ∨ fr % 3 = 1 ∨ fr % 3 = 2 by omega) with hf | hf | hf
      · obtain ⟨lo, hlo⟩ : ∃ lo, lo = (at_ + 2 + g) := ⟨_, rfl⟩
        have hml : Rs.mkLo at_ (g, ln, fr) = lo := by simp only [Rs.mkLo, hf, hlo]; rfl
        rcases (show (lo < 57344 ∧ 55295 < lo + ln) ∨ (lo < 57344 ∧ lo + ln ≤ 55295) ∨ (57344 ≤ lo ∧ lo + ln ≤ 1114111) ∨ (57344 ≤ lo ∧ 1114111 < lo + ln) by omega) with ⟨h1, h2⟩ | ⟨h1, h2⟩ | ⟨h1, h2⟩ | ⟨h1, h2⟩
        · have hmk : Rs.mkR at_ (g, ln, fr) = ((57344 + g), (57344 + g + ln)) := by simp only [Rs.mkR, hml]; rw [if_pos (show lo < 57344 ∧ 55295 < lo + ln from ⟨h1, h2⟩)]
          have hd1 : (at_ + 2 + g) < 57344 := by omega
          have hd2 : 55295 < (at_ + 2 + g) + ln := by omega
          have HM : Hid (Rs.made l = (out ++ [((57344 + g), (57344 + g + ln))]) ++ Rs.mkGo (57344 + g + ln) ((l.take m).drop (k + 1))) := Lib.hid (by rw [HR.out.2]; simp only [Rs.mkGo, hmk]; rw [if_neg (by omega)]; simp only [List.append_assoc, List.singleton_append])
          clear hmk hml
          go_wp2_with (at_builtin; refine wpList_append_own _ rfl _ _ 24 rfl w.heap.size 27 i0 (.agg #[.int .i64 0, .int .i64 0]) 2 16 Tryz.underlying24 hi0 hz0 hz1 hz2 rfl (by decide) _ _ _ rfl ((HR.out.1.alloc (.cells #[.int .u8 g, .int .u8 ln, .int .u8 fr] 115)).alloc (.cells #[.int .i64 (57344 + g), .int .i64 (57344 + g + ln)] 27)) ⟨wr.heap.size + 1, 0, none⟩ 1 1 [.int .i64 (57344 + g), .int .i64 (57344 + g + ln)] rfl rfl (cells_new (wr.alloc (.cells #[.int .u8 g, .int .u8 ln, .int .u8 fr] 115)) #[.int .i64 (57344 + g), .int .i64 (57344 + g + ln)] _ _ (by simp)) (by intro u hu; simp at hu; rcases hu with rfl | rfl <;> rfl) (by unfold maxLen; omega) (by omega) (by simp; omega) ?_; intro v' w1 hown' hgrow _;
                                        have HB := Lib.hid (show Below w.heap.size w w1 from app_end (HR.out.1.alloc _) (hb.alloc hbs _) (by simp; omega) hgrow);
                                        clear hgrow)
          go_roundw
          case rel =>
            have HI : MadInv w l m v' (.int .i64 (57344 + g + ln)) (.int .i64 ((k : Int) + 1)) w1 := ⟨k + 1, out ++ [((57344 + g), (57344 + g + ln))], _, by omega, by simp [hok], by go_num, rfl, by omega, by omega, HM.out, by simp only [List.length_append, List.length_singleton, rFlat_append]; exact hown', HB.out⟩
            exact HI
          case measure => simp [intOf]; omega
        · have hmk : Rs.mkR at_ (g, ln, fr) = ((at_ + 2 + g), (at_ + 2 + g + ln)) := by simp only [Rs.mkR, hml]; rw [if_neg (show ¬ (lo < 57344 ∧ 55295 < lo + ln) by omega), hlo]
          have hd1 : (at_ + 2 + g) < 57344 := by omega
          have hd2 : (at_ + 2 + g) + ln ≤ 55295 := by omega
          have HM : Hid (Rs.made l = (out ++ [((at_ + 2 + g), (at_ + 2 + g + ln))]) ++ Rs.mkGo (at_ + 2 + g + ln) ((l.take m).drop (k + 1))) := Lib.hid (by rw [HR.out.2]; simp only [Rs.mkGo, hmk]; rw [if_neg (by omega)]; simp only [List.append_assoc, List.singleton_append])
          clear hmk hml
          go_wp2_with (at_builtin; refine wpList_append_own _ rfl _ _ 24 rfl w.heap.size 27 i0 (.agg #[.int .i64 0, .int .i64 0]) 2 16 Tryz.underlying24 hi0 hz0 hz1 hz2 rfl (by decide) _ _ _ rfl ((HR.out.1.alloc (.cells #[.int .u8 g, .int .u8 ln, .int .u8 fr] 115)).alloc (.cells #[.int .i64 (at_ + 2 + g), .int .i64 (at_ + 2 + g + ln)] 27)) ⟨wr.heap.size + 1, 0, none⟩ 1 1 [.int .i64 (at_ + 2 + g), .int .i64 (at_ + 2 + g + ln)] rfl rfl (cells_new (wr.alloc (.cells #[.int .u8 g, .int .u8 ln, .int .u8 fr] 115)) #[.int .i64 (at_ + 2 + g), .int .i64 (at_ + 2 + g + ln)] _ _ (by simp)) (by intro u hu; simp at hu; rcases hu with rfl | rfl <;> rfl) (by unfold maxLen; omega) (by omega) (by simp; omega) ?_; intro v' w1 hown' hgrow _;
                                        have HB := Lib.hid (show Below w.heap.size w w1 from app_end (HR.out.1.alloc _) (hb.alloc hbs _) (by simp; omega) hgrow);
                                        clear hgrow)
          go_roundw
          case rel =>
            have HI : MadInv w l m v' (.int .i64 (at_ + 2 + g + ln)) (.int .i64 ((k : Int) + 1)) w1 := ⟨k + 1, out ++ [((at_ + 2 + g), (at_ + 2 + g + ln))], _, by omega, by simp [hok], by go_num, rfl, by omega, by omega, HM.out, by simp only [List.length_append, List.length_singleton, rFlat_append]; exact hown', HB.out⟩
            exact HI
          case measure => simp [intOf]; omega
        · have hmk : Rs.mkR at_ (g, ln, fr) = ((at_ + 2 + g), (at_ + 2 + g + ln)) := by simp only [Rs.mkR, hml]; rw [if_neg (show ¬ (lo < 57344 ∧ 55295 < lo + ln) by omega), hlo]
          have hd1 : 57344 ≤ (at_ + 2 + g) := by omega
          have hd2 : (at_ + 2 + g) + ln ≤ 1114111 := by omega
          have HM : Hid (Rs.made l = (out ++ [((at_ + 2 + g), (at_ + 2 + g + ln))]) ++ Rs.mkGo (at_ + 2 + g + ln) ((l.take m).drop (k + 1))) := Lib.hid (by rw [HR.out.2]; simp only [Rs.mkGo, hmk]; rw [if_neg (by omega)]; simp only [List.append_assoc, List.singleton_append])
          clear hmk hml
          go_wp2_with (at_builtin; refine wpList_append_own _ rfl _ _ 24 rfl w.heap.size 27 i0 (.agg #[.int .i64 0, .int .i64 0]) 2 16 Tryz.underlying24 hi0 hz0 hz1 hz2 rfl (by decide) _ _ _ rfl ((HR.out.1.alloc (.cells #[.int .u8 g, .int .u8 ln, .int .u8 fr] 115)).alloc (.cells #[.int .i64 (at_ + 2 + g), .int .i64 (at_ + 2 + g + ln)] 27)) ⟨wr.heap.size + 1, 0, none⟩ 1 1 [.int .i64 (at_ + 2 + g), .int .i64 (at_ + 2 + g + ln)] rfl rfl (cells_new (wr.alloc (.cells #[.int .u8 g, .int .u8 ln, .int .u8 fr] 115)) #[.int .i64 (at_ + 2 + g), .int .i64 (at_ + 2 + g + ln)] _ _ (by simp)) (by intro u hu; simp at hu; rcases hu with rfl | rfl <;> rfl) (by unfold maxLen; omega) (by omega) (by simp; omega) ?_; intro v' w1 hown' hgrow _;
                                        have HB := Lib.hid (show Below w.heap.size w w1 from app_end (HR.out.1.alloc _) (hb.alloc hbs _) (by simp; omega) hgrow);
                                        clear hgrow)
          go_roundw
          case rel =>
            have HI : MadInv w l m v' (.int .i64 (at_ + 2 + g + ln)) (.int .i64 ((k : Int) + 1)) w1 := ⟨k + 1, out ++ [((at_ + 2 + g), (at_ + 2 + g + ln))], _, by omega, by simp [hok], by go_num, rfl, by omega, by omega, HM.out, by simp only [List.length_append, List.length_singleton, rFlat_append]; exact hown', HB.out⟩
            exact HI
          case measure => simp [intOf]; omega
        · have hmk : Rs.mkR at_ (g, ln, fr) = ((at_ + 2 + g), (at_ + 2 + g + ln)) := by simp only [Rs.mkR, hml]; rw [if_neg (show ¬ (lo < 57344 ∧ 55295 < lo + ln) by omega), hlo]
          have hd1 : 57344 ≤ (at_ + 2 + g) := by omega
          have hd2 : 1114111 < (at_ + 2 + g) + ln := by omega
          have HM : Hid (Rs.made l = out) := Lib.hid (by rw [HR.out.2]; simp only [Rs.mkGo, hmk]; rw [if_pos (by omega)]; simp)
          clear hmk hml
          go_wp2
          go_ret
          exact ⟨_, rfl, by rw [HM.out]; exact HR.out.1.alloc _, hb.alloc hbs _⟩
      · obtain ⟨lo, hlo⟩ : ∃ lo, lo = (at_ + 2 + g * 16) := ⟨_, rfl⟩
        have hml : Rs.mkLo at_ (g, ln, fr) = lo := by simp only [Rs.mkLo, hf, hlo]; rfl
        rcases (show (lo < 57344 ∧ 55295 < lo + ln) ∨ (lo < 57344 ∧ lo + ln ≤ 55295) ∨ (57344 ≤ lo ∧ lo + ln ≤ 1114111) ∨ (57344 ≤ lo ∧ 1114111 < lo + ln) by omega) with ⟨h1, h2⟩ | ⟨h1, h2⟩ | ⟨h1, h2⟩ | ⟨h1, h2⟩
        · have hmk : Rs.mkR at_ (g, ln, fr) = ((57344 + g), (57344 + g + ln)) := by simp only [Rs.mkR, hml]; rw [if_pos (show lo < 57344 ∧ 55295 < lo + ln from ⟨h1, h2⟩)]
          have hd1 : (at_ + 2 + g * 16) < 57344 := by omega
          have hd2 : 55295 < (at_ + 2 + g * 16) + ln := by omega
          have HM : Hid (Rs.made l = (out ++ [((57344 + g), (57344 + g + ln))]) ++ Rs.mkGo (57344 + g + ln) ((l.take m).drop (k + 1))) := Lib.hid (by rw [HR.out.2]; simp only [Rs.mkGo, hmk]; rw [if_neg (by omega)]; simp only [List.append_assoc, List.singleton_append])
          clear hmk hml
          go_wp2_with (at_builtin; refine wpList_append_own _ rfl _ _ 24 rfl w.heap.size 27 i0 (.agg #[.int .i64 0, .int .i64 0]) 2 16 Tryz.underlying24 hi0 hz0 hz1 hz2 rfl (by decide) _ _ _ rfl ((HR.out.1.alloc (.cells #[.int .u8 g, .int .u8 ln, .int .u8 fr] 115)).alloc (.cells #[.int .i64 (57344 + g), .int .i64 (57344 + g + ln)] 27)) ⟨wr.heap.size + 1, 0, none⟩ 1 1 [.int .i64 (57344 + g), .int .i64 (57344 + g + ln)] rfl rfl (cells_new (wr.alloc (.cells #[.int .u8 g, .int .u8 ln, .int .u8 fr] 115)) #[.int .i64 (57344 + g), .int .i64 (57344 + g + ln)] _ _ (by simp)) (by intro u hu; simp at hu; rcases hu with rfl | rfl <;> rfl) (by unfold maxLen; omega) (by omega) (by simp; omega) ?_; intro v' w1 hown' hgrow _;
                                        have HB := Lib.hid (show Below w.heap.size w w1 from app_end (HR.out.1.alloc _) (hb.alloc hbs _) (by simp; omega) hgrow);
                                        clear hgrow)
          go_roundw
          case rel =>
            have HI : MadInv w l m v' (.int .i64 (57344 + g + ln)) (.int .i64 ((k : Int) + 1)) w1 := ⟨k + 1, out ++ [((57344 + g), (57344 + g + ln))], _, by omega, by simp [hok], by go_num, rfl, by omega, by omega, HM.out, by simp only [List.length_append, List.length_singleton, rFlat_append]; exact hown', HB.out⟩
            exact HI
          case measure => simp [intOf]; omega
        · have hmk : Rs.mkR at_ (g, ln, fr) = ((at_ + 2 + g * 16), (at_ + 2 + g * 16 + ln)) := by simp only [Rs.mkR, hml]; rw [if_neg (show ¬ (lo < 57344 ∧ 55295 < lo + ln) by omega), hlo]
          have hd1 : (at_ + 2 + g * 16) < 57344 := by omega
          have hd2 : (at_ + 2 + g * 16) + ln ≤ 55295 := by omega
          have HM : Hid (Rs.made l = (out ++ [((at_ + 2 + g * 16), (at_ + 2 + g * 16 + ln))]) ++ Rs.mkGo (at_ + 2 + g * 16 + ln) ((l.take m).drop (k + 1))) := Lib.hid (by rw [HR.out.2]; simp only [Rs.mkGo, hmk]; rw [if_neg (by omega)]; simp only [List.append_assoc, List.singleton_append])
          clear hmk hml
          go_wp2_with (at_builtin; refine wpList_append_own _ rfl _ _ 24 rfl w.heap.size 27 i0 (.agg #[.int .i64 0, .int .i64 0]) 2 16 Tryz.underlying24 hi0 hz0 hz1 hz2 rfl (by decide) _ _ _ rfl ((HR.out.1.alloc (.cells #[.int .u8 g, .int .u8 ln, .int .u8 fr] 115)).alloc (.cells #[.int .i64 (at_ + 2 + g * 16), .int .i64 (at_ + 2 + g * 16 + ln)] 27)) ⟨wr.heap.size + 1, 0, none⟩ 1 1 [.int .i64 (at_ + 2 + g * 16), .int .i64 (at_ + 2 + g * 16 + ln)] rfl rfl (cells_new (wr.alloc (.cells #[.int .u8 g, .int .u8 ln, .int .u8 fr] 115)) #[.int .i64 (at_ + 2 + g * 16), .int .i64 (at_ + 2 + g * 16 + ln)] _ _ (by simp)) (by intro u hu; simp at hu; rcases hu with rfl | rfl <;> rfl) (by unfold maxLen; omega) (by omega) (by simp; omega) ?_; intro v' w1 hown' hgrow _;
                                        have HB := Lib.hid (show Below w.heap.size w w1 from app_end (HR.out.1.alloc _) (hb.alloc hbs _) (by simp; omega) hgrow);
                                        clear hgrow)
          go_roundw
          case rel =>
            have HI : MadInv w l m v' (.int .i64 (at_ + 2 + g * 16 + ln)) (.int .i64 ((k : Int) + 1)) w1 := ⟨k + 1, out ++ [((at_ + 2 + g * 16), (at_ + 2 + g * 16 + ln))], _, by omega, by simp [hok], by go_num, rfl, by omega, by omega, HM.out, by simp only [List.length_append, List.length_singleton, rFlat_append]; exact hown', HB.out⟩
            exact HI
          case measure => simp [intOf]; omega
        · have hmk : Rs.mkR at_ (g, ln, fr) = ((at_ + 2 + g * 16), (at_ + 2 + g * 16 + ln)) := by simp only [Rs.mkR, hml]; rw [if_neg (show ¬ (lo < 57344 ∧ 55295 < lo + ln) by omega), hlo]
          have hd1 : 57344 ≤ (at_ + 2 + g * 16) := by omega
          have hd2 : (at_ + 2 + g * 16) + ln ≤ 1114111 := by omega
          have HM : Hid (Rs.made l = (out ++ [((at_ + 2 + g * 16), (at_ + 2 + g * 16 + ln))]) ++ Rs.mkGo (at_ + 2 + g * 16 + ln) ((l.take m).drop (k + 1))) := Lib.hid (by rw [HR.out.2]; simp only [Rs.mkGo, hmk]; rw [if_neg (by omega)]; simp only [List.append_assoc, List.singleton_append])
          clear hmk hml
          go_wp2_with (at_builtin; refine wpList_append_own _ rfl _ _ 24 rfl w.heap.size 27 i0 (.agg #[.int .i64 0, .int .i64 0]) 2 16 Tryz.underlying24 hi0 hz0 hz1 hz2 rfl (by decide) _ _ _ rfl ((HR.out.1.alloc (.cells #[.int .u8 g, .int .u8 ln, .int .u8 fr] 115)).alloc (.cells #[.int .i64 (at_ + 2 + g * 16), .int .i64 (at_ + 2 + g * 16 + ln)] 27)) ⟨wr.heap.size + 1, 0, none⟩ 1 1 [.int .i64 (at_ + 2 + g * 16), .int .i64 (at_ + 2 + g * 16 + ln)] rfl rfl (cells_new (wr.alloc (.cells #[.int .u8 g, .int .u8 ln, .int .u8 fr] 115)) #[.int .i64 (at_ + 2 + g * 16), .int .i64 (at_ + 2 + g * 16 + ln)] _ _ (by simp)) (by intro u hu; simp at hu; rcases hu with rfl | rfl <;> rfl) (by unfold maxLen; omega) (by omega) (by simp; omega) ?_; intro v' w1 hown' hgrow _;
                                        have HB := Lib.hid (show Below w.heap.size w w1 from app_end (HR.out.1.alloc _) (hb.alloc hbs _) (by simp; omega) hgrow);
                                        clear hgrow)
          go_roundw
          case rel =>
            have HI : MadInv w l m v' (.int .i64 (at_ + 2 + g * 16 + ln)) (.int .i64 ((k : Int) + 1)) w1 := ⟨k + 1, out ++ [((at_ + 2 + g * 16), (at_ + 2 + g * 16 + ln))], _, by omega, by simp [hok], by go_num, rfl, by omega, by omega, HM.out, by simp only [List.length_append, List.length_singleton, rFlat_append]; exact hown', HB.out⟩
            exact HI
          case measure => simp [intOf]; omega
        · have hmk : Rs.mkR at_ (g, ln, fr) = ((at_ + 2 + g * 16), (at_ + 2 + g * 16 + ln)) := by simp only [Rs.mkR, hml]; rw [if_neg (show ¬ (lo < 57344 ∧ 55295 < lo + ln) by omega), hlo]
          have hd1 : 57344 ≤ (at_ + 2 + g * 16) := by omega
          have hd2 : 1114111 < (at_ + 2 + g * 16) + ln := by omega
          have HM : Hid (Rs.made l = out) := Lib.hid (by rw [HR.out.2]; simp only [Rs.mkGo, hmk]; rw [if_pos (by omega)]; simp)
          clear hmk hml
          go_wp2
          go_ret
          exact ⟨_, rfl, by rw [HM.out]; exact HR.out.1.alloc _, hb.alloc hbs _⟩
      · obtain ⟨lo, hlo⟩ : ∃ lo, lo = (at_ + 2 + g * 256) := ⟨_, rfl⟩
        have hml : Rs.mkLo at_ (g, ln, fr) = lo := by simp only [Rs.mkLo, hf, hlo]; rfl
        rcases (show (lo < 57344 ∧ 55295 < lo + ln) ∨ (lo < 57344 ∧ lo + ln ≤ 55295) ∨ (57344 ≤ lo ∧ lo + ln ≤ 1114111) ∨ (57344 ≤ lo ∧ 1114111 < lo + ln) by omega) with ⟨h1, h2⟩ | ⟨h1, h2⟩ | ⟨h1, h2⟩ | ⟨h1, h2⟩
        · have hmk : Rs.mkR at_ (g, ln, fr) = ((57344 + g), (57344 + g + ln)) := by simp only [Rs.mkR, hml]; rw [if_pos (show lo < 57344 ∧ 55295 < lo + ln from ⟨h1, h2⟩)]
          have hd1 : (at_ + 2 + g * 256) < 57344 := by omega
          have hd2 : 55295 < (at_ + 2 + g * 256) + ln := by omega
          have HM : Hid (Rs.made l = (out ++ [((57344 + g), (57344 + g + ln))]) ++ Rs.mkGo (57344 + g + ln) ((l.take m).drop (k + 1))) := Lib.hid (by rw [HR.out.2]; simp only [Rs.mkGo, hmk]; rw [if_neg (by omega)]; simp only [List.append_assoc, List.singleton_append])
          clear hmk hml
          go_wp2_with (at_builtin; refine wpList_append_own _ rfl _ _ 24 rfl w.heap.size 27 i0 (.agg #[.int .i64 0, .int .i64 0]) 2 16 Tryz.underlying24 hi0 hz0 hz1 hz2 rfl (by decide) _ _ _ rfl ((HR.out.1.alloc (.cells #[.int .u8 g, .int .u8 ln, .int .u8 fr] 115)).alloc (.cells #[.int .i64 (57344 + g), .int .i64 (57344 + g + ln)] 27)) ⟨wr.heap.size + 1, 0, none⟩ 1 1 [.int .i64 (57344 + g), .int .i64 (57344 + g + ln)] rfl rfl (cells_new (wr.alloc (.cells #[.int .u8 g, .int .u8 ln, .int .u8 fr] 115)) #[.int .i64 (57344 + g), .int .i64 (57344 + g + ln)] _ _ (by simp)) (by intro u hu; simp at hu; rcases hu with rfl | rfl <;> rfl) (by unfold maxLen; omega) (by omega) (by simp; omega) ?_; intro v' w1 hown' hgrow _;
                                        have HB := Lib.hid (show Below w.heap.size w w1 from app_end (HR.out.1.alloc _) (hb.alloc hbs _) (by simp; omega) hgrow);
                                        clear hgrow)
          go_roundw
          case rel =>
            have HI : MadInv w l m v' (.int .i64 (57344 + g + ln)) (.int .i64 ((k : Int) + 1)) w1 := ⟨k + 1, out ++ [((57344 + g), (57344 + g + ln))], _, by omega, by simp [hok], by go_num, rfl, by omega, by omega, HM.out, by simp only [List.length_append, List.length_singleton, rFlat_append]; exact hown', HB.out⟩
            exact HI
          case measure => simp [intOf]; omega
        · have hmk : Rs.mkR at_ (g, ln, fr) = ((at_ + 2 + g * 256), (at_ + 2 + g * 256 + ln)) := by simp only [Rs.mkR, hml]; rw [if_neg (show ¬ (lo < 57344 ∧ 55295 < lo + ln) by omega), hlo]
          have hd1 : (at_ + 2 + g * 256) < 57344 := by omega
          have hd2 : (at_ + 2 + g * 256) + ln ≤ 55295 := by omega
          have HM : Hid (Rs.made l = (out ++ [((at_ + 2 + g * 256), (at_ + 2 + g * 256 + ln))]) ++ Rs.mkGo (at_ + 2 + g * 256 + ln) ((l.take m).drop (k + 1))) := Lib.hid (by rw [HR.out.2]; simp only [Rs.mkGo, hmk]; rw [if_neg (by omega)]; simp only [List.append_assoc, List.singleton_append])
          clear hmk hml
          go_wp2_with (at_builtin; refine wpList_append_own _ rfl _ _ 24 rfl w.heap.size 27 i0 (.agg #[.int .i64 0, .int .i64 0]) 2 16 Tryz.underlying24 hi0 hz0 hz1 hz2 rfl (by decide) _ _ _ rfl ((HR.out.1.alloc (.cells #[.int .u8 g, .int .u8 ln, .int .u8 fr] 115)).alloc (.cells #[.int .i64 (at_ + 2 + g * 256), .int .i64 (at_ + 2 + g * 256 + ln)] 27)) ⟨wr.heap.size + 1, 0, none⟩ 1 1 [.int .i64 (at_ + 2 + g * 256), .int .i64 (at_ + 2 + g * 256 + ln)] rfl rfl (cells_new (wr.alloc (.cells #[.int .u8 g, .int .u8 ln, .int .u8 fr] 115)) #[.int .i64 (at_ + 2 + g * 256), .int .i64 (at_ + 2 + g * 256 + ln)] _ _ (by simp)) (by intro u hu; simp at hu; rcases hu with rfl | rfl <;> rfl) (by unfold maxLen; omega) (by omega) (by simp; omega) ?_; intro v' w1 hown' hgrow _;
                                        have HB := Lib.hid (show Below w.heap.size w w1 from app_end (HR.out.1.alloc _) (hb.alloc hbs _) (by simp; omega) hgrow);
                                        clear hgrow)
          go_roundw
          case rel =>
            have HI : MadInv w l m v' (.int .i64 (at_ + 2 + g * 256 + ln)) (.int .i64 ((k : Int) + 1)) w1 := ⟨k + 1, out ++ [((at_ + 2 + g * 256), (at_ + 2 + g * 256 + ln))], _, by omega, by simp [hok], by go_num, rfl, by omega, by omega, HM.out, by simp only [List.length_append, List.length_singleton, rFlat_append]; exact hown', HB.out⟩
            exact HI
          case measure => simp [intOf]; omega
        · have hmk : Rs.mkR at_ (g, ln, fr) = ((at_ + 2 + g * 256), (at_ + 2 + g * 256 + ln)) := by simp only [Rs.mkR, hml]; rw [if_neg (show ¬ (lo < 57344 ∧ 55295 < lo + ln) by omega), hlo]
          have hd1 : 57344 ≤ (at_ + 2 + g * 256) := by omega
          have hd2 : (at_ + 2 + g * 256) + ln ≤ 1114111 := by omega
          have HM : Hid (Rs.made l = (out ++ [((at_ + 2 + g * 256), (at_ + 2 + g * 256 + ln))]) ++ Rs.mkGo (at_ + 2 + g * 256 + ln) ((l.take m).drop (k + 1))) := Lib.hid (by rw [HR.out.2]; simp only [Rs.mkGo, hmk]; rw [if_neg (by omega)]; simp only [List.append_assoc, List.singleton_append])
          clear hmk hml
          go_wp2_with (at_builtin; refine wpList_append_own _ rfl _ _ 24 rfl w.heap.size 27 i0 (.agg #[.int .i64 0, .int .i64 0]) 2 16 Tryz.underlying24 hi0 hz0 hz1 hz2 rfl (by decide) _ _ _ rfl ((HR.out.1.alloc (.cells #[.int .u8 g, .int .u8 ln, .int .u8 fr] 115)).alloc (.cells #[.int .i64 (at_ + 2 + g * 256), .int .i64 (at_ + 2 + g * 256 + ln)] 27)) ⟨wr.heap.size + 1, 0, none⟩ 1 1 [.int .i64 (at_ + 2 + g * 256), .int .i64 (at_ + 2 + g * 256 + ln)] rfl rfl (cells_new (wr.alloc (.cells #[.int .u8 g, .int .u8 ln, .int .u8 fr] 115)) #[.int .i64 (at_ + 2 + g * 256), .int .i64 (at_ + 2 + g * 256 + ln)] _ _ (by simp)) (by intro u hu; simp at hu; rcases hu with rfl | rfl <;> rfl) (by unfold maxLen; omega) (by omega) (by simp; omega) ?_; intro v' w1 hown' hgrow _;
                                        have HB := Lib.hid (show Below w.heap.size w w1 from app_end (HR.out.1.alloc _) (hb.alloc hbs _) (by simp; omega) hgrow);
                                        clear hgrow)
          go_roundw
          case rel =>
            have HI : MadInv w l m v' (.int .i64 (at_ + 2 + g * 256 + ln)) (.int .i64 ((k : Int) + 1)) w1 := ⟨k + 1, out ++ [((at_ + 2 + g * 256), (at_ + 2 + g * 256 + ln))], _, by omega, by simp [hok], by go_num, rfl, by omega, by omega, HM.out, by simp only [List.length_append, List.length_singleton, rFlat_append]; exact hown', HB.out⟩
            exact HI
          case measure => simp [intOf]; omega
        · have hmk : Rs.mkR at_ (g, ln, fr) = ((at_ + 2 + g * 256), (at_ + 2 + g * 256 + ln)) := by simp only [Rs.mkR, hml]; rw [if_neg (show ¬ (lo < 57344 ∧ 55295 < lo + ln) by omega), hlo]
          have hd1 : 57344 ≤ (at_ + 2 + g * 256) := by omega
          have hd2 : 1114111 < (at_ + 2 + g * 256) + ln := by omega
          have HM : Hid (Rs.made l = out) := Lib.hid (by rw [HR.out.2]; simp only [Rs.mkGo, hmk]; rw [if_pos (by omega)]; simp)
          clear hmk hml
          go_wp2
          go_ret
          exact ⟨_, rfl, by rw [HM.out]; exact HR.out.1.alloc _, hb.alloc hbs _⟩
    · have HM : Hid (Rs.made l = out) := Lib.hid (by rw [hmd, List.drop_of_length_le (by simp only [List.length_take]; omega)]; simp [Rs.mkGo])
      have HR := Lib.hid hrow
      clear hmd hrow
      go_wp2
      go_ret
      exact ⟨_, rfl, by rw [HM.out]; exact HR.out, hb⟩
end Go.Proofs.YtiooimdncocfdaaGreatDoor
