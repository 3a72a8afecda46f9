/- Texts of the claim, put together: KRc. -/
import Derived.Test.YtdgfldeeflmnmaaGreatDoorSKxA
import Derived.Test.YtdgfldeeflmnmaaGreatDoorSKpA
namespace Go.Proofs.YtdgfldeeflmnmaaGreatDoor.Sk
open Go Go.RowKit
set_option maxRecDepth 100000 in
theorem pointG_calls (x : Int) (w : World) : Calls Tryz.prog 219 #[.int .i64 x] w fun e w' => e = .returned (.bool (pointB x)) ∧ w = w' := by
  rcases (show x < 0 ∨ (0 ≤ x ∧ x < 55296) ∨ (55296 ≤ x ∧ x ≤ 57343) ∨ (57343 < x ∧ x < 1114112) ∨ 1114112 ≤ x by omega) with h | h | h | h | h
  · have HP : Hid (pointB x = false) := Lib.hid (by unfold pointB; simp; omega)
    have f1 : decide (0 ≤ x) = false := by simp; omega
    have f2 : decide (x < 55296) = true := by simp; omega
    have f3 : decide (57343 < x) = false := by simp; omega
    have f4 : decide (x < 1114112) = true := by simp; omega
    clear h
    go_enter Tryz.func219, Tryz.ntmps219
    go_wp2
    go_ret
    exact ⟨ret_bool HP.out.symm, rfl⟩
  · have HP : Hid (pointB x = true) := Lib.hid (by unfold pointB; simp; omega)
    have f1 : decide (0 ≤ x) = true := by simp; omega
    have f2 : decide (x < 55296) = true := by simp; omega
    have f3 : decide (57343 < x) = false := by simp; omega
    have f4 : decide (x < 1114112) = true := by simp; omega
    clear h
    go_enter Tryz.func219, Tryz.ntmps219
    go_wp2
    go_ret
    exact ⟨ret_bool HP.out.symm, rfl⟩
  · have HP : Hid (pointB x = false) := Lib.hid (by unfold pointB; simp; omega)
    have f1 : decide (0 ≤ x) = true := by simp; omega
    have f2 : decide (x < 55296) = false := by simp; omega
    have f3 : decide (57343 < x) = false := by simp; omega
    have f4 : decide (x < 1114112) = true := by simp; omega
    clear h
    go_enter Tryz.func219, Tryz.ntmps219
    go_wp2
    go_ret
    exact ⟨ret_bool HP.out.symm, rfl⟩
  · have HP : Hid (pointB x = true) := Lib.hid (by unfold pointB; simp; omega)
    have f1 : decide (0 ≤ x) = true := by simp; omega
    have f2 : decide (x < 55296) = false := by simp; omega
    have f3 : decide (57343 < x) = true := by simp; omega
    have f4 : decide (x < 1114112) = true := by simp; omega
    clear h
    go_enter Tryz.func219, Tryz.ntmps219
    go_wp2
    go_ret
    exact ⟨ret_bool HP.out.symm, rfl⟩
  · have HP : Hid (pointB x = false) := Lib.hid (by unfold pointB; simp; omega)
    have f1 : decide (0 ≤ x) = true := by simp; omega
    have f2 : decide (x < 55296) = false := by simp; omega
    have f3 : decide (57343 < x) = true := by simp; omega
    have f4 : decide (x < 1114112) = false := by simp; omega
    clear h
    go_enter Tryz.func219, Tryz.ntmps219
    go_wp2
    go_ret
    exact ⟨ret_bool HP.out.symm, rfl⟩
def formV (x : Int) : List Value := (formN x).map fun i => .int .u8 i
theorem form_conv (x : Int) (h0 : 0 ≤ x) (h1 : x < 1114112) (w : World) :
    (convert 115 9 (.slice (some ⟨w.heap.size, 0, none⟩) (formN x).length (formN x).length)).run Tryz.prog (w.alloc (.cells (formV x).toArray 5)) = .ok (.string ⟨(formB x).toArray⟩) (w.alloc (.cells (formV x).toArray 5)) := by
  have hl : (formN x).length = (formB x).length := by unfold formB; simp
  rw [hl]
  refine run_convert_bytes_back (P := Tryz.prog) _ 115 9 5 ⟨w.heap.size, 0, none⟩ _ (formB x) Tryz.underlying115 Tryz.underlying5 Tryz.underlying9 (fun j hj => ?_)
  rw [Addr.add_lit, Nat.zero_add]
  refine new_cell w _ _ j _ ?_
  have e := natsB_formB h0 h1
  rw [List.getElem?_toArray]
  unfold formV
  rw [← e]
  unfold natsB
  rw [List.getElem?_map, List.getElem?_map, List.getElem?_eq_getElem hj]
  rfl
/-- a slice of the form's bytes, and the string that they are -/
def FmPost (x : Int) (w : World) (e : Ending) (w' : World) : Prop :=
  ∃ g n : Nat, e = .returned (.slice (some ⟨g, 0, none⟩) n n) ∧ (convert 115 9 (.slice (some ⟨g, 0, none⟩) n n)).run Tryz.prog w' = .ok (.string ⟨(formB x).toArray⟩) w' ∧ Below w.heap.size w w'
theorem FmPost.mk {x : Int} (h0 : 0 ≤ x) (h1 : x < 1114112) (w : World) {e : Ending} {w' : World} (he : e = .returned (.slice (some ⟨w.heap.size, 0, none⟩) (formN x).length (formN x).length)) (hw : w' = w.alloc (.cells (formV x).toArray 5)) : FmPost x w e w' := by
  subst hw
  exact ⟨_, _, he, form_conv x h0 h1 w, (Below.refl _ _).alloc (Nat.le_refl _) _⟩
set_option maxRecDepth 100000 in
theorem formG_calls (x : Int) (h0 : 0 ≤ x) (h1 : x < 1114112) (w : World) : Calls Tryz.prog 220 #[.int .i64 x] w (FmPost x w) := by
  have d1 : x.tdiv 64 = x / 64 := Int.tdiv_eq_ediv_of_nonneg h0
  have d2 : x.tdiv 4096 = x / 4096 := Int.tdiv_eq_ediv_of_nonneg h0
  have d3 : x.tdiv 262144 = x / 262144 := Int.tdiv_eq_ediv_of_nonneg h0
  have d4 : x.tmod 64 = x % 64 := Int.tmod_eq_emod_of_nonneg h0
  have d5 : (x / 64).tmod 64 = x / 64 % 64 := Int.tmod_eq_emod_of_nonneg (by omega)
  have d6 : (x / 4096).tmod 64 = x / 4096 % 64 := Int.tmod_eq_emod_of_nonneg (by omega)
  rcases (show x < 128 ∨ (128 ≤ x ∧ x < 2048) ∨ (2048 ≤ x ∧ x < 65536) ∨ 65536 ≤ x by omega) with h | ⟨h, h'⟩ | ⟨h, h'⟩ | h
  · have HF : Hid (formN x = [x]) := Lib.hid (by unfold formN; rw [if_pos h])
    have e1 : IntKind.u8.wrap x = x := by rw [IntKind.wrap_u8]; omega
    have f1 : decide (x < 128) = true := by simp; omega
    have f2 : decide (x < 2048) = true := by simp; omega
    have f3 : decide (x < 65536) = true := by simp; omega
    go_enter Tryz.func220, Tryz.ntmps220
    go_wp2
    go_ret
    exact FmPost.mk h0 h1 w (by rw [HF.out]; rfl) (by unfold formV; rw [HF.out]; rfl)
  · have HF : Hid (formN x = [192 + x / 64, 128 + x % 64]) := Lib.hid (by unfold formN; rw [if_neg (by omega), if_pos h'])
    have e1 : IntKind.u8.wrap (192 + x / 64) = 192 + x / 64 := by rw [IntKind.wrap_u8]; omega
    have e2 : IntKind.u8.wrap (128 + x % 64) = 128 + x % 64 := by rw [IntKind.wrap_u8]; omega
    have f1 : decide (x < 128) = false := by simp; omega
    have f2 : decide (x < 2048) = true := by simp; omega
    have f3 : decide (x < 65536) = true := by simp; omega
    go_enter Tryz.func220, Tryz.ntmps220
    go_wp2
    go_ret
    exact FmPost.mk h0 h1 w (by rw [HF.out]; rfl) (by unfold formV; rw [HF.out]; rfl)
  · have HF : Hid (formN x = [224 + x / 4096, 128 + x / 64 % 64, 128 + x % 64]) := Lib.hid (by unfold formN; rw [if_neg (by omega), if_neg (by omega), if_pos h'])
    have e1 : IntKind.u8.wrap (224 + x / 4096) = 224 + x / 4096 := by rw [IntKind.wrap_u8]; omega
    have e2 : IntKind.u8.wrap (128 + x / 64 % 64) = 128 + x / 64 % 64 := by rw [IntKind.wrap_u8]; omega
    have e3 : IntKind.u8.wrap (128 + x % 64) = 128 + x % 64 := by rw [IntKind.wrap_u8]; omega
    have f1 : decide (x < 128) = false := by simp; omega
    have f2 : decide (x < 2048) = false := by simp; omega
    have f3 : decide (x < 65536) = true := by simp; omega
    go_enter Tryz.func220, Tryz.ntmps220
    go_wp2
    go_ret
    exact FmPost.mk h0 h1 w (by rw [HF.out]; rfl) (by unfold formV; rw [HF.out]; rfl)
  · have HF : Hid (formN x = [240 + x / 262144, 128 + x / 4096 % 64, 128 + x / 64 % 64, 128 + x % 64]) := Lib.hid (by unfold formN; rw [if_neg (by omega), if_neg (by omega), if_neg (by omega)])
    have e0 : IntKind.u8.wrap (240 + x / 262144) = 240 + x / 262144 := by rw [IntKind.wrap_u8]; omega
    have e1 : IntKind.u8.wrap (128 + x / 4096 % 64) = 128 + x / 4096 % 64 := by rw [IntKind.wrap_u8]; omega
    have e2 : IntKind.u8.wrap (128 + x / 64 % 64) = 128 + x / 64 % 64 := by rw [IntKind.wrap_u8]; omega
    have e3 : IntKind.u8.wrap (128 + x % 64) = 128 + x % 64 := by rw [IntKind.wrap_u8]; omega
    have f1 : decide (x < 128) = false := by simp; omega
    have f2 : decide (x < 2048) = false := by simp; omega
    have f3 : decide (x < 65536) = false := by simp; omega
    go_enter Tryz.func220, Tryz.ntmps220
    go_wp2
    go_ret
    exact FmPost.mk h0 h1 w (by rw [HF.out]; rfl) (by unfold formV; rw [HF.out]; rfl)
/-- behind the sum: the number is a code point whose form the string is, or not -/
def VrPost (s : ByteArray) (w : World) (e : Ending) (w' : World) : Prop := e = .returned (.int .i64 (valR (d s))) ∧ Below w.heap.size w w'
set_option maxRecDepth 100000 in
set_option maxHeartbeats 2000000 in
theorem valueG1_calls (s : ByteArray) (hn : s.size = 1) (w : World) : Calls Tryz.prog 203 #[.string s] w (VrPost s w) := by
  have hz : (s.size : Int) = 1 := by omega
  have p0 : 0 < s.size := by omega
  have b0 : s[0].toNat < 256 := s[0].toNat_lt
  have hd4 : d s = [s[0]] := by
    refine List.ext_getElem? fun i => ?_
    rcases (show i = 0 ∨ 1 ≤ i by omega) with rfl | h
    · exact data_at s 0 p0
    · rw [List.getElem?_eq_none (by simp; omega), List.getElem?_eq_none (by simp; omega)]
  obtain ⟨x, hx⟩ : ∃ x : Int, x = (s[0].toNat : Int) := ⟨_, rfl⟩
  have hnum : numB (d s) = x := by rw [hd4, hx]; rfl
  have v0 : IntKind.i64.wrap ((s[0].toNat : Int)) = (s[0].toNat : Int) := by rw [IntKind.wrap_i64]; omega
  have HX := Lib.hid (And.intro hx hnum)
  clear hd4 hnum
  by_cases hp : pointB x = true
  · obtain ⟨x0, x1⟩ := pointB_range hp
    have hif : isForm (d s) = decide (formB x = d s) := by have := isForm_point (s := d s) (by rw [HX.out.2]; exact hp); rw [HX.out.2] at this; exact this
    have HP := Lib.hid hp
    have HI := Lib.hid hif
    clear hif hp
    go_enter Tryz.func203, Tryz.ntmps203
    go_wp2_with fail
    go_at_call 219
    rw [← hx]
    refine (pointG_calls x _).mono ?_
    rintro e w1 ⟨rfl, rfl⟩
    rw [HP.out]
    clear hx
    go_wp2_with fail
    go_at_call 220
    refine (formG_calls x x0 x1 _).mono ?_
    rintro e w1 ⟨g, n, rfl, hcv, hb⟩
    have HB : Hid (Below w.heap.size w w1) := Lib.hid (hb)
    clear hb
    by_cases he : formB x = d s
    · have hq : (formB x == s.toList) = true := by rw [ByteArray.toList_eq]; simpa using he
      have HV : Hid (valR (d s) = x) := Lib.hid (by unfold valR; rw [HI.out, decide_eq_true he, HX.out.2]; rfl)
      clear he
      go_wp2
      go_ret
      exact ⟨ret_int HV.out.symm, HB.out⟩
    · have hq : (formB x == s.toList) = false := by rw [ByteArray.toList_eq, beq_eq_false_iff_ne]; simpa using he
      have HV : Hid (valR (d s) = -1) := Lib.hid (by unfold valR; rw [HI.out, decide_eq_false he]; rfl)
      clear he
      go_wp2
      go_ret
      exact ⟨ret_int HV.out.symm, HB.out⟩
  · have hp' : pointB x = false := by simpa using hp
    have HP := Lib.hid hp'
    have HV : Hid (valR (d s) = -1) := Lib.hid (by unfold valR isForm; rw [HX.out.2, hp']; rfl)
    clear hp hp'
    go_enter Tryz.func203, Tryz.ntmps203
    go_wp2_with fail
    go_at_call 219
    rw [← hx]
    refine (pointG_calls x _).mono ?_
    rintro e w1 ⟨rfl, rfl⟩
    rw [HP.out]
    clear hx
    go_wp2
    go_ret
    exact ⟨ret_int HV.out.symm, Below.refl _ _⟩
set_option maxRecDepth 100000 in
set_option maxHeartbeats 2000000 in
theorem valueG2_calls (s : ByteArray) (hn : s.size = 2) (w : World) : Calls Tryz.prog 203 #[.string s] w (VrPost s w) := by
  have hz : (s.size : Int) = 2 := by omega
  have p0 : 0 < s.size := by omega
  have p1 : 1 < s.size := by omega
  have b0 : s[0].toNat < 256 := s[0].toNat_lt
  have b1 : s[1].toNat < 256 := s[1].toNat_lt
  have hd4 : d s = [s[0], s[1]] := by
    refine List.ext_getElem? fun i => ?_
    rcases (show i = 0 ∨ i = 1 ∨ 2 ≤ i by omega) with rfl | rfl | h
    · exact data_at s 0 p0
    · exact data_at s 1 p1
    · rw [List.getElem?_eq_none (by simp; omega), List.getElem?_eq_none (by simp; omega)]
  obtain ⟨x, hx⟩ : ∃ x : Int, x = (64 : Int) * ((s[0].toNat : Int) - (192 : Int)) + (s[1].toNat : Int) - (128 : Int) := ⟨_, rfl⟩
  have hnum : numB (d s) = x := by rw [hd4, hx]; rfl
  have v0 : IntKind.i64.wrap ((s[0].toNat : Int)) = (s[0].toNat : Int) := by rw [IntKind.wrap_i64]; omega
  have v1 : IntKind.i64.wrap ((s[1].toNat : Int)) = (s[1].toNat : Int) := by rw [IntKind.wrap_i64]; omega
  have u0 : IntKind.i64.wrap ((s[0].toNat : Int) - 192) = (s[0].toNat : Int) - 192 := by rw [IntKind.wrap_i64]; omega
  have u1 : IntKind.i64.wrap (64 * ((s[0].toNat : Int) - 192)) = 64 * ((s[0].toNat : Int) - 192) := by rw [IntKind.wrap_i64]; omega
  have z1 : IntKind.i64.wrap (64 * ((s[0].toNat : Int) - 192) + (s[1].toNat : Int)) = 64 * ((s[0].toNat : Int) - 192) + (s[1].toNat : Int) := by rw [IntKind.wrap_i64]; omega
  have zz : IntKind.i64.wrap (64 * ((s[0].toNat : Int) - 192) + (s[1].toNat : Int) - 128) = 64 * ((s[0].toNat : Int) - 192) + (s[1].toNat : Int) - 128 := by rw [IntKind.wrap_i64]; omega
  have HX := Lib.hid (And.intro hx hnum)
  clear hd4 hnum
  by_cases hp : pointB x = true
  · obtain ⟨x0, x1⟩ := pointB_range hp
    have hif : isForm (d s) = decide (formB x = d s) := by have := isForm_point (s := d s) (by rw [HX.out.2]; exact hp); rw [HX.out.2] at this; exact this
    have HP := Lib.hid hp
    have HI := Lib.hid hif
    clear hif hp
    go_enter Tryz.func203, Tryz.ntmps203
    go_wp2_with fail
    go_quiet (fail)
    go_wp2_with fail
    go_at_call 219
    rw [← hx]
    refine (pointG_calls x _).mono ?_
    rintro e w1 ⟨rfl, rfl⟩
    rw [HP.out]
    clear hx
    go_wp2_with fail
    go_at_call 220
    refine (formG_calls x x0 x1 _).mono ?_
    rintro e w1 ⟨g, n, rfl, hcv, hb⟩
    have HB : Hid (Below w.heap.size w w1) := Lib.hid ((below_drewN (Below.refl w.heap.size w) _).trans (hb.mono (by simp)))
    clear hb
    by_cases he : formB x = d s
    · have hq : (formB x == s.toList) = true := by rw [ByteArray.toList_eq]; simpa using he
      have HV : Hid (valR (d s) = x) := Lib.hid (by unfold valR; rw [HI.out, decide_eq_true he, HX.out.2]; rfl)
      clear he
      go_wp2
      go_ret
      exact ⟨ret_int HV.out.symm, HB.out⟩
    · have hq : (formB x == s.toList) = false := by rw [ByteArray.toList_eq, beq_eq_false_iff_ne]; simpa using he
      have HV : Hid (valR (d s) = -1) := Lib.hid (by unfold valR; rw [HI.out, decide_eq_false he]; rfl)
      clear he
      go_wp2
      go_ret
      exact ⟨ret_int HV.out.symm, HB.out⟩
  · have hp' : pointB x = false := by simpa using hp
    have HP := Lib.hid hp'
    have HV : Hid (valR (d s) = -1) := Lib.hid (by unfold valR isForm; rw [HX.out.2, hp']; rfl)
    clear hp hp'
    go_enter Tryz.func203, Tryz.ntmps203
    go_wp2_with fail
    go_quiet (fail)
    go_wp2_with fail
    go_at_call 219
    rw [← hx]
    refine (pointG_calls x _).mono ?_
    rintro e w1 ⟨rfl, rfl⟩
    rw [HP.out]
    clear hx
    go_wp2
    go_ret
    exact ⟨ret_int HV.out.symm, below_drewN (Below.refl _ _) _⟩
set_option maxRecDepth 100000 in
set_option maxHeartbeats 2000000 in
theorem valueG3_calls (s : ByteArray) (hn : s.size = 3) (w : World) : Calls Tryz.prog 203 #[.string s] w (VrPost s w) := by
  have hz : (s.size : Int) = 3 := by omega
  have p0 : 0 < s.size := by omega
  have p1 : 1 < s.size := by omega
  have p2 : 2 < s.size := by omega
  have b0 : s[0].toNat < 256 := s[0].toNat_lt
  have b1 : s[1].toNat < 256 := s[1].toNat_lt
  have b2 : s[2].toNat < 256 := s[2].toNat_lt
  have hd4 : d s = [s[0], s[1], s[2]] := by
    refine List.ext_getElem? fun i => ?_
    rcases (show i = 0 ∨ i = 1 ∨ i = 2 ∨ 3 ≤ i by omega) with rfl | rfl | rfl | h
    · exact data_at s 0 p0
    · exact data_at s 1 p1
    · exact data_at s 2 p2
    · rw [List.getElem?_eq_none (by simp; omega), List.getElem?_eq_none (by simp; omega)]
  obtain ⟨x, hx⟩ : ∃ x : Int, x = (4096 : Int) * ((s[0].toNat : Int) - (224 : Int)) + (64 : Int) * ((s[1].toNat : Int) - (128 : Int)) + (s[2].toNat : Int) - (128 : Int) := ⟨_, rfl⟩
  have hnum : numB (d s) = x := by rw [hd4, hx]; rfl
  have v0 : IntKind.i64.wrap ((s[0].toNat : Int)) = (s[0].toNat : Int) := by rw [IntKind.wrap_i64]; omega
  have v1 : IntKind.i64.wrap ((s[1].toNat : Int)) = (s[1].toNat : Int) := by rw [IntKind.wrap_i64]; omega
  have v2 : IntKind.i64.wrap ((s[2].toNat : Int)) = (s[2].toNat : Int) := by rw [IntKind.wrap_i64]; omega
  have u0 : IntKind.i64.wrap ((s[0].toNat : Int) - 224) = (s[0].toNat : Int) - 224 := by rw [IntKind.wrap_i64]; omega
  have u1 : IntKind.i64.wrap (4096 * ((s[0].toNat : Int) - 224)) = 4096 * ((s[0].toNat : Int) - 224) := by rw [IntKind.wrap_i64]; omega
  have x1 : IntKind.i64.wrap ((s[1].toNat : Int) - 128) = (s[1].toNat : Int) - 128 := by rw [IntKind.wrap_i64]; omega
  have y1 : IntKind.i64.wrap (64 * ((s[1].toNat : Int) - 128)) = 64 * ((s[1].toNat : Int) - 128) := by rw [IntKind.wrap_i64]; omega
  have z1 : IntKind.i64.wrap (4096 * ((s[0].toNat : Int) - 224) + 64 * ((s[1].toNat : Int) - 128)) = 4096 * ((s[0].toNat : Int) - 224) + 64 * ((s[1].toNat : Int) - 128) := by rw [IntKind.wrap_i64]; omega
  have z2 : IntKind.i64.wrap (4096 * ((s[0].toNat : Int) - 224) + 64 * ((s[1].toNat : Int) - 128) + (s[2].toNat : Int)) = 4096 * ((s[0].toNat : Int) - 224) + 64 * ((s[1].toNat : Int) - 128) + (s[2].toNat : Int) := by rw [IntKind.wrap_i64]; omega
  have zz : IntKind.i64.wrap (4096 * ((s[0].toNat : Int) - 224) + 64 * ((s[1].toNat : Int) - 128) + (s[2].toNat : Int) - 128) = 4096 * ((s[0].toNat : Int) - 224) + 64 * ((s[1].toNat : Int) - 128) + (s[2].toNat : Int) - 128 := by rw [IntKind.wrap_i64]; omega
  have HX := Lib.hid (And.intro hx hnum)
  clear hd4 hnum
  by_cases hp : pointB x = true
  · obtain ⟨x0, x1⟩ := pointB_range hp
    have hif : isForm (d s) = decide (formB x = d s) := by have := isForm_point (s := d s) (by rw [HX.out.2]; exact hp); rw [HX.out.2] at this; exact this
    have HP := Lib.hid hp
    have HI := Lib.hid hif
    clear hif hp
    go_enter Tryz.func203, Tryz.ntmps203
    go_wp2_with fail
    go_quiet (fail)
    go_wp2_with fail
    go_at_call 219
    rw [← hx]
    refine (pointG_calls x _).mono ?_
    rintro e w1 ⟨rfl, rfl⟩
    rw [HP.out]
    clear hx
    go_wp2_with fail
    go_at_call 220
    refine (formG_calls x x0 x1 _).mono ?_
    rintro e w1 ⟨g, n, rfl, hcv, hb⟩
    have HB : Hid (Below w.heap.size w w1) := Lib.hid ((below_drewN (Below.refl w.heap.size w) _).trans (hb.mono (by simp)))
    clear hb
    by_cases he : formB x = d s
    · have hq : (formB x == s.toList) = true := by rw [ByteArray.toList_eq]; simpa using he
      have HV : Hid (valR (d s) = x) := Lib.hid (by unfold valR; rw [HI.out, decide_eq_true he, HX.out.2]; rfl)
      clear he
      go_wp2
      go_ret
      exact ⟨ret_int HV.out.symm, HB.out⟩
    · have hq : (formB x == s.toList) = false := by rw [ByteArray.toList_eq, beq_eq_false_iff_ne]; simpa using he
      have HV : Hid (valR (d s) = -1) := Lib.hid (by unfold valR; rw [HI.out, decide_eq_false he]; rfl)
      clear he
      go_wp2
      go_ret
      exact ⟨ret_int HV.out.symm, HB.out⟩
  · have hp' : pointB x = false := by simpa using hp
    have HP := Lib.hid hp'
    have HV : Hid (valR (d s) = -1) := Lib.hid (by unfold valR isForm; rw [HX.out.2, hp']; rfl)
    clear hp hp'
    go_enter Tryz.func203, Tryz.ntmps203
    go_wp2_with fail
    go_quiet (fail)
    go_wp2_with fail
    go_at_call 219
    rw [← hx]
    refine (pointG_calls x _).mono ?_
    rintro e w1 ⟨rfl, rfl⟩
    rw [HP.out]
    clear hx
    go_wp2
    go_ret
    exact ⟨ret_int HV.out.symm, below_drewN (Below.refl _ _) _⟩
set_option maxRecDepth 100000 in
set_option maxHeartbeats 2000000 in
theorem valueG4_calls (s : ByteArray) (hn : s.size = 4) (w : World) : Calls Tryz.prog 203 #[.string s] w (VrPost s w) := by
  have hz : (s.size : Int) = 4 := by omega
  have p0 : 0 < s.size := by omega
  have p1 : 1 < s.size := by omega
  have p2 : 2 < s.size := by omega
  have p3 : 3 < s.size := by omega
  have b0 : s[0].toNat < 256 := s[0].toNat_lt
  have b1 : s[1].toNat < 256 := s[1].toNat_lt
  have b2 : s[2].toNat < 256 := s[2].toNat_lt
  have b3 : s[3].toNat < 256 := s[3].toNat_lt
  have hd4 : d s = [s[0], s[1], s[2], s[3]] := by
    refine List.ext_getElem? fun i => ?_
    rcases (show i = 0 ∨ i = 1 ∨ i = 2 ∨ i = 3 ∨ 4 ≤ i by omega) with rfl | rfl | rfl | rfl | h
    · exact data_at s 0 p0
    · exact data_at s 1 p1
    · exact data_at s 2 p2
    · exact data_at s 3 p3
    · rw [List.getElem?_eq_none (by simp; omega), List.getElem?_eq_none (by simp; omega)]
  obtain ⟨x, hx⟩ : ∃ x : Int, x = (262144 : Int) * ((s[0].toNat : Int) - (240 : Int)) + (4096 : Int) * ((s[1].toNat : Int) - (128 : Int)) + (64 : Int) * ((s[2].toNat : Int) - (128 : Int)) + (s[3].toNat : Int) - (128 : Int) := ⟨_, rfl⟩
  have hnum : numB (d s) = x := by rw [hd4, hx]; rfl
  have v0 : IntKind.i64.wrap ((s[0].toNat : Int)) = (s[0].toNat : Int) := by rw [IntKind.wrap_i64]; omega
  have v1 : IntKind.i64.wrap ((s[1].toNat : Int)) = (s[1].toNat : Int) := by rw [IntKind.wrap_i64]; omega
  have v2 : IntKind.i64.wrap ((s[2].toNat : Int)) = (s[2].toNat : Int) := by rw [IntKind.wrap_i64]; omega
  have v3 : IntKind.i64.wrap ((s[3].toNat : Int)) = (s[3].toNat : Int) := by rw [IntKind.wrap_i64]; omega
  have u0 : IntKind.i64.wrap ((s[0].toNat : Int) - 240) = (s[0].toNat : Int) - 240 := by rw [IntKind.wrap_i64]; omega
  have u1 : IntKind.i64.wrap (262144 * ((s[0].toNat : Int) - 240)) = 262144 * ((s[0].toNat : Int) - 240) := by rw [IntKind.wrap_i64]; omega
  have x1 : IntKind.i64.wrap ((s[1].toNat : Int) - 128) = (s[1].toNat : Int) - 128 := by rw [IntKind.wrap_i64]; omega
  have y1 : IntKind.i64.wrap (4096 * ((s[1].toNat : Int) - 128)) = 4096 * ((s[1].toNat : Int) - 128) := by rw [IntKind.wrap_i64]; omega
  have z1 : IntKind.i64.wrap (262144 * ((s[0].toNat : Int) - 240) + 4096 * ((s[1].toNat : Int) - 128)) = 262144 * ((s[0].toNat : Int) - 240) + 4096 * ((s[1].toNat : Int) - 128) := by rw [IntKind.wrap_i64]; omega
  have x2 : IntKind.i64.wrap ((s[2].toNat : Int) - 128) = (s[2].toNat : Int) - 128 := by rw [IntKind.wrap_i64]; omega
  have y2 : IntKind.i64.wrap (64 * ((s[2].toNat : Int) - 128)) = 64 * ((s[2].toNat : Int) - 128) := by rw [IntKind.wrap_i64]; omega
  have z2 : IntKind.i64.wrap (262144 * ((s[0].toNat : Int) - 240) + 4096 * ((s[1].toNat : Int) - 128) + 64 * ((s[2].toNat : Int) - 128)) = 262144 * ((s[0].toNat : Int) - 240) + 4096 * ((s[1].toNat : Int) - 128) + 64 * ((s[2].toNat : Int) - 128) := by rw [IntKind.wrap_i64]; omega
  have z3 : IntKind.i64.wrap (262144 * ((s[0].toNat : Int) - 240) + 4096 * ((s[1].toNat : Int) - 128) + 64 * ((s[2].toNat : Int) - 128) + (s[3].toNat : Int)) = 262144 * ((s[0].toNat : Int) - 240) + 4096 * ((s[1].toNat : Int) - 128) + 64 * ((s[2].toNat : Int) - 128) + (s[3].toNat : Int) := by rw [IntKind.wrap_i64]; omega
  have zz : IntKind.i64.wrap (262144 * ((s[0].toNat : Int) - 240) + 4096 * ((s[1].toNat : Int) - 128) + 64 * ((s[2].toNat : Int) - 128) + (s[3].toNat : Int) - 128) = 262144 * ((s[0].toNat : Int) - 240) + 4096 * ((s[1].toNat : Int) - 128) + 64 * ((s[2].toNat : Int) - 128) + (s[3].toNat : Int) - 128 := by rw [IntKind.wrap_i64]; omega
  have HX := Lib.hid (And.intro hx hnum)
  clear hd4 hnum
  by_cases hp : pointB x = true
  · obtain ⟨x0, x1⟩ := pointB_range hp
    have hif : isForm (d s) = decide (formB x = d s) := by have := isForm_point (s := d s) (by rw [HX.out.2]; exact hp); rw [HX.out.2] at this; exact this
    have HP := Lib.hid hp
    have HI := Lib.hid hif
    clear hif hp
    go_enter Tryz.func203, Tryz.ntmps203
    go_wp2_with fail
    go_quiet (fail)
    go_wp2_with fail
    go_at_call 219
    rw [← hx]
    refine (pointG_calls x _).mono ?_
    rintro e w1 ⟨rfl, rfl⟩
    rw [HP.out]
    clear hx
    go_wp2_with fail
    go_at_call 220
    refine (formG_calls x x0 x1 _).mono ?_
    rintro e w1 ⟨g, n, rfl, hcv, hb⟩
    have HB : Hid (Below w.heap.size w w1) := Lib.hid ((below_drewN (Below.refl w.heap.size w) _).trans (hb.mono (by simp)))
    clear hb
    by_cases he : formB x = d s
    · have hq : (formB x == s.toList) = true := by rw [ByteArray.toList_eq]; simpa using he
      have HV : Hid (valR (d s) = x) := Lib.hid (by unfold valR; rw [HI.out, decide_eq_true he, HX.out.2]; rfl)
      clear he
      go_wp2
      go_ret
      exact ⟨ret_int HV.out.symm, HB.out⟩
    · have hq : (formB x == s.toList) = false := by rw [ByteArray.toList_eq, beq_eq_false_iff_ne]; simpa using he
      have HV : Hid (valR (d s) = -1) := Lib.hid (by unfold valR; rw [HI.out, decide_eq_false he]; rfl)
      clear he
      go_wp2
      go_ret
      exact ⟨ret_int HV.out.symm, HB.out⟩
  · have hp' : pointB x = false := by simpa using hp
    have HP := Lib.hid hp'
    have HV : Hid (valR (d s) = -1) := Lib.hid (by unfold valR isForm; rw [HX.out.2, hp']; rfl)
    clear hp hp'
    go_enter Tryz.func203, Tryz.ntmps203
    go_wp2_with fail
    go_quiet (fail)
    go_wp2_with fail
    go_at_call 219
    rw [← hx]
    refine (pointG_calls x _).mono ?_
    rintro e w1 ⟨rfl, rfl⟩
    rw [HP.out]
    clear hx
    go_wp2
    go_ret
    exact ⟨ret_int HV.out.symm, below_drewN (Below.refl _ _) _⟩
theorem valueG_calls (s : ByteArray) (h1 : 1 ≤ s.size) (h4 : s.size ≤ 4) (w : World) : Calls Tryz.prog 203 #[.string s] w (VrPost s w) := by
  rcases (show s.size = 1 ∨ s.size = 2 ∨ s.size = 3 ∨ s.size = 4 by omega) with h | h | h | h
  · exact valueG1_calls s h w
  · exact valueG2_calls s h w
  · exact valueG3_calls s h w
  · exact valueG4_calls s h w
end Go.Proofs.YtdgfldeeflmnmaaGreatDoor.Sk
namespace Go.Proofs.YtdgfldeeflmnmaaGreatDoor.Sk
open Go Go.RowKit
theorem d_extract (s : ByteArray) {a b : Nat} (_h : a ≤ b) (_h2 : b ≤ s.size) : d (s.extract a b) = ((d s).drop a).take (b - a) := by
  show (s.extract a b).data.toList = _
  rw [ByteArray.data_extract, Array.toList_extract]
theorem conv1 (c : UInt8) (w : World) : (convert 115 9 (.slice (some ⟨w.heap.size, 0, none⟩) 1 1)).run Tryz.prog (w.alloc (.cells #[.int .u8 c.toNat] 5)) = .ok (.string ⟨#[c]⟩) (w.alloc (.cells #[.int .u8 c.toNat] 5)) :=
  run_convert_bytes_back (P := Tryz.prog) _ 115 9 5 ⟨w.heap.size, 0, none⟩ 1 [c] Tryz.underlying115 Tryz.underlying5 Tryz.underlying9 (fun j hj => by
    obtain rfl : j = 0 := by simpa using hj
    exact new_cell w #[.int .u8 c.toNat] _ 0 _ rfl)
def BgPost (w : World) (e : Ending) (w' : World) : Prop := (∃ b : Bool, e = .returned (.bool b)) ∧ Below w.heap.size w w'
set_option maxRecDepth 100000 in
set_option maxHeartbeats 4000000 in
theorem begins_calls (s : ByteArray) (h1 : 1 ≤ s.size) (h3 : s.size ≤ 3) (w : World) : Calls Tryz.prog 204 #[.string s] w (BgPost w) := by
  obtain ⟨q, hq⟩ : ∃ q : ByteArray, q = ⟨#[128]⟩ := ⟨_, rfl⟩
  have hqs : q.size = 1 := by rw [hq]; rfl
  obtain ⟨p, hp⟩ : ∃ p : ByteArray, p = ⟨#[191]⟩ := ⟨_, rfl⟩
  have hps : p.size = 1 := by rw [hp]; rfl
  have HQ : Hid (∀ w : World, (convert 115 9 (.slice (some ⟨w.heap.size, 0, none⟩) 1 1)).run Tryz.prog (w.alloc (.cells #[.int .u8 128] 5)) = .ok (.string q) (w.alloc (.cells #[.int .u8 128] 5))) := Lib.hid (fun w => by rw [hq]; exact conv1 128 w)
  have HP : Hid (∀ w : World, (convert 115 9 (.slice (some ⟨w.heap.size, 0, none⟩) 1 1)).run Tryz.prog (w.alloc (.cells #[.int .u8 191] 5)) = .ok (.string p) (w.alloc (.cells #[.int .u8 191] 5))) := Lib.hid (fun w => by rw [hp]; exact conv1 191 w)
  clear hq hp
  go_enter Tryz.func204, Tryz.ntmps204
  go_wp2_with fail
  go_loopw [3] (fun n wr => ∃ m : Nat, s.size + 1 ≤ m ∧ m ≤ 5 ∧ n = .int .i64 m ∧ Below w.heap.size w wr) (fun n _ => 5 - (intOf n).toNat)
  case atStart => exact ⟨s.size + 1, Nat.le_refl _, by omega, by go_num, Below.refl _ _⟩
  case round =>
    obtain ⟨m, hm1, hm5, rfl, hb⟩ := hrel
    obtain ⟨w1, hw1⟩ : ∃ q, q = wr := ⟨_, rfl⟩
    subst hw1
    have HB := Lib.hid hb
    clear hb
    by_cases hm : m ≤ 4
    · have hm' : (m : Int) ≤ 4 := by omega
      go_wp2_with fail
      go_loopw [4] (fun i wr => ∃ j : Nat, j ≤ 2 ∧ i = .int .i64 j ∧ Below w.heap.size w wr) (fun i _ => 2 - (intOf i).toNat)
      case atStart => exact ⟨0, by omega, rfl, HB.out⟩
      case round =>
        obtain ⟨j, hj, rfl, hb⟩ := hrel
        obtain ⟨w2, hw2⟩ : ∃ q, q = wr := ⟨_, rfl⟩
        subst hw2
        have HB2 := Lib.hid hb
        have hs2 := hb.size
        clear hb
        by_cases hj2 : j < 2
        · have hcv : ∃ r : ByteArray, r.size = 1 ∧ (convert 115 9 (.slice (some ⟨w2.heap.size, 0, none⟩) 1 1)).run Tryz.prog (w2.alloc (.cells #[.int .u8 (128 + 63 * (j : Int))] 5)) = .ok (.string r) (w2.alloc (.cells #[.int .u8 (128 + 63 * (j : Int))] 5)) := by
            rcases (show j = 0 ∨ j = 1 by omega) with rfl | rfl
            · exact ⟨q, hqs, HQ.out w2⟩
            · exact ⟨p, hps, HP.out w2⟩
          obtain ⟨r, hrs, hcr⟩ := hcv
          have hjw : IntKind.u8.wrap (128 + 63 * (j : Int)) = 128 + 63 * (j : Int) := by rw [IntKind.wrap_u8]; omega
          have hj2' : (j : Int) < 2 := by omega
          have HB3 : Hid (Below w.heap.size w (w2.alloc (.cells #[.int .u8 (128 + 63 * (j : Int))] 5))) := Lib.hid (HB2.out.alloc hs2 _)
          go_wp2_with fail
          go_loopw [5] (fun t wr => ∃ u : ByteArray, t = .string u ∧ s.size + 1 ≤ u.size ∧ u.size ≤ m ∧ Below w.heap.size w wr) (fun t _ => match t with | .string u => 5 - u.size | _ => 0)
          case atStart => exact ⟨_, rfl, by rw [ByteArray.size_append]; omega, by rw [ByteArray.size_append]; omega, HB3.out⟩
          case round =>
            obtain ⟨u, rfl, hu1, hu2, hb⟩ := hrel
            obtain ⟨w3, hw3⟩ : ∃ q, q = wr := ⟨_, rfl⟩
            subst hw3
            have HB4 := Lib.hid hb
            have hs3 := hb.size
            clear hb
            by_cases hum : u.size < m
            · have hk := HQ.out w3
              have hum' : (u.size : Int) < (m : Int) := by omega
              go_wp2
              go_roundw
              case rel => exact ⟨_, rfl, by rw [ByteArray.size_append]; omega, by rw [ByteArray.size_append]; omega, HB4.out.alloc hs3 _⟩
              case measure => simp [ByteArray.size_append]; omega
            · have hum' : decide ((u.size : Int) < (m : Int)) = false := by simp; omega
              go_wp2_with fail
              go_at_call 203
              refine (valueG_calls u (by omega) (by omega) _).mono ?_
              rintro e w4 ⟨rfl, hb4⟩
              have HB5 : Hid (Below w.heap.size w w4) := Lib.hid (HB4.out.trans (hb4.mono hs3))
              obtain ⟨v, hv⟩ : ∃ v, v = valR (d u) := ⟨_, rfl⟩
              rw [← hv]
              clear hb4 hv
              by_cases hv0 : 0 ≤ v
              · go_wp2
                go_ret
                exact ⟨⟨_, rfl⟩, HB5.out⟩
              · have hv1 : decide (0 ≤ v) = false := by simpa using hv0
                clear hv0
                go_wp2
                go_roundw
                case rel => exact ⟨j + 1, by omega, by go_num, HB5.out⟩
                case measure => simp [intOf]; omega
        · have hj2' : decide ((j : Int) < 2) = false := by simp; omega
          go_wp2
          go_roundw
          case rel => exact ⟨m + 1, by omega, by omega, by go_num, HB2.out⟩
          case measure => simp [intOf]; omega
    · have hm' : decide ((m : Int) ≤ 4) = false := by simp; omega
      go_wp2
      go_ret
      exact ⟨⟨_, rfl⟩, HB.out⟩
def RrPost (s : ByteArray) (k : Nat) (w : World) (e : Ending) (w' : World) : Prop :=
  ((∃ (x : Int) (n : Nat), rd ((d s).drop k) = some n ∧ e = .returned (.tuple #[.int .i64 x, .int .i64 n, .int .i64 0])) ∨
    (∃ er : Int, 1 ≤ er ∧ er ≤ 11 ∧ rd ((d s).drop k) = none ∧ e = .returned (.tuple #[.int .i64 0, .int .i64 0, .int .i64 er]))) ∧ Below w.heap.size w w'
set_option maxRecDepth 100000 in
set_option maxHeartbeats 4000000 in
theorem rreadG_calls (s : ByteArray) (k : Nat) (w : World) (hk : k < s.size) (hs : s.size ≤ 4611686018427387904) :
    Calls Tryz.prog 180 #[.string s, .int .i64 k] w (RrPost s k w) := by
  have hge : decide (s.size < k) = false := by simp; omega
  have hne : ((k : Int) == (s.size : Int)) = false := by simp; omega
  have hlen : ((d s).drop k).length = s.size - k := by simp
  have HL := Lib.hid hlen
  clear hlen
  go_enter Tryz.func180, Tryz.ntmps180
  go_wp2_with fail
  go_loopw [7, 8] (fun i _ wr => ∃ n : Nat, 1 ≤ n ∧ n ≤ 5 ∧ i = .int .i64 n ∧ (∀ m, 1 ≤ m → m < n → m ≤ s.size - k → isForm (((d s).drop k).take m) = false) ∧ Below w.heap.size w wr) (fun i _ _ => 5 - (intOf i).toNat)
  case atStart => exact ⟨1, by omega, by omega, rfl, fun m h1 h2 => by omega, Below.refl _ _⟩
  case round =>
    obtain ⟨n, hn1, hn5, rfl, hno, hb⟩ := hrel
    obtain ⟨w1, hw1⟩ : ∃ q, q = wr := ⟨_, rfl⟩
    subst hw1
    have HN := Lib.hid (And.intro hno hb)
    have hs1 := hb.size
    clear hno hb
    have hwk : IntKind.i64.wrap ((k : Int) + (n : Int)) = (k : Int) + (n : Int) := by rw [IntKind.wrap_i64]; omega
    have htn : ((k : Int) + (n : Int)).toNat = k + n := by omega
    by_cases hin : n ≤ 4 ∧ k + n ≤ s.size
    · obtain ⟨hn4, hkn⟩ := hin
      have b1 : decide ((n : Int) ≤ 4) = true := by simp; omega
      have b2 : decide ((k : Int) + (n : Int) ≤ (s.size : Int)) = true := by simp; omega
      have hez : (s.extract k (k + n)).size = n := by rw [ByteArray.size_extract]; omega
      have hed : d (s.extract k (k + n)) = ((d s).drop k).take n := by rw [d_extract s (by omega) hkn]; congr 1; omega
      have HE := Lib.hid hed
      have hcall := valueG_calls (s.extract k (k + n)) (by omega) (by omega) w1
      have HC := Lib.hid hcall
      clear hed hcall
      go_wp2_with fail
      go_at_call 203
      refine HC.out.mono ?_
      rintro e w4 ⟨rfl, hb4⟩
      have HB5 : Hid (Below w.heap.size w w4) := Lib.hid (HN.out.2.trans (hb4.mono hs1))
      have HV : Hid (valR (d (s.extract k (k + n))) = valR (((d s).drop k).take n)) := Lib.hid (by rw [HE.out])
      rw [HV.out]
      have hvn := valR_nonneg (((d s).drop k).take n)
      obtain ⟨v, hv⟩ : ∃ v, v = valR (((d s).drop k).take n) := ⟨_, rfl⟩
      rw [← hv] at hvn ⊢
      have HVN := Lib.hid hvn
      clear hb4 hv hvn
      by_cases hv0 : 0 ≤ v
      · have HR : Hid (rd ((d s).drop k) = some n) := Lib.hid (rd_form hn1 hn4 (by rw [HL.out]; omega) (HVN.out.1 hv0))
        go_wp2
        go_ret3
        exact ⟨.inl ⟨_, n, HR.out, rfl⟩, HB5.out⟩
      · have hv1 : decide (0 ≤ v) = false := by simpa using hv0
        have HF : Hid (isForm (((d s).drop k).take n) = false) := Lib.hid (by
          cases h : isForm (((d s).drop k).take n) with
          | false => rfl
          | true => exact absurd (HVN.out.2 h) hv0)
        clear hv0
        go_wp2
        go_roundw
        case rel =>
          refine ⟨n + 1, by omega, by omega, by go_num, fun m h1 h2 h3 => ?_, HB5.out⟩
          by_cases hmn : m = n
          · rw [hmn]; exact HF.out
          · exact HN.out.1 m h1 (by omega) h3
        case measure => simp [intOf]; omega
    · have HR : Hid (rd ((d s).drop k) = none) := Lib.hid (rd_none fun m h1 h2 h3 => HN.out.1 m h1 (by rw [HL.out] at h3; omega) (by rw [HL.out] at h3; omega))
      have hb := HN.out.2
      have HBX := Lib.hid hb
      clear hb HN
      have hend : Hid (decide ((n : Int) ≤ 4) = false ∨ (decide ((n : Int) ≤ 4) = true ∧ decide ((k : Int) + (n : Int) ≤ (s.size : Int)) = false)) := Lib.hid (by simp; omega)
      have hw2 : IntKind.i64.wrap ((s.size : Int) - (k : Int)) = (s.size : Int) - (k : Int) := by rw [IntKind.wrap_i64]; omega
      have hez : (s.extract k s.size).size = s.size - k := by rw [ByteArray.size_extract]; omega
      clear hin
      by_cases hsk : s.size - k < 4
      · have b3 : decide ((s.size : Int) - (k : Int) < 4) = true := by simp; omega
        have hcall := begins_calls (s.extract k s.size) (by omega) (by omega) w1
        have HC := Lib.hid hcall
        clear hcall
        rcases hend.out with b1 | ⟨b1, b2⟩
        all_goals
          go_wp2_with fail
          go_at_call 204
          refine HC.out.mono ?_
          rintro e w4 ⟨⟨b, rfl⟩, hb4⟩
          have HB5 : Hid (Below w.heap.size w w4) := Lib.hid (HBX.out.trans (hb4.mono hs1))
          clear hb4
          cases b
          · go_wp2
            go_ret3
            exact ⟨.inr ⟨11, by omega, by omega, HR.out, rfl⟩, HB5.out⟩
          · go_wp2
            go_ret3
            exact ⟨.inr ⟨10, by omega, by omega, HR.out, rfl⟩, HB5.out⟩
      · have b3 : decide ((s.size : Int) - (k : Int) < 4) = false := by simp; omega
        rcases hend.out with b1 | ⟨b1, b2⟩
        all_goals
          go_wp2
          go_ret3
          exact ⟨.inr ⟨11, by omega, by omega, HR.out, rfl⟩, HBX.out⟩
def RkuPost (s : ByteArray) (w : World) (e : Ending) (w' : World) : Prop :=
  (∃ (k er : Int), e = .returned (.tuple #[.int .i64 k, .int .i64 er]) ∧ ((er == 0) = valid (d s))) ∧ Below w.heap.size w w'
set_option maxRecDepth 100000 in
set_option maxHeartbeats 4000000 in
theorem rcheckU_calls (s : ByteArray) (w : World) (hs : s.size ≤ 4611686018427387904) : Calls Tryz.prog 156 #[.string s] w (RkuPost s w) := by
  go_enter Tryz.func156, Tryz.ntmps156
  go_wp2_with fail
  go_loopw [4] (fun t wr => ∃ k : Nat, k ≤ s.size ∧ t = .int .i64 k ∧ valid (d s) = valid ((d s).drop k) ∧ Below w.heap.size w wr) (fun t _ => s.size - (intOf t).toNat)
  case atStart => exact ⟨0, Nat.zero_le _, rfl, rfl, Below.refl _ _⟩
  case round =>
    obtain ⟨k, hk, rfl, hv, hb⟩ := hrel
    have HV := Lib.hid (And.intro hv hb)
    have hsz := hb.size
    clear hv hb
    by_cases hlt : k < s.size
    · cases hr : rd ((d s).drop k) with
      | none =>
        have HR := Lib.hid hr
        have HF : Hid (valid (d s) = false) := Lib.hid (by
          rw [HV.out.1]
          refine valid_none (by rw [drop_data s k hlt]; simp) hr)
        clear hr
        go_wp2_with fail
        go_at_call 180
        refine (rreadG_calls s k _ hlt hs).mono ?_
        rintro e w' ⟨(⟨x, n, h1, rfl⟩ | ⟨er, h1, h2, h3, rfl⟩), hb⟩
        · exact absurd (HR.out.symm.trans h1) (by simp)
        · have hne : (er == 0) = false := by simp; omega
          have HB := Lib.hid (HV.out.2.trans (hb.mono hsz))
          clear h3 hb
          go_wp2
          go_ret2
          exact ⟨⟨_, _, rfl, by rw [HF.out]; exact hne⟩, HB.out⟩
      | some n =>
        have HR := Lib.hid hr
        have hp := rd_pos hr
        have hp2 : k + n ≤ s.size := by have := hp.2.2; simp at this; omega
        have HF : Hid (valid (d s) = valid ((d s).drop (k + n))) := Lib.hid (by rw [HV.out.1, valid_some hr, List.drop_drop])
        obtain ⟨hp0, hp1, -⟩ := hp
        clear hr
        go_wp2_with fail
        go_at_call 180
        refine (rreadG_calls s k _ hlt hs).mono ?_
        rintro e w' ⟨(⟨x, n', h1, rfl⟩ | ⟨er, h1, h2, h3, rfl⟩), hb⟩
        · obtain rfl : n = n' := Option.some.inj (HR.out.symm.trans h1)
          have HB := Lib.hid (HV.out.2.trans (hb.mono hsz))
          clear h1 hb
          go_wp2
          go_roundw
          case rel => exact ⟨k + n, hp2, by go_num, HF.out, HB.out⟩
          case measure => simp [intOf]; omega
        · exact absurd (HR.out.symm.trans h3) (by simp)
    · have HF : Hid (valid (d s) = true) := Lib.hid (by rw [HV.out.1, List.drop_eq_nil_of_le (by simpa using hlt)]; rfl)
      have HB := Lib.hid HV.out.2
      clear HV
      go_wp2
      go_ret2
      exact ⟨⟨_, _, rfl, by rw [HF.out]; rfl⟩, HB.out⟩
end Go.Proofs.YtdgfldeeflmnmaaGreatDoor.Sk
