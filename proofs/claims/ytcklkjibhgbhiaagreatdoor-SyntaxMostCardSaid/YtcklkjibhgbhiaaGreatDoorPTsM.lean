/- Chapter 07: the law SyntaxMost. -/
import Derived.Test.YtcklkjibhgbhiaaGreatDoorPTsH
namespace Go.Proofs.YtcklkjibhgbhiaaGreatDoor.Sy
open Go Go.RowKit
theorem rep_repeat (u : B) (c : Nat) : Lib.repeatL u c = rep c u := by
  induction c with
  | zero => rfl
  | succ c ih => rw [Lib.repeatL, rep_succ, ih]
/-- strings.Repeat in the callers' words -/
theorem repeat_calls (u : B) (c : Nat) (w : World) (hc : c ≤ 1000000) (hu : u.length ≤ 100) : Calls Tryz.prog 20 #[.string ⟨u.toArray⟩, .int .i64 (c : Int)] w fun e w' => e = .returned (.string ⟨(rep c u).toArray⟩) ∧ Below w.heap.size w w' := by
  have hm : u.length * c ≤ 100 * 1000000 := Nat.mul_le_mul hu hc
  have h := Tryz.strings_Repeat ⟨u.toArray⟩ c w (by omega) (by simp only [ByteArray.size, List.size_toArray]; omega)
  rw [rep_repeat] at h
  exact h
/-- whatever Parse is asked: the error that it tells -/
def EPost (s : B) (w : World) (e : Ending) (w' : World) : Prop := ∃ (k : Int) (sa : Option Addr) (m : Nat) (sc : Nat) (mn mx : Int) (lz : Bool) (na : Option Addr) (n nc : Nat),
  e = .returned (.tuple #[.agg #[.int .u8 k, .slice sa m sc, .int .i64 mn, .int .i64 mx, .bool lz, .slice na n nc], .int .i64 (errP s)]) ∧ Below w.heap.size w w'
theorem parse_err (s : B) (w : World) (hV : Vs w) (hs : s.length ≤ 1000000) : Calls Tryz.prog 16 #[.string ⟨s.toArray⟩] w (EPost s w) := by
  refine (parse_calls ⟨s.toArray⟩ w hV (by simp only [ByteArray.size, List.size_toArray]; omega)).mono ?_
  rintro e w' ⟨h1 | ⟨x, h1, rfl⟩, hb⟩
  · obtain ⟨m, ⟨k, sa, sc, st, mn, mx, lz, na, nc, l⟩, hp, rfl, hy, hr⟩ := h1
    refine ⟨k, sa, st.length, sc, mn, mx, lz, na, l.length, nc, ?_, hb⟩
    have : errP s = 0 := by unfold errP; rw [show parse s = .ok m from hp]
    rw [this]
    rfl
  · refine ⟨0, none, 0, 0, 0, 0, false, none, 0, 0, ?_, hb⟩
    have : errP s = x := by unfold errP; rw [show parse s = .error x from h1]
    rw [this]
set_option maxRecDepth 100000 in
set_option maxHeartbeats 8000000 in
theorem most_law (g d k : Int) (hg : 0 ≤ g ∧ g ≤ 255) (hd : 0 ≤ d ∧ d ≤ 255) (hk : 0 ≤ k ∧ k ≤ 65535) (w : World) (hV : Vs w) :
    Calls Tryz.prog 8 #[.int .u8 g, .int .u8 d, .int .u16 k] w fun e w' => e = .returned (.bool true) ∧ Below w.heap.size w w' := by
  obtain ⟨g0, hg0⟩ : ∃ n : Nat, g % 60 = n := ⟨(g % 60).toNat, by omega⟩
  obtain ⟨d0, hd0⟩ : ∃ n : Nat, d % 60 = n := ⟨(d % 60).toNat, by omega⟩
  obtain ⟨k0, hk0⟩ : ∃ n : Nat, k % 1500 = n := ⟨(k % 1500).toNat, by omega⟩
  have hg1 : g0 < 60 := by omega
  have hd1 : d0 < 60 := by omega
  have hk1 : k0 < 1500 := by omega
  have HR : Hid (∀ (u : B) (c : Nat) (W : World), c ≤ 1000000 → u.length ≤ 100 → Below w.heap.size w W → Calls Tryz.prog 20 #[.string ⟨u.toArray⟩, .int .i64 (c : Int)] W fun e w' => e = .returned (.string ⟨(rep c u).toArray⟩) ∧ Below w.heap.size w w') :=
    Lib.hid (fun u c W hc hu hb => (repeat_calls u c W hc hu).mono (fun e w' h => ⟨h.1, Bthen hb h.2⟩))
  have HP : Hid (∀ (s : B) (W : World), s.length ≤ 1000000 → Below w.heap.size w W → Calls Tryz.prog 16 #[.string ⟨s.toArray⟩] W (EPost s w)) :=
    Lib.hid (fun s W hs hb => (parse_err s W (hV.below hb) hs).mono (fun e w' ⟨a, b, c, d, e1, f, g, h, i, j, h1, h2⟩ => ⟨a, b, c, d, e1, f, g, h, i, j, h1, Bthen hb h2⟩))
  have HA := Lib.hid (awake_calls w hV)
  clear hV
  go_enter Tryz.func8, Tryz.ntmps8
  go_wp2_with fail
  go_at_call 9
  refine HA.out.mono ?_
  rintro e w1 ⟨rfl, hb1⟩
  have H1 := Lib.hid hb1
  clear hb1
  have hge : Hid (errP (rep g0 [40, 97, 41] ++ [98]) = if 30 < g0 then 5 else 0) := Lib.hid (most_groups g0 (by omega))
  have hde : Hid (errP (deepU d0) = if 40 ≤ d0 then 72 else 0) := Lib.hid (most_deep d0 (by omega))
  have hbe : Hid (errP (rep 31 [40, 97, 41] ++ deepU d0) = 5) := Lib.hid (most_both d0 (by omega))
  have hke : Hid (errP (rep k0 [97]) = if 1024 < k0 then 3 else 0) := Lib.hid (most_long k0)
  have hse : Hid (errP (rep (k0 + 1) [42]) = if 1024 ≤ k0 then 3 else 70) := Lib.hid (most_stars k0)
  have ha1 : ∀ W, (Op.stringOp .add ⟨(rep g0 [40, 97, 41]).toArray⟩ ⟨#[98]⟩).run Tryz.prog W = .ok (.string ⟨(rep g0 [40, 97, 41] ++ [98]).toArray⟩) W := fun W => run_string_add_lists W (rep g0 [40, 97, 41]) [98] (by rw [rep_len]; simp; omega) (by simp)
  have ha2 : ∀ W, (Op.stringOp .add ⟨(rep d0 [97, 124, 40, 63, 58]).toArray⟩ ⟨#[98]⟩).run Tryz.prog W = .ok (.string ⟨(rep d0 [97, 124, 40, 63, 58] ++ [98]).toArray⟩) W := fun W => run_string_add_lists W (rep d0 [97, 124, 40, 63, 58]) [98] (by rw [rep_len]; simp; omega) (by simp)
  have ha3 : ∀ W, (Op.stringOp .add ⟨(rep d0 [97, 124, 40, 63, 58] ++ [98]).toArray⟩ ⟨(rep d0 [41]).toArray⟩).run Tryz.prog W = .ok (.string ⟨(deepU d0).toArray⟩) W := fun W => by
    rw [← deepU_rep]; exact run_string_add_lists W (rep d0 [97, 124, 40, 63, 58] ++ [98]) (rep d0 [41]) (by rw [List.length_append, rep_len]; simp; omega) (by rw [rep_len]; simp; omega)
  have ha4 : ∀ W, (Op.stringOp .add ⟨(rep 31 [40, 97, 41]).toArray⟩ ⟨(deepU d0).toArray⟩).run Tryz.prog W = .ok (.string ⟨(rep 31 [40, 97, 41] ++ deepU d0).toArray⟩) W := fun W => run_string_add_lists W (rep 31 [40, 97, 41]) (deepU d0) (by rw [rep_len]; simp) (by rw [deepU_len]; omega)
  have hl1 : Hid ((rep g0 [40, 97, 41] ++ [98]).length ≤ 1000000 ∧ (deepU d0).length ≤ 1000000 ∧ (rep 31 [40, 97, 41] ++ deepU d0).length ≤ 1000000 ∧ (rep k0 [97]).length ≤ 1000000 ∧ (rep (k0 + 1) [42]).length ≤ 1000000) := Lib.hid (by
    simp only [List.length_append, rep_len, deepU_len, List.length_cons, List.length_nil]; omega)
  obtain ⟨u1, hu1⟩ : ∃ u, u = rep g0 [40, 97, 41] := ⟨_, rfl⟩
  obtain ⟨v1, hv1⟩ : ∃ u, u = rep g0 [40, 97, 41] ++ [98] := ⟨_, rfl⟩
  obtain ⟨u2, hu2⟩ : ∃ u, u = rep d0 [97, 124, 40, 63, 58] := ⟨_, rfl⟩
  obtain ⟨v2, hv2⟩ : ∃ u, u = rep d0 [97, 124, 40, 63, 58] ++ [98] := ⟨_, rfl⟩
  obtain ⟨u3, hu3⟩ : ∃ u, u = rep d0 [41] := ⟨_, rfl⟩
  obtain ⟨v3, hv3⟩ : ∃ u, u = deepU d0 := ⟨_, rfl⟩
  obtain ⟨u4, hu4⟩ : ∃ u, u = rep 31 [40, 97, 41] := ⟨_, rfl⟩
  obtain ⟨v4, hv4⟩ : ∃ u, u = rep 31 [40, 97, 41] ++ deepU d0 := ⟨_, rfl⟩
  obtain ⟨v5, hv5⟩ : ∃ u, u = rep k0 [97] := ⟨_, rfl⟩
  obtain ⟨v6, hv6⟩ : ∃ u, u = rep (k0 + 1) [42] := ⟨_, rfl⟩
  rw [← hv1] at ha1 hl1 hge
  rw [← hu1] at ha1
  rw [← hv2] at ha2 ha3
  rw [← hu2] at ha2
  rw [← hv4] at ha4 hl1 hbe
  rw [← hv3] at ha3 ha4 hl1 hde
  rw [← hu3] at ha3
  rw [← hu4] at ha4
  rw [← hv5] at hl1 hke
  rw [← hv6] at hl1 hse
  have HU := Lib.hid (And.intro hu1 (And.intro hu2 (And.intro hu3 (And.intro hu4 (And.intro hv5 hv6)))))
  clear hu1 hv1 hu2 hv2 hu3 hv3 hu4 hv4 hv5 hv6
  go_wp2_with fail
  go_at_call 20
  refine (HR.out [40, 97, 41] g0 w1 (by omega) (by decide) H1.out).mono ?_
  rintro e w2 ⟨rfl, hb2⟩
  rw [← HU.out.1]
  have H2 := Lib.hid hb2
  clear hb2
  go_wp2_with fail
  go_at_call 16
  refine (HP.out v1 w2 hl1.out.1 H2.out).mono ?_
  rintro e w3 ⟨kz, saz, mz, scz, mnz, mxz, lzz, naz, nz, ncz, rfl, hb3⟩
  have H3 := Lib.hid hb3
  clear hb3
  have hcg : (errP v1 = 5 ∧ decide ((g0 : Int) ≤ 30) = false) ∨ (errP v1 = 0 ∧ decide ((g0 : Int) ≤ 30) = true) := by
    by_cases h : 30 < g0
    · exact .inl ⟨by rw [hge.out, if_pos h], by simp; omega⟩
    · exact .inr ⟨by rw [hge.out, if_neg h], by simp; omega⟩
  rcases hcg with ⟨he, hdg⟩ | ⟨he, hdg⟩
  all_goals
    rw [he]
    clear he ha1
    go_wp2_with fail
    go_at_call 20
    refine (HR.out [97, 124, 40, 63, 58] d0 _ (by omega) (by decide) (H3.out.alloc H3.out.size _)).mono ?_
    rintro e w4 ⟨rfl, hb4⟩
    rw [← HU.out.2.1]
    have H4 := Lib.hid hb4
    clear hb4 hdg
    go_wp2_with fail
    go_at_call 20
    refine (HR.out [41] d0 w4 (by omega) (by decide) H4.out).mono ?_
    rintro e w5 ⟨rfl, hb5⟩
    rw [← HU.out.2.2.1]
    have H5 := Lib.hid hb5
    clear hb5
    go_wp2_with fail
    go_at_call 16
    refine (HP.out v3 w5 hl1.out.2.1 H5.out).mono ?_
    rintro e w6 ⟨kz', saz', mz', scz', mnz', mxz', lzz', naz', nz', ncz', rfl, hb6⟩
    have H6 := Lib.hid hb6
    clear hb6 ha2 ha3
    have hcd : (errP v3 = 72 ∧ decide ((d0 : Int) < 40) = false) ∨ (errP v3 = 0 ∧ decide ((d0 : Int) < 40) = true) := by
      by_cases h : 40 ≤ d0
      · exact .inl ⟨by rw [hde.out, if_pos h], by simp; omega⟩
      · exact .inr ⟨by rw [hde.out, if_neg h], by simp; omega⟩
    rcases hcd with ⟨he, hdd⟩ | ⟨he, hdd⟩
    all_goals
      rw [he]
      clear he
      go_wp2_with fail
      go_at_call 20
      refine (HR.out [40, 97, 41] 31 w6 (by omega) (by decide) H6.out).mono ?_
      rintro e w7 ⟨rfl, hb7⟩
      rw [← HU.out.2.2.2.1]
      have H7 := Lib.hid hb7
      clear hb7
      go_wp2_with fail
      go_at_call 16
      refine (HP.out v4 w7 hl1.out.2.2.1 H7.out).mono ?_
      rintro e w8 ⟨ky, say, my, scy, mny, mxy, lzy, nay, ny, ncy, rfl, hb8⟩
      rw [hbe.out]
      have H8 := Lib.hid hb8
      clear hb8
      go_wp2_with fail
      go_at_call 20
      refine (HR.out [97] k0 _ (by omega) (by decide) (H8.out.alloc H8.out.size _)).mono ?_
      rintro e w9 ⟨rfl, hb9⟩
      rw [← HU.out.2.2.2.2.1]
      have H9 := Lib.hid hb9
      clear hb9 hdd
      go_wp2_with fail
      go_at_call 16
      refine (HP.out v5 w9 hl1.out.2.2.2.1 H9.out).mono ?_
      rintro e w10 ⟨kw, saw, mw, scw, mnw, mxw, lzw, naw, nw, ncw, rfl, hb10⟩
      have H10 := Lib.hid hb10
      clear hb10
      go_wp2_with fail
      go_at_call 20
      refine (HR.out [42] (k0 + 1) w10 (by omega) (by decide) H10.out).mono ?_
      rintro e w11 ⟨rfl, hb11⟩
      rw [← HU.out.2.2.2.2.2]
      have H11 := Lib.hid hb11
      clear hb11
      go_wp2_with fail
      go_at_call 16
      refine (HP.out v6 w11 hl1.out.2.2.2.2 H11.out).mono ?_
      rintro e w12 ⟨kv, sav, mv, scv, mnv, mxv, lzv, nav, nv, ncv, rfl, hb12⟩
      have H12 := Lib.hid hb12
      clear hb12
      have hck : (errP v5 = 3 ∧ errP v6 = 3 ∧ decide ((1024 : Int) < (k0 : Int)) = true ∧ decide ((k0 : Int) ≤ 1024) = false ∧ decide ((1024 : Int) ≤ (k0 : Int)) = true ∧ decide ((k0 : Int) < 1024) = false) ∨
          (errP v5 = 0 ∧ errP v6 = 3 ∧ decide ((1024 : Int) < (k0 : Int)) = false ∧ decide ((k0 : Int) ≤ 1024) = true ∧ decide ((1024 : Int) ≤ (k0 : Int)) = true ∧ decide ((k0 : Int) < 1024) = false) ∨
          (errP v5 = 0 ∧ errP v6 = 70 ∧ decide ((1024 : Int) < (k0 : Int)) = false ∧ decide ((k0 : Int) ≤ 1024) = true ∧ decide ((1024 : Int) ≤ (k0 : Int)) = false ∧ decide ((k0 : Int) < 1024) = true) := by
        rw [hke.out, hse.out]
        rcases (show 1024 < k0 ∨ k0 = 1024 ∨ k0 < 1024 by omega) with h | h | h
        · exact .inl ⟨if_pos h, if_pos (by omega), by simp; omega, by simp; omega, by simp; omega, by simp; omega⟩
        · exact .inr (.inl ⟨if_neg (by omega), if_pos (by omega), by simp; omega, by simp; omega, by simp; omega, by simp; omega⟩)
        · exact .inr (.inr ⟨if_neg (by omega), if_neg (by omega), by simp; omega, by simp; omega, by simp; omega, by simp; omega⟩)
      rcases hck with ⟨h5, h6, i1, i2, i3, i4⟩ | ⟨h5, h6, i1, i2, i3, i4⟩ | ⟨h5, h6, i1, i2, i3, i4⟩
      all_goals
        rw [h6]
        rw [h5]
        clear h5 h6
        go_wp2_with fail
        go_ret
        exact ⟨rfl, H12.out⟩
end Go.Proofs.YtcklkjibhgbhiaaGreatDoor.Sy
