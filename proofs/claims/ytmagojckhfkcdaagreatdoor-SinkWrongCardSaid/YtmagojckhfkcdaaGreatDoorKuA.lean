/- Chapter 38's strings: package utf reads forms, and tells whether a string is valid. -/
import Derived.Test.YtmagojckhfkcdaaGreatDoorProg
import Derived.Test.YtmagojckhfkcdaaGreatDoorKpA
import Derived.WalkKit
import Derived.WalkSpells
import Derived.WalkLawsBesides
import Derived.Lib.Hide
import Derived.BigQuiet
import Derived.Deep.QuietTactic
import Derived.Below
namespace Go.Proofs.YtmagojckhfkcdaaGreatDoor.Sk
open Go Go.RowKit
theorem ret_bool {a b : Bool} (h : a = b) : Ending.returned (.bool a) = .returned (.bool b) := by rw [h]
theorem ret_int {k : IntKind} {a b : Int} (h : a = b) : Ending.returned (.int k a) = .returned (.int k b) := by rw [h]
set_option maxRecDepth 100000 in
theorem head_calls (c : Nat) (hc : c < 256) (w : World) : Calls Tryz.prog 142 #[.int .u8 c] w fun e w' => (∃ x : Int, e = .returned (.tuple #[.int .i64 (hd c), .int .i64 x])) ∧ w = w' := by
  rcases (show c < 128 ∨ (128 ≤ c ∧ c < 194) ∨ (194 ≤ c ∧ c < 224) ∨ (224 ≤ c ∧ c < 240) ∨ (240 ≤ c ∧ c < 245) ∨ 245 ≤ c by omega) with h | ⟨h, h'⟩ | ⟨h, h'⟩ | ⟨h, h'⟩ | ⟨h, h'⟩ | h
  · have e : Hid (hd c = 1) := Lib.hid (by unfold hd; rw [if_pos h])
    go_enter Tryz.func142, Tryz.ntmps142
    go_wp2
    go_ret2
    exact ⟨⟨_, by rw [e.out]; rfl⟩, rfl⟩
  · have e : Hid (hd c = 0) := Lib.hid (by unfold hd; rw [if_neg (by omega), if_neg (by omega), if_neg (by omega), if_neg (by omega)])
    go_enter Tryz.func142, Tryz.ntmps142
    go_wp2
    go_ret2
    exact ⟨⟨_, by rw [e.out]; rfl⟩, rfl⟩
  · have e : Hid (hd c = 2) := Lib.hid (by unfold hd; rw [if_neg (by omega), if_pos ⟨h, h'⟩])
    go_enter Tryz.func142, Tryz.ntmps142
    go_wp2
    go_ret2
    exact ⟨⟨_, by rw [e.out]; rfl⟩, rfl⟩
  · have e : Hid (hd c = 3) := Lib.hid (by unfold hd; rw [if_neg (by omega), if_neg (by omega), if_pos ⟨h, h'⟩])
    go_enter Tryz.func142, Tryz.ntmps142
    go_wp2
    go_ret2
    exact ⟨⟨_, by rw [e.out]; rfl⟩, rfl⟩
  · have e : Hid (hd c = 4) := Lib.hid (by unfold hd; rw [if_neg (by omega), if_neg (by omega), if_neg (by omega), if_pos ⟨h, h'⟩])
    go_enter Tryz.func142, Tryz.ntmps142
    go_wp2
    go_ret2
    exact ⟨⟨_, by rw [e.out]; rfl⟩, rfl⟩
  · have e : Hid (hd c = 0) := Lib.hid (by unfold hd; rw [if_neg (by omega), if_neg (by omega), if_neg (by omega), if_neg (by omega)])
    go_enter Tryz.func142, Tryz.ntmps142
    go_wp2
    go_ret2
    exact ⟨⟨_, by rw [e.out]; rfl⟩, rfl⟩
set_option maxRecDepth 100000 in
theorem second_calls (f c : Nat) (hc : c < 256) (w : World) : Calls Tryz.prog 143 #[.int .u8 f, .int .u8 c] w fun e w' => e = .returned (.bool (sec f c)) ∧ w = w' := by
  by_cases h : 128 ≤ c ∧ c < 192
  · obtain ⟨h1, h2⟩ := h
    have hc : Hid (cont c = true) := Lib.hid (by unfold cont; simp; omega)
    rcases (show f = 224 ∨ f = 237 ∨ f = 240 ∨ f = 244 ∨ (f ≠ 224 ∧ f ≠ 237 ∧ f ≠ 240 ∧ f ≠ 244) by omega) with rfl | rfl | rfl | rfl | ⟨n1, n2, n3, n4⟩
    · go_enter Tryz.func143, Tryz.ntmps143
      go_wp2
      go_ret
      exact ⟨ret_bool (by unfold sec; rw [hc.out]; rw [Bool.eq_iff_iff]; simp; omega), rfl⟩
    · go_enter Tryz.func143, Tryz.ntmps143
      go_wp2
      go_ret
      exact ⟨ret_bool (by unfold sec; rw [hc.out]; rw [Bool.eq_iff_iff]; simp; omega), rfl⟩
    · go_enter Tryz.func143, Tryz.ntmps143
      go_wp2
      go_ret
      exact ⟨ret_bool (by unfold sec; rw [hc.out]; rw [Bool.eq_iff_iff]; simp; omega), rfl⟩
    · go_enter Tryz.func143, Tryz.ntmps143
      go_wp2
      go_ret
      exact ⟨ret_bool (by unfold sec; rw [hc.out]; rw [Bool.eq_iff_iff]; simp; omega), rfl⟩
    · have b1 : ((f : Int) == 224) = false := by simp; omega
      have b2 : ((f : Int) == 237) = false := by simp; omega
      have b3 : ((f : Int) == 240) = false := by simp; omega
      have b4 : ((f : Int) == 244) = false := by simp; omega
      have HS : Hid (sec f c = true) := Lib.hid (by unfold sec; rw [hc.out, if_neg n1, if_neg n2, if_neg n3, if_neg n4]; rfl)
      clear n1 n2 n3 n4
      go_enter Tryz.func143, Tryz.ntmps143
      go_wp2
      go_ret
      exact ⟨ret_bool HS.out.symm, rfl⟩
  · have HS : Hid (sec f c = false) := Lib.hid (by unfold sec cont; simp; omega)
    rcases (show c < 128 ∨ (128 ≤ c ∧ 192 ≤ c) by omega) with h1 | ⟨h1, h2⟩
    · clear h
      go_enter Tryz.func143, Tryz.ntmps143
      go_wp2
      go_ret
      exact ⟨ret_bool HS.out.symm, rfl⟩
    · clear h
      go_enter Tryz.func143, Tryz.ntmps143
      go_wp2
      go_ret
      exact ⟨ret_bool HS.out.symm, rfl⟩
def ReadPost (s : ByteArray) (k : Nat) (w : World) (e : Ending) (w' : World) : Prop :=
  ((∃ (x : Int) (n : Nat), rd (d s |>.drop k) = some n ∧ e = .returned (.tuple #[.int .i64 x, .int .i64 n, .int .i64 0])) ∨
    (∃ er : Int, 1 ≤ er ∧ er ≤ 11 ∧ rd (d s |>.drop k) = none ∧ e = .returned (.tuple #[.int .i64 0, .int .i64 0, .int .i64 er]))) ∧ w = w'
theorem data_at (s : ByteArray) (k : Nat) (h : k < s.size) : (d s)[k]? = some s[k] := by
  rw [List.getElem?_eq_getElem (by simpa using h)]
  rfl
theorem drop_data (s : ByteArray) (k : Nat) (h : k < s.size) : (d s).drop k = s[k] :: (d s).drop (k + 1) := by
  rw [List.drop_eq_getElem_cons (by simpa using h)]
  rfl
theorem tail_at (s : ByteArray) {k j : Nat} (hj : 1 ≤ j) (h : k + j < s.size) : ((d s).drop (k + 1))[j - 1]? = some s[k + j] := by
  rw [List.getElem?_drop, show k + 1 + (j - 1) = k + j by omega]
  exact data_at s _ h
theorem ok_step (s : ByteArray) {k j f : Nat} (hj : 1 ≤ j) (h : k + j < s.size) (hok : okGo f 0 (j - 1) ((d s).drop (k + 1)) = true) : okGo f 0 (j + 1 - 1) ((d s).drop (k + 1)) = okB f (j - 1) s[k + j] := by
  rw [show j + 1 - 1 = (j - 1) + 1 by omega, okGo_snoc, hok, tail_at s hj h]
  simp
theorem no_step (s : ByteArray) {k j : Nat} {f : UInt8} (hj : 1 ≤ j) (h : k + j < s.size) (hdr : (d s).drop k = f :: (d s).drop (k + 1)) (hlt : j < hd f.toNat) (hb : okB f.toNat (j - 1) s[k + j] = false) : rd ((d s).drop k) = none := by
  rw [hdr]
  refine rd_no (k := j - 1) (by omega) (fun a ha => ?_)
  rw [tail_at s hj h] at ha
  cases ha
  exact hb
theorem room (s : ByteArray) {k j f : Nat} (_hj : 1 ≤ j) (hk : k < s.size) (hok : okGo f 0 (j - 1) ((d s).drop (k + 1)) = true) : k + j ≤ s.size := by
  have := okGo_len _ _ _ _ hok
  simp at this
  omega
set_option maxRecDepth 100000 in
set_option maxHeartbeats 2000000 in
theorem uread_calls (s : ByteArray) (k : Nat) (w : World) (hk : k < s.size) (hs : s.size ≤ 4611686018427387904) :
    Calls Tryz.prog 134 #[.string s, .int .i64 k] w (ReadPost s k w) := by
  have hne : ((k : Int) == (s.size : Int)) = false := by simp; omega
  have HD := Lib.hid (drop_data s k hk)
  have hf : s[k].toNat < 256 := s[k].toNat_lt
  have hnle := hd_le s[k].toNat
  obtain ⟨f, hfe⟩ : ∃ f : UInt8, f = s[k] := ⟨_, rfl⟩
  obtain ⟨n, hn⟩ : ∃ n, n = hd f.toNat := ⟨_, rfl⟩
  by_cases h0 : n = 0
  · have HN : Hid (rd (d s |>.drop k) = none) := Lib.hid (by rw [HD.out, ← hfe]; exact rd_zero (by omega))
    subst h0
    have HE : Hid (0 = hd s[k].toNat) := Lib.hid (by rw [← hfe]; exact hn)
    clear hn hfe hnle
    go_enter Tryz.func134, Tryz.ntmps134
    go_wp2_with (go_at_call 142; refine (head_calls s[k].toNat hf _).mono ?_; rintro e w' ⟨⟨x, rfl⟩, rfl⟩; rw [← HE.out])
    go_ret3
    exact ⟨.inr ⟨11, by omega, by omega, HN.out, rfl⟩, rfl⟩
  · have hn1 : 1 ≤ n := by omega
    have hn4 : n ≤ 4 := by rw [hn, hfe]; exact hnle
    have hn0 : ((n : Int) == 0) = false := by simp; omega
    have HE : Hid (n = hd s[k].toNat) := Lib.hid (by rw [← hfe]; exact hn)
    have HF : Hid (f = s[k]) := Lib.hid hfe
    clear h0 hn hfe hnle
    go_enter Tryz.func134, Tryz.ntmps134
    go_wp2_with (go_at_call 142; refine (head_calls s[k].toNat hf _).mono ?_; rintro e w' ⟨⟨x, rfl⟩, rfl⟩; rw [← HE.out])
    go_loop [8, 9] (fun x i => ∃ (j : Nat) (xv : Int), 1 ≤ j ∧ j ≤ n ∧ i = .int .i64 j ∧ x = .int .i64 xv ∧ okGo f.toNat 0 (j - 1) ((d s).drop (k + 1)) = true) (fun _ i => n - (intOf i).toNat)
    case atStart => exact ⟨1, _, by omega, by omega, rfl, rfl, rfl⟩
    case round =>
      obtain ⟨j, xv, hj1, hjn, rfl, rfl, hok⟩ := hrel
      have HO := Lib.hid hok
      clear hok
      by_cases hlt : j < n
      · by_cases hend : k + j = s.size
        · have hb : ((k : Int) + (j : Int) == (s.size : Int)) = true := by simp; omega
          have HN : Hid (rd (d s |>.drop k) = none) := Lib.hid (by
            rw [HD.out, ← HF.out]
            refine rd_no (k := j - 1) (by rw [HF.out, ← HE.out]; omega) (fun a ha => ?_)
            rw [List.getElem?_drop] at ha
            have := (List.getElem?_eq_some_iff.1 ha).1
            simp at this
            omega)
          clear hend
          go_wp2
          go_ret3
          exact ⟨.inr ⟨10, by omega, by omega, HN.out, rfl⟩, rfl⟩
        · have hrm := room s hj1 hk HO.out
          have hlt2 : k + j < s.size := by omega
          have hb : ((k : Int) + (j : Int) == (s.size : Int)) = false := by simp; omega
          have HS := Lib.hid (ok_step s hj1 hlt2 HO.out)
          have HX : Hid (okB f.toNat (j - 1) s[k + j] = false → rd (d s |>.drop k) = none) := Lib.hid (no_step s hj1 hlt2 (by rw [HD.out, ← HF.out]) (by rw [HF.out, ← HE.out]; exact hlt))
          clear hend hrm
          have hcl : s[k + j].toNat < 256 := s[k + j].toNat_lt
          by_cases hj : j = 1
          · have hjj : ((j : Int) == 1) = true := by simp; omega
            by_cases hsec : sec s[k].toNat s[k + j].toNat = true
            · have HN : Hid (okGo f.toNat 0 (j + 1 - 1) ((d s).drop (k + 1)) = true) := Lib.hid (by rw [HS.out, okB, if_pos (by omega), HF.out]; exact hsec)
              have hc : cont s[k + j].toNat = true := by unfold sec at hsec; simp only [Bool.and_eq_true] at hsec; exact hsec.1
              have hc2 : 128 ≤ s[k + j].toNat ∧ s[k + j].toNat < 192 := by unfold cont at hc; simpa using hc
              obtain ⟨hc3, hc4⟩ := hc2
              have HSE := Lib.hid hsec
              clear hsec hc hj
              go_wp2_with (go_at_call 143; refine (second_calls _ _ hcl _).mono ?_; rintro e w' ⟨rfl, rfl⟩; rw [HSE.out])
              go_round
              case rel => exact ⟨j + 1, _, by omega, by omega, by go_num, rfl, HN.out⟩
              case measure => simp [intOf]; omega
            · have HN := Lib.hid (HX.out (by rw [okB, if_pos (by omega), HF.out]; simpa using hsec))
              have HSE : Hid (sec s[k].toNat s[k + j].toNat = false) := Lib.hid (by simpa using hsec)
              clear hsec hj
              go_wp2_with (go_at_call 143; refine (second_calls _ _ hcl _).mono ?_; rintro e w' ⟨rfl, rfl⟩; rw [HSE.out])
              go_ret3
              exact ⟨.inr ⟨11, by omega, by omega, HN.out, rfl⟩, rfl⟩
          · have hjj : ((j : Int) == 1) = false := by simp; omega
            rcases (show s[k + j].toNat < 128 ∨ (128 ≤ s[k + j].toNat ∧ 192 ≤ s[k + j].toNat) ∨ (128 ≤ s[k + j].toNat ∧ s[k + j].toNat < 192) by omega) with hc | ⟨hc1, hc2⟩ | ⟨hc1, hc2⟩
            · have HN := Lib.hid (HX.out (by rw [okB, if_neg (by omega)]; unfold cont; simp; omega))
              clear hj
              go_wp2
              go_ret3
              exact ⟨.inr ⟨11, by omega, by omega, HN.out, rfl⟩, rfl⟩
            · have HN := Lib.hid (HX.out (by rw [okB, if_neg (by omega)]; unfold cont; simp; omega))
              clear hj
              go_wp2
              go_ret3
              exact ⟨.inr ⟨11, by omega, by omega, HN.out, rfl⟩, rfl⟩
            · have HN : Hid (okGo f.toNat 0 (j + 1 - 1) ((d s).drop (k + 1)) = true) := Lib.hid (by rw [HS.out, okB, if_neg (by omega)]; unfold cont; simp; omega)
              clear hj
              go_wp2
              go_round
              case rel => exact ⟨j + 1, _, by omega, by omega, by go_num, rfl, HN.out⟩
              case measure => simp [intOf]; omega
      · have hjn2 : j = n := by omega
        have HN : Hid (rd (d s |>.drop k) = some n) := Lib.hid (by
          have h := HO.out
          rw [HD.out, ← HF.out]
          have e : hd f.toNat = n := by rw [HF.out]; exact HE.out.symm
          rw [rd_yes (by omega) (by rw [e, ← hjn2]; exact h), e])
        clear hjn2
        go_wp2
        go_ret3
        exact ⟨.inl ⟨_, n, HN.out, rfl⟩, rfl⟩
end Go.Proofs.YtmagojckhfkcdaaGreatDoor.Sk
