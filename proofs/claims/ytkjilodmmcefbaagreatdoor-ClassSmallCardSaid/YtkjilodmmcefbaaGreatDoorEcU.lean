/- Several parts in one text: EcU, EcV, EcW. -/
import Derived.Test.YtkjilodmmcefbaaGreatDoorEcR
import Derived.Test.YtkjilodmmcefbaaGreatDoorEcS
/- The reference's Escape: x and two digits. -/
namespace Go.Proofs.YtkjilodmmcefbaaGreatDoor
open Go.RowKit Go.Shelf
/-- what remains behind the digits: the number, or none -/
def HexW (L : List UInt8) (N : Nat) (x : Int) (b : Bool) : Prop :=
  (0 ≤ x ∧ b = true ∧ Rs.escC L = x ∧ Rs.escN L = N ∧ Rs.escE L = 0) ∨ (0 ≤ x ∧ b = false ∧ Rs.escC L = 0 ∧ Rs.escN L = 0 ∧ Rs.escE L = 61) ∨ (x < 0 ∧ Rs.escC L = 0 ∧ Rs.escN L = 0 ∧ Rs.escE L = 61)
theorem rhex_ways (t : ByteArray) (hn : t.size < 4611686018427387904) (N : Nat) (L : List UInt8) (hL : Rs.escS L = Rs.ptO N (Rs.hexS t.data.toList)) :
    ∃ (x : Int) (b : Bool), (∀ W, Calls Tryz.prog 77 #[.string t, .int .i64 6] W fun e w' => e = .returned (.int .i64 x) ∧ w' = W) ∧ (∀ W, Calls Tryz.prog 78 #[.int .i64 x] W fun e w' => e = .returned (.bool b) ∧ w' = W) ∧ HexW L N x b := by
  refine ⟨(Rs.hexS t.data.toList).getD (-1), Rs.pt ((Rs.hexS t.data.toList).getD (-1)), fun W => rhex_calls t hn W, fun W => ref_point_quiet _ W, ?_⟩
  cases hx : Rs.hexS t.data.toList with
  | none =>
    rw [hx] at hL
    exact .inr (.inr ⟨by decide, esc_none hL⟩)
  | some x =>
    rw [hx] at hL
    have h0 : 0 ≤ x := by
      unfold Rs.hexS at hx
      split at hx
      · cases hx
      · exact (Rs.hexF_range _ 0 x (by omega) hx).1
    cases hp : Rs.pt x with
    | true =>
      have e : Rs.escS L = some (x, N) := by rw [hL]; simp [Rs.ptO, hp]
      exact .inl ⟨h0, hp, esc_some e⟩
    | false =>
      have e : Rs.escS L = none := by rw [hL]; simp [Rs.ptO, hp]
      exact .inr (.inl ⟨h0, hp, esc_none e⟩)
-- REST
set_option maxRecDepth 100000 in
set_option maxHeartbeats 4000000 in
theorem resc_two (s : ByteArray) (w : World) (g0 : 0 < s.size) (g1 : 1 < s.size) (h1 : ((((s[0]'g0).toNat : Int)) != 92) = false) (hx : Rs.sign ((s[1]'g1).toNat : Int) = none) (g3 : 3 < s.size) (he1 : ((s[1]'g1).toNat : Int) = 120) (he2 : ((((s[2]'(by omega)).toNat : Int)) == 123) = false) (x : Int) (b : Bool) (hhx : ∀ W, Calls Tryz.prog 77 #[.string (s.extract 2 4), .int .i64 6] W fun e w' => e = .returned (.int .i64 x) ∧ w' = W) (hpt : ∀ W, Calls Tryz.prog 78 #[.int .i64 x] W fun e w' => e = .returned (.bool b) ∧ w' = W) (hv : HexW s.data.toList 4 x b) :
    Calls Tryz.prog 42 #[.string s] w fun e w' => e = .returned (.tuple #[.int .i64 (Rs.escC s.data.toList), .int .i64 (Rs.escN s.data.toList), .int .i64 (Rs.escE s.data.toList)]) ∧ Below w.heap.size w w' := by
  have HX := Lib.hid hx
  clear hx
  have HB : Hid (Below w.heap.size w (w.alloc (.cells #[.int .i64 10, .int .i64 9, .int .i64 13, .int .i64 12, .int .i64 11, .int .i64 7] 3))) := Lib.hid (Bnew (Below.refl _ _) _)
  go_enter Tryz.func42, Tryz.ntmps42
  go_wp2
  go_loopw [7] (fun i wr => EcI 0 (w.alloc (.cells #[.int .i64 10, .int .i64 9, .int .i64 13, .int .i64 12, .int .i64 11, .int .i64 7] 3)) i wr) (fun i _ => 6 - (intOf i).toNat)
  case atStart => exact ⟨0, by decide, rfl, fun j hj => by omega, 0, rfl⟩
  case round =>
    obtain ⟨k, hk, rfl, hno, n, rfl⟩ := hrel
    clear hno
    have hb := (s[1]'g1).toNat_lt
    have i1 : ∀ W, (Instr.index 9 (.string s) (.int .i64 1)).run Tryz.prog W = .ok (.int .u8 ((s[1]'g1).toNat : Int)) W := fun W => by
      rw [run_index_string (h := Tryz.underlying9), dif_pos ⟨by decide, by omega⟩]; rfl
    by_cases h6 : k = 6
    · subst h6
      have c1 : 96 < (s[1]'g1).toNat := by omega
      have c2 : (s[1]'g1).toNat < 123 := by omega
      have hw : IntKind.i64.wrap ((s[1]'g1).toNat : Int) = ((s[1]'g1).toNat : Int) := by rw [IntKind.wrap_i64]; omega
      generalize hX : s.extract 2 4 = X at *
      rcases hv with ⟨x0, rfl, e1, e2, e3⟩ | ⟨x0, rfl, e1, e2, e3⟩ | ⟨x0, e1, e2, e3⟩
      all_goals
        have HE := Lib.hid (And.intro e1 (And.intro e2 e3))
        clear e1 e2 e3
        go_wp2_with (first | (go_at_call 77; refine (hhx _).mono ?_; rintro e w1 ⟨rfl, rfl⟩) | (go_at_call 78; refine (hpt _).mono ?_; rintro e w1 ⟨rfl, rfl⟩))
        go_ret3
        refine ⟨?_, below_drewN HB.out _⟩
        rw [HE.out.1, HE.out.2.1, HE.out.2.2]
        rfl
    · have HN : Hid (∀ j, j < k + 1 → sgs.getD j 0 ≠ 0) := Lib.hid (fun j hj => by
        have : ∀ q : Fin 6, sgs.getD q.val 0 ≠ 0 := by decide
        exact this ⟨j, by omega⟩)
      rcases (show k = 0 ∨ k = 1 ∨ k = 2 ∨ k = 3 ∨ k = 4 ∨ k = 5 by omega) with rfl | rfl | rfl | rfl | rfl | rfl
      · have hq : (((s[1]'g1).toNat : Int) == (((⟨#[110, 116, 114, 102, 118, 97]⟩ : ByteArray)[0]'(by decide)).toNat : Int)) = false := by
          rw [show (((⟨#[110, 116, 114, 102, 118, 97]⟩ : ByteArray)[0]'(by decide)).toNat : Int) = 110 from rfl]
          have hs := HX.out
          simp only [beq_eq_false_iff_ne, ne_eq]
          intro e
          rw [e] at hs
          cases hs
        go_wp2_with fail
        go_big_quiet (fail)
        go_wp2_with fail
        go_roundw
        case rel =>
          refine ⟨1, by decide, rfl, HN.out, ?_⟩
          first | exact ⟨_, World.drewN_drewN _ _ _⟩ | exact ⟨_, rfl⟩ | (rw [World.drewN_drewN]; exact ⟨_, rfl⟩)
        case measure => simp [intOf]
      · have hq : (((s[1]'g1).toNat : Int) == (((⟨#[110, 116, 114, 102, 118, 97]⟩ : ByteArray)[1]'(by decide)).toNat : Int)) = false := by
          rw [show (((⟨#[110, 116, 114, 102, 118, 97]⟩ : ByteArray)[1]'(by decide)).toNat : Int) = 116 from rfl]
          have hs := HX.out
          simp only [beq_eq_false_iff_ne, ne_eq]
          intro e
          rw [e] at hs
          cases hs
        go_wp2_with fail
        go_big_quiet (fail)
        go_wp2_with fail
        go_roundw
        case rel =>
          refine ⟨2, by decide, rfl, HN.out, ?_⟩
          first | exact ⟨_, World.drewN_drewN _ _ _⟩ | exact ⟨_, rfl⟩ | (rw [World.drewN_drewN]; exact ⟨_, rfl⟩)
        case measure => simp [intOf]
      · have hq : (((s[1]'g1).toNat : Int) == (((⟨#[110, 116, 114, 102, 118, 97]⟩ : ByteArray)[2]'(by decide)).toNat : Int)) = false := by
          rw [show (((⟨#[110, 116, 114, 102, 118, 97]⟩ : ByteArray)[2]'(by decide)).toNat : Int) = 114 from rfl]
          have hs := HX.out
          simp only [beq_eq_false_iff_ne, ne_eq]
          intro e
          rw [e] at hs
          cases hs
        go_wp2_with fail
        go_big_quiet (fail)
        go_wp2_with fail
        go_roundw
        case rel =>
          refine ⟨3, by decide, rfl, HN.out, ?_⟩
          first | exact ⟨_, World.drewN_drewN _ _ _⟩ | exact ⟨_, rfl⟩ | (rw [World.drewN_drewN]; exact ⟨_, rfl⟩)
        case measure => simp [intOf]
      · have hq : (((s[1]'g1).toNat : Int) == (((⟨#[110, 116, 114, 102, 118, 97]⟩ : ByteArray)[3]'(by decide)).toNat : Int)) = false := by
          rw [show (((⟨#[110, 116, 114, 102, 118, 97]⟩ : ByteArray)[3]'(by decide)).toNat : Int) = 102 from rfl]
          have hs := HX.out
          simp only [beq_eq_false_iff_ne, ne_eq]
          intro e
          rw [e] at hs
          cases hs
        go_wp2_with fail
        go_big_quiet (fail)
        go_wp2_with fail
        go_roundw
        case rel =>
          refine ⟨4, by decide, rfl, HN.out, ?_⟩
          first | exact ⟨_, World.drewN_drewN _ _ _⟩ | exact ⟨_, rfl⟩ | (rw [World.drewN_drewN]; exact ⟨_, rfl⟩)
        case measure => simp [intOf]
      · have hq : (((s[1]'g1).toNat : Int) == (((⟨#[110, 116, 114, 102, 118, 97]⟩ : ByteArray)[4]'(by decide)).toNat : Int)) = false := by
          rw [show (((⟨#[110, 116, 114, 102, 118, 97]⟩ : ByteArray)[4]'(by decide)).toNat : Int) = 118 from rfl]
          have hs := HX.out
          simp only [beq_eq_false_iff_ne, ne_eq]
          intro e
          rw [e] at hs
          cases hs
        go_wp2_with fail
        go_big_quiet (fail)
        go_wp2_with fail
        go_roundw
        case rel =>
          refine ⟨5, by decide, rfl, HN.out, ?_⟩
          first | exact ⟨_, World.drewN_drewN _ _ _⟩ | exact ⟨_, rfl⟩ | (rw [World.drewN_drewN]; exact ⟨_, rfl⟩)
        case measure => simp [intOf]
      · have hq : (((s[1]'g1).toNat : Int) == (((⟨#[110, 116, 114, 102, 118, 97]⟩ : ByteArray)[5]'(by decide)).toNat : Int)) = false := by
          rw [show (((⟨#[110, 116, 114, 102, 118, 97]⟩ : ByteArray)[5]'(by decide)).toNat : Int) = 97 from rfl]
          have hs := HX.out
          simp only [beq_eq_false_iff_ne, ne_eq]
          intro e
          rw [e] at hs
          cases hs
        go_wp2_with fail
        go_big_quiet (fail)
        go_wp2_with fail
        go_roundw
        case rel =>
          refine ⟨6, by decide, rfl, HN.out, ?_⟩
          first | exact ⟨_, World.drewN_drewN _ _ _⟩ | exact ⟨_, rfl⟩ | (rw [World.drewN_drewN]; exact ⟨_, rfl⟩)
        case measure => simp [intOf]
end Go.Proofs.YtkjilodmmcefbaaGreatDoor
/- The reference's Escape: x and digits in braces. -/
namespace Go.Proofs.YtkjilodmmcefbaaGreatDoor
open Go.RowKit Go.Shelf
def EcT2 (s : ByteArray) (W : World) (t : Value) (wr : World) : Prop := ∃ k : Nat, 3 ≤ k ∧ k ≤ s.size ∧ t = .int .i64 k ∧ (∀ j, j < k → s.data.toList[j]? ≠ some 125) ∧ wr = W
theorem byte_no {s : ByteArray} {k : Nat} (hk : k < s.size) (h : ((s[k]'hk).toNat : Int) ≠ 125) : s.data.toList[k]? ≠ some 125 := by
  rw [byte_at hk]
  intro e
  rw [Option.some.inj e] at h
  exact h rfl
theorem brace_start {s : ByteArray} (g2 : 2 < s.size) (h0 : Rs.bt s.data.toList 0 = 92) (he1 : ((s[1]'(Nat.lt_trans (by decide) g2)).toNat : Int) = 120) (he2 : ((s[2]'g2).toNat : Int) = 123) : ∀ j, j < 3 → s.data.toList[j]? ≠ some 125 := by
  have g0 : 0 < s.size := by omega
  rw [Rs.esc_get g0] at h0
  intro j hj
  rcases (show j = 0 ∨ j = 1 ∨ j = 2 by omega) with rfl | rfl | rfl
  · exact byte_no g0 (by omega)
  · exact byte_no (Nat.lt_trans (by decide) g2) (by omega)
  · exact byte_no g2 (by omega)
theorem brace_step {s : ByteArray} {j : Nat} (hlt : j < s.size) (hq : ¬ ((s[j]'hlt).toNat : Int) = 125) (h : ∀ i, i < j → s.data.toList[i]? ≠ some 125) : ∀ i, i < j + 1 → s.data.toList[i]? ≠ some 125 := by
  intro i hi
  by_cases e : i = j
  · subst e; exact byte_no hlt hq
  · exact h i (by omega)
theorem brace_esc (s : ByteArray) (h0 : Rs.bt s.data.toList 0 = 92) (g2 : 2 < s.size) (he1 : ((s[1]'(Nat.lt_trans (by decide) g2)).toNat : Int) = 120) (he2 : ((s[2]'g2).toNat : Int) = 123) (hlen : s.data.toList.length = s.size) :
    Rs.escS s.data.toList = if Lib.indexByte s.data.toList 125 < 0 ∨ 9 < Lib.indexByte s.data.toList 125 then none else Rs.ptO ((Lib.indexByte s.data.toList 125).toNat + 1) (Rs.hexS ((s.data.toList.take (Lib.indexByte s.data.toList 125).toNat).drop 3)) := by
  have g1 : 1 < s.size := by omega
  have b1 : Rs.bt s.data.toList 1 = 120 := by rw [Rs.esc_get g1]; exact he1
  have b2 : Rs.bt s.data.toList 2 = 123 := by rw [Rs.esc_get g2]; exact he2
  exact Rs.esc_dig (by omega) h0 (by rw [b1]; rfl) b1 (by omega) b2
theorem brace_none (s : ByteArray) (hlen : s.data.toList.length = s.size) (h0 : Rs.bt s.data.toList 0 = 92) (g2 : 2 < s.size) (he1 : ((s[1]'(Nat.lt_trans (by decide) g2)).toNat : Int) = 120) (he2 : ((s[2]'g2).toNat : Int) = 123) (h : ∀ i, i < s.size → s.data.toList[i]? ≠ some 125) :
    Rs.escC s.data.toList = 0 ∧ Rs.escN s.data.toList = 0 ∧ Rs.escE s.data.toList = 61 := by
  have hS := brace_esc s h0 g2 he1 he2 hlen
  have hge := Lib.indexByte_ge s.data.toList 125
  have hn : Lib.indexByte s.data.toList 125 < 0 := by
    rcases Int.lt_or_le (Lib.indexByte s.data.toList 125) 0 with hlt | hle
    · exact hlt
    · exfalso
      obtain ⟨o, ho⟩ : ∃ o : Nat, Lib.indexByte s.data.toList 125 = o := ⟨(Lib.indexByte s.data.toList 125).toNat, by omega⟩
      have hso := (Lib.indexByte_some ho).1
      have := (List.getElem?_eq_some_iff.1 hso).1
      exact h o (by omega) hso
  rw [if_pos (.inl hn)] at hS
  exact esc_none hS
theorem brace_ways (s : ByteArray) (j : Nat) (hmax : s.size ≤ 1000000000000) (hlen : s.data.toList.length = s.size) (h0 : Rs.bt s.data.toList 0 = 92) (g2 : 2 < s.size) (he1 : ((s[1]'(Nat.lt_trans (by decide) g2)).toNat : Int) = 120) (he2 : ((s[2]'g2).toNat : Int) = 123) (hlt : j < s.size) (hj3 : 3 ≤ j) (hq : ((s[j]'hlt).toNat : Int) = 125) (h : ∀ i, i < j → s.data.toList[i]? ≠ some 125) :
    ∃ (x : Int) (b : Bool), (∀ W, Calls Tryz.prog 77 #[.string (s.extract 3 j), .int .i64 6] W fun e w' => e = .returned (.int .i64 x) ∧ w' = W) ∧ (∀ W, Calls Tryz.prog 78 #[.int .i64 x] W fun e w' => e = .returned (.bool b) ∧ w' = W) ∧ HexW s.data.toList (j + 1) x b := by
  have hS := brace_esc s h0 g2 he1 he2 hlen
  have hge := Lib.indexByte_ge s.data.toList 125
  have hat : s.data.toList[j]? = some 125 := by
    rw [byte_at hlt]
    exact congrArg some (UInt8.toNat_inj.1 (by show (s[j]'hlt).toNat = 125; omega))
  have hix : Lib.indexByte s.data.toList 125 = j := by
    rcases Int.lt_or_le (Lib.indexByte s.data.toList 125) 0 with hl | hle
    · exact (Lib.indexByte_none (show Lib.indexByte s.data.toList 125 = -1 by omega) j hat).elim
    · obtain ⟨o, ho⟩ : ∃ o : Nat, Lib.indexByte s.data.toList 125 = o := ⟨(Lib.indexByte s.data.toList 125).toNat, by omega⟩
      have hso := Lib.indexByte_some ho
      rw [ho]
      rcases Nat.lt_trichotomy o j with c | c | c
      · exact (h o c hso.1).elim
      · rw [c]
      · exact (hso.2 j c hat).elim
  rw [hix, Int.toNat_natCast] at hS
  have hex : (s.extract 3 j).data.toList = (s.data.toList.take j).drop 3 := by rw [Lib.extract_data, List.drop_take]
  have hsz : (s.extract 3 j).size = j - 3 := by rw [ByteArray.size_extract]; omega
  refine rhex_ways (s.extract 3 j) (by omega) (j + 1) _ ?_
  rw [hS, hex]
  by_cases hb : (j : Int) < 0 ∨ 9 < (j : Int)
  · rw [if_pos hb]
    have hx : Rs.hexS ((s.data.toList.take j).drop 3) = none := by
      unfold Rs.hexS
      rw [if_pos (.inr (by rw [← hex, ← Lib.size_eq, hsz]; omega))]
    rw [hx]; rfl
  · rw [if_neg hb]
-- REST
set_option maxRecDepth 100000 in
set_option maxHeartbeats 4000000 in
theorem resc_brace (s : ByteArray) (w : World) (g0 : 0 < s.size) (g1 : 1 < s.size) (h1 : ((((s[0]'g0).toNat : Int)) != 92) = false) (hx : Rs.sign ((s[1]'g1).toNat : Int) = none) (g2 : 2 < s.size) (g3 : 3 < s.size) (hmax : s.size ≤ 1000000000000) (he1 : ((s[1]'g1).toNat : Int) = 120) (he2 : ((s[2]'g2).toNat : Int) = 123) (hno : s.data.toList.length = s.size ∧ Rs.bt s.data.toList 0 = 92) :
    Calls Tryz.prog 42 #[.string s] w fun e w' => e = .returned (.tuple #[.int .i64 (Rs.escC s.data.toList), .int .i64 (Rs.escN s.data.toList), .int .i64 (Rs.escE s.data.toList)]) ∧ Below w.heap.size w w' := by
  have HX := Lib.hid hx
  clear hx
  have HB : Hid (Below w.heap.size w (w.alloc (.cells #[.int .i64 10, .int .i64 9, .int .i64 13, .int .i64 12, .int .i64 11, .int .i64 7] 3))) := Lib.hid (Bnew (Below.refl _ _) _)
  have HN := Lib.hid hno
  clear hno
  go_enter Tryz.func42, Tryz.ntmps42
  go_wp2
  go_loopw [7] (fun i wr => EcI 0 (w.alloc (.cells #[.int .i64 10, .int .i64 9, .int .i64 13, .int .i64 12, .int .i64 11, .int .i64 7] 3)) i wr) (fun i _ => 6 - (intOf i).toNat)
  case atStart => exact ⟨0, by decide, rfl, fun j hj => by omega, 0, rfl⟩
  case round =>
    obtain ⟨k, hk, rfl, hno, n, rfl⟩ := hrel
    clear hno
    have hb := (s[1]'g1).toNat_lt
    have i1 : ∀ W, (Instr.index 9 (.string s) (.int .i64 1)).run Tryz.prog W = .ok (.int .u8 ((s[1]'g1).toNat : Int)) W := fun W => by
      rw [run_index_string (h := Tryz.underlying9), dif_pos ⟨by decide, by omega⟩]; rfl
    by_cases h6 : k = 6
    · subst h6
      have c1 : 96 < (s[1]'g1).toNat := by omega
      have c2 : (s[1]'g1).toNat < 123 := by omega
      have hw : IntKind.i64.wrap ((s[1]'g1).toNat : Int) = ((s[1]'g1).toNat : Int) := by rw [IntKind.wrap_i64]; omega
      have HB1 : Hid (Below w.heap.size w ((w.alloc (.cells #[.int .i64 10, .int .i64 9, .int .i64 13, .int .i64 12, .int .i64 11, .int .i64 7] 3)).drewN n)) := Lib.hid (below_drewN HB.out _)
      clear HB
      generalize (w.alloc (.cells #[.int .i64 10, .int .i64 9, .int .i64 13, .int .i64 12, .int .i64 11, .int .i64 7] 3)).drewN n = W1 at *
      have HT : Hid (∀ j, j < 3 → s.data.toList[j]? ≠ some 125) := Lib.hid (brace_start g2 HN.out.2 he1 he2)
      go_wp2
      go_loopw [10] (fun t wr => EcT2 s W1 t wr) (fun t _ => s.size - (intOf t).toNat)
      case atStart => exact ⟨3, Nat.le_refl _, by omega, rfl, HT.out, rfl⟩
      case round =>
        obtain ⟨j, hj3, hjs, rfl, hnj, rfl⟩ := hrel
        have HJ := Lib.hid hnj
        clear hnj HT
        by_cases hlt : j < s.size
        · by_cases hq : ((s[j]'hlt).toNat : Int) = 125
          · obtain ⟨x, b, hhx, hpt, hv⟩ := brace_ways s j hmax HN.out.1 HN.out.2 g2 he1 he2 hlt hj3 hq HJ.out
            generalize hX : s.extract 3 j = X at *
            rcases hv with ⟨x0, rfl, e1, e2, e3⟩ | ⟨x0, rfl, e1, e2, e3⟩ | ⟨x0, e1, e2, e3⟩
            all_goals
              have HE := Lib.hid (And.intro e1 (And.intro e2 e3))
              clear e1 e2 e3
              go_wp2_with (first | (go_at_call 77; refine (hhx _).mono ?_; rintro e w1 ⟨rfl, rfl⟩) | (go_at_call 78; refine (hpt _).mono ?_; rintro e w1 ⟨rfl, rfl⟩))
              go_ret3
              refine ⟨?_, HB1.out⟩
              rw [HE.out.1, HE.out.2.1, HE.out.2.2]
              rfl
          · have HR : Hid (EcT2 s wr (.int .i64 ((j + 1 : Nat) : Int)) wr) := Lib.hid ⟨j + 1, by omega, hlt, rfl, brace_step hlt hq HJ.out, rfl⟩
            have hne : ((((s[j]'hlt).toNat : Int)) != 125) = true := by simpa using hq
            go_wp2
            go_roundw
            case rel => exact HR.out
            case measure => simp [intOf]; omega
        · obtain rfl : j = s.size := by omega
          obtain ⟨e1, e2, e3⟩ := brace_none s HN.out.1 HN.out.2 g2 he1 he2 HJ.out
          have HE := Lib.hid (And.intro e1 (And.intro e2 e3))
          clear e1 e2 e3
          go_wp2
          go_ret3
          refine ⟨?_, HB1.out⟩
          rw [HE.out.1, HE.out.2.1, HE.out.2.2]
          rfl
    · have HN : Hid (∀ j, j < k + 1 → sgs.getD j 0 ≠ 0) := Lib.hid (fun j hj => by
        have : ∀ q : Fin 6, sgs.getD q.val 0 ≠ 0 := by decide
        exact this ⟨j, by omega⟩)
      rcases (show k = 0 ∨ k = 1 ∨ k = 2 ∨ k = 3 ∨ k = 4 ∨ k = 5 by omega) with rfl | rfl | rfl | rfl | rfl | rfl
      · have hq : (((s[1]'g1).toNat : Int) == (((⟨#[110, 116, 114, 102, 118, 97]⟩ : ByteArray)[0]'(by decide)).toNat : Int)) = false := by
          rw [show (((⟨#[110, 116, 114, 102, 118, 97]⟩ : ByteArray)[0]'(by decide)).toNat : Int) = 110 from rfl]
          have hs := HX.out
          simp only [beq_eq_false_iff_ne, ne_eq]
          intro e
          rw [e] at hs
          cases hs
        go_wp2_with fail
        go_big_quiet (fail)
        go_wp2_with fail
        go_roundw
        case rel =>
          refine ⟨1, by decide, rfl, HN.out, ?_⟩
          first | exact ⟨_, World.drewN_drewN _ _ _⟩ | exact ⟨_, rfl⟩ | (rw [World.drewN_drewN]; exact ⟨_, rfl⟩)
        case measure => simp [intOf]
      · have hq : (((s[1]'g1).toNat : Int) == (((⟨#[110, 116, 114, 102, 118, 97]⟩ : ByteArray)[1]'(by decide)).toNat : Int)) = false := by
          rw [show (((⟨#[110, 116, 114, 102, 118, 97]⟩ : ByteArray)[1]'(by decide)).toNat : Int) = 116 from rfl]
          have hs := HX.out
          simp only [beq_eq_false_iff_ne, ne_eq]
          intro e
          rw [e] at hs
          cases hs
        go_wp2_with fail
        go_big_quiet (fail)
        go_wp2_with fail
        go_roundw
        case rel =>
          refine ⟨2, by decide, rfl, HN.out, ?_⟩
          first | exact ⟨_, World.drewN_drewN _ _ _⟩ | exact ⟨_, rfl⟩ | (rw [World.drewN_drewN]; exact ⟨_, rfl⟩)
        case measure => simp [intOf]
      · have hq : (((s[1]'g1).toNat : Int) == (((⟨#[110, 116, 114, 102, 118, 97]⟩ : ByteArray)[2]'(by decide)).toNat : Int)) = false := by
          rw [show (((⟨#[110, 116, 114, 102, 118, 97]⟩ : ByteArray)[2]'(by decide)).toNat : Int) = 114 from rfl]
          have hs := HX.out
          simp only [beq_eq_false_iff_ne, ne_eq]
          intro e
          rw [e] at hs
          cases hs
        go_wp2_with fail
        go_big_quiet (fail)
        go_wp2_with fail
        go_roundw
        case rel =>
          refine ⟨3, by decide, rfl, HN.out, ?_⟩
          first | exact ⟨_, World.drewN_drewN _ _ _⟩ | exact ⟨_, rfl⟩ | (rw [World.drewN_drewN]; exact ⟨_, rfl⟩)
        case measure => simp [intOf]
      · have hq : (((s[1]'g1).toNat : Int) == (((⟨#[110, 116, 114, 102, 118, 97]⟩ : ByteArray)[3]'(by decide)).toNat : Int)) = false := by
          rw [show (((⟨#[110, 116, 114, 102, 118, 97]⟩ : ByteArray)[3]'(by decide)).toNat : Int) = 102 from rfl]
          have hs := HX.out
          simp only [beq_eq_false_iff_ne, ne_eq]
          intro e
          rw [e] at hs
          cases hs
        go_wp2_with fail
        go_big_quiet (fail)
        go_wp2_with fail
        go_roundw
        case rel =>
          refine ⟨4, by decide, rfl, HN.out, ?_⟩
          first | exact ⟨_, World.drewN_drewN _ _ _⟩ | exact ⟨_, rfl⟩ | (rw [World.drewN_drewN]; exact ⟨_, rfl⟩)
        case measure => simp [intOf]
      · have hq : (((s[1]'g1).toNat : Int) == (((⟨#[110, 116, 114, 102, 118, 97]⟩ : ByteArray)[4]'(by decide)).toNat : Int)) = false := by
          rw [show (((⟨#[110, 116, 114, 102, 118, 97]⟩ : ByteArray)[4]'(by decide)).toNat : Int) = 118 from rfl]
          have hs := HX.out
          simp only [beq_eq_false_iff_ne, ne_eq]
          intro e
          rw [e] at hs
          cases hs
        go_wp2_with fail
        go_big_quiet (fail)
        go_wp2_with fail
        go_roundw
        case rel =>
          refine ⟨5, by decide, rfl, HN.out, ?_⟩
          first | exact ⟨_, World.drewN_drewN _ _ _⟩ | exact ⟨_, rfl⟩ | (rw [World.drewN_drewN]; exact ⟨_, rfl⟩)
        case measure => simp [intOf]
      · have hq : (((s[1]'g1).toNat : Int) == (((⟨#[110, 116, 114, 102, 118, 97]⟩ : ByteArray)[5]'(by decide)).toNat : Int)) = false := by
          rw [show (((⟨#[110, 116, 114, 102, 118, 97]⟩ : ByteArray)[5]'(by decide)).toNat : Int) = 97 from rfl]
          have hs := HX.out
          simp only [beq_eq_false_iff_ne, ne_eq]
          intro e
          rw [e] at hs
          cases hs
        go_wp2_with fail
        go_big_quiet (fail)
        go_wp2_with fail
        go_roundw
        case rel =>
          refine ⟨6, by decide, rfl, HN.out, ?_⟩
          first | exact ⟨_, World.drewN_drewN _ _ _⟩ | exact ⟨_, rfl⟩ | (rw [World.drewN_drewN]; exact ⟨_, rfl⟩)
        case measure => simp [intOf]
end Go.Proofs.YtkjilodmmcefbaaGreatDoor
/- The reference's Escape, all its ways. -/
namespace Go.Proofs.YtkjilodmmcefbaaGreatDoor
open Go.RowKit Go.Shelf
theorem chr_marks (b : Nat) : (32 < (b : Int) ∧ (b : Int) < 127 ∧ Rs.letterB b = false) ↔ ((33 ≤ b ∧ b ≤ 47) ∨ (58 ≤ b ∧ b ≤ 64) ∨ (91 ≤ b ∧ b ≤ 96) ∨ (123 ≤ b ∧ b ≤ 126)) := by
  unfold Rs.letterB
  simp only [Bool.or_eq_false_iff, Bool.and_eq_false_iff, decide_eq_false_iff_not]
  omega
theorem refEscape_calls (s : ByteArray) (w : World) (hmax : s.size ≤ 1000000000000) :
    Calls Tryz.prog 42 #[.string s] w (EscPost s.data.toList w) := by
  have hlen : s.data.toList.length = s.size := by rw [Lib.size_eq]
  by_cases h2 : s.size < 2
  · exact resc_short s w (.inl h2)
  · by_cases h0 : Rs.bt s.data.toList 0 = 92
    · have g0 : 0 < s.size := by omega
      have g1 : 1 < s.size := by omega
      have b0 := Rs.esc_get g0
      have b1 := Rs.esc_get g1
      have h1 : ((((s[0]'g0).toNat : Int)) != 92) = false := by rw [← b0, h0]; rfl
      cases hs : Rs.sign (Rs.bt s.data.toList 1) with
      | some x => exact resc_sign s w (by omega) h0 x hs
      | none =>
        have hx : Rs.sign ((s[1]'g1).toNat : Int) = none := by rw [← b1]; exact hs
        by_cases hc : (33 ≤ (s[1]'g1).toNat ∧ (s[1]'g1).toNat ≤ 47) ∨ (58 ≤ (s[1]'g1).toNat ∧ (s[1]'g1).toNat ≤ 64) ∨ (91 ≤ (s[1]'g1).toNat ∧ (s[1]'g1).toNat ≤ 96) ∨ (123 ≤ (s[1]'g1).toNat ∧ (s[1]'g1).toNat ≤ 126)
        · have h120 : ¬ Rs.bt s.data.toList 1 = 120 := by rw [b1]; omega
          have hS := Rs.esc_chr (by omega) h0 hs (fun h => h120 h.1) (fun h => h120 h.1)
          rw [if_pos (by rw [b1]; exact (chr_marks _).2 hc), b1] at hS
          obtain ⟨e1, e2, e3⟩ := esc_some hS
          refine (resc_chr s w g0 g1 h1 hx hc).mono fun e w' hh => ?_
          unfold EscPost
          rw [e1, e2, e3]
          exact hh
        · by_cases hz : (s[1]'g1).toNat = 120 ∧ 4 ≤ s.size
          · have g2 : 2 < s.size := by omega
            have he1 : ((s[1]'g1).toNat : Int) = 120 := by omega
            have b2 := Rs.esc_get g2
            by_cases hb : Rs.bt s.data.toList 2 = 123
            · exact resc_brace s w g0 g1 h1 hx g2 (by omega) hmax he1 (by rw [← b2]; exact hb) ⟨hlen, h0⟩
            · have hS := Rs.esc_two (by omega) h0 hs (by rw [b1]; exact he1) (fun h => hb h.2) (by omega)
              have hex : (s.extract 2 4).data.toList = (s.data.toList.take 4).drop 2 := by rw [Lib.extract_data, List.drop_take]
              have hsz : (s.extract 2 4).size ≤ 2 := by rw [ByteArray.size_extract]; omega
              rw [← hex] at hS
              obtain ⟨x, b, hhx, hpt, hv⟩ := rhex_ways (s.extract 2 4) (by omega) 4 _ hS
              exact resc_two s w g0 g1 h1 hx (by omega) he1 (by rw [← b2]; simpa using hb) x b hhx hpt hv
          · have hz' : (s[1]'g1).toNat ≠ 120 ∨ s.size < 4 := by omega
            have hn : Rs.escS s.data.toList = none := by
              by_cases hq : Rs.bt s.data.toList 1 = 120 ∧ 2 < s.data.toList.length ∧ Rs.bt s.data.toList 2 = 123
              · have hS := Rs.esc_dig (by omega) h0 hs hq.1 hq.2.1 hq.2.2
                have hge := Lib.indexByte_ge s.data.toList 125
                have hn0 : Lib.indexByte s.data.toList 125 < 0 := by
                  rcases Int.lt_or_le (Lib.indexByte s.data.toList 125) 0 with hlt | hle
                  · exact hlt
                  · exfalso
                    obtain ⟨o, ho⟩ : ∃ o : Nat, Lib.indexByte s.data.toList 125 = o := ⟨(Lib.indexByte s.data.toList 125).toNat, by omega⟩
                    have hso := (Lib.indexByte_some ho).1
                    have hl := (List.getElem?_eq_some_iff.1 hso).1
                    have hb : Rs.bt s.data.toList o = 125 := by
                      unfold Rs.bt
                      rw [List.getD, hso]
                      rfl
                    have := hq.1
                    have h120 : (s[1]'g1).toNat = 120 := by omega
                    rcases (show o = 0 ∨ o = 1 ∨ o = 2 by omega) with rfl | rfl | rfl
                    · omega
                    · omega
                    · have := hq.2.2; omega
                rw [if_pos (.inl hn0)] at hS
                exact hS
              · have hS := Rs.esc_chr (by omega) h0 hs hq (fun h => by have := h.1; omega)
                rw [if_neg (by rw [b1]; exact fun h => hc ((chr_marks _).1 h))] at hS
                exact hS
            obtain ⟨e1, e2, e3⟩ := esc_none hn
            refine (resc_nox s w g0 g1 h1 hx hc hz').mono fun e w' hh => ?_
            unfold EscPost
            rw [e1, e2, e3]
            exact hh
    · exact resc_short s w (.inr ⟨by omega, h0⟩)
end Go.Proofs.YtkjilodmmcefbaaGreatDoor
