/- The reference's mark and Text: as specified. -/
import Derived.Test.YtkjilodmmcefbaaGreatDoorText
import Derived.Test.YtkjilodmmcefbaaGreatDoorLw2
namespace Go.Proofs.YtkjilodmmcefbaaGreatDoor
open Go.RowKit Go.Shelf
namespace Rs
theorem hexT_step {f n : Nat} (h : n < 16 ^ f) (hf : 1 ≤ f) : (n < 16 ∧ hexT f n = [hexDig n]) ∨ (16 ≤ n ∧ 2 ≤ f ∧ n / 16 < 16 ^ (f - 1) ∧ hexT f n = hexT (f - 1) (n / 16) ++ [hexDig (n % 16)]) := by
  obtain ⟨g, rfl⟩ : ∃ g, f = g + 1 := ⟨f - 1, by omega⟩
  by_cases hn : n < 16
  · exact .inl ⟨hn, by rw [hexT, if_pos hn]⟩
  · refine .inr ⟨by omega, ?_, ?_, by rw [hexT, if_neg hn]; rfl⟩
    · rcases Nat.eq_zero_or_pos g with e | e
      · subst e; simp at h; omega
      · omega
    · rw [Nat.pow_succ] at h
      exact Nat.div_lt_of_lt_mul (by rw [Nat.mul_comm]; exact h)
end Rs
def szm (o : Value) : Nat := match o with | .string b => if b.data.size = 0 then 1 else 0 | _ => 0
def MkI (C : Nat) (i o : Value) : Prop :=
  ∃ (n f : Nat) (t : List UInt8), i = .int .i64 n ∧ o = .string ⟨t.toArray⟩ ∧ t.length ≤ 16 ∧ t.length + f ≤ 16 ∧ n ≤ C ∧ ((t = [] ∧ n = C) ∨ t ≠ []) ∧ ((n = 0 ∧ t ≠ [] ∧ t = Rs.hexT 16 C) ∨ ((t = [] ∨ 0 < n) ∧ 1 ≤ f ∧ n < 16 ^ f ∧ Rs.hexT 16 C = Rs.hexT f n ++ t))
theorem MkI.step {C n f : Nat} {t : List UInt8} (h2 : t.length + f ≤ 16) (h3 : n ≤ C) (h5 : (t = [] ∨ 0 < n) ∧ 1 ≤ f ∧ n < 16 ^ f ∧ Rs.hexT 16 C = Rs.hexT f n ++ t) :
    MkI C (.int .i64 ((n / 16 : Nat) : Int)) (.string ⟨([Rs.hexDig (n % 16)] ++ t).toArray⟩) := by
  obtain ⟨h5, h6, h7, h8⟩ := h5
  rcases Rs.hexT_step h7 h6 with ⟨a, b⟩ | ⟨a, b, c, d⟩
  · refine ⟨0, f - 1, [Rs.hexDig (n % 16)] ++ t, ?_, rfl, by simp; omega, by simp; omega, by omega, .inr (by simp), .inl ⟨rfl, by simp, ?_⟩⟩
    · rw [Nat.div_eq_of_lt a]
    · rw [h8, b, Nat.mod_eq_of_lt a]
  · refine ⟨n / 16, f - 1, [Rs.hexDig (n % 16)] ++ t, rfl, rfl, by simp; omega, by simp; omega, by omega, .inr (by simp), .inr ⟨.inr (by omega), by omega, c, ?_⟩⟩
    rw [h8, d, List.append_assoc]
theorem dig_fin : ∀ d : Fin 16, (⟨#[48, 49, 50, 51, 52, 53, 54, 55, 56, 57, 65, 66, 67, 68, 69, 70]⟩ : ByteArray).extract d.val (d.val + 1) = ⟨#[Rs.hexDig d.val]⟩ := by decide +kernel
theorem bytes_cat (a b : List UInt8) : (⟨a.toArray⟩ ++ ⟨b.toArray⟩ : ByteArray) = ⟨(a ++ b).toArray⟩ := by
  apply ByteArray.ext
  simp [ByteArray.data_append]
theorem dig_cat (n : Nat) (t : List UInt8) : (⟨#[48, 49, 50, 51, 52, 53, 54, 55, 56, 57, 65, 66, 67, 68, 69, 70]⟩ : ByteArray).extract (n % 16) (n % 16 + 1) ++ ⟨t.toArray⟩ = ⟨([Rs.hexDig (n % 16)] ++ t).toArray⟩ := by
  rw [dig_fin ⟨n % 16, Nat.mod_lt _ (by decide)⟩]
  exact bytes_cat [Rs.hexDig (n % 16)] t
set_option maxRecDepth 100000 in
set_option maxHeartbeats 4000000 in
theorem rmark_calls (c : Int) (h0 : 0 ≤ c) (h1 : c ≤ 1114111) (w : World) :
    Calls Tryz.prog 93 #[.int .i64 c] w fun e w' => e = .returned (.string ⟨(Rs.markS c).toArray⟩) ∧ w' = w := by
  by_cases hp : Rs.plainB c = true
  · have hpp := hp
    simp only [Rs.plainB, decide_eq_true_eq] at hpp
    obtain ⟨p1, p2, p3, p4, p5, p6, p7⟩ := hpp
    have hw32 : IntKind.i32.wrap c = c := by rw [IntKind.wrap_i32]; omega
    have he := Lib.hid (Rs.enc_ascii c h0 (by omega))
    have hm : Hid (Rs.markS c = [UInt8.ofNat c.toNat]) := Lib.hid (by simp [Rs.markS, hp])
    clear hp
    have q3 : (c != 45) = true := by simp; omega
    have q4 : (c != 91) = true := by simp; omega
    have q5 : (c != 92) = true := by simp; omega
    have q6 : (c != 93) = true := by simp; omega
    have q7 : (c != 94) = true := by simp; omega
    go_enter Tryz.func93, Tryz.ntmps93
    go_wp2
    go_ret
    exact ⟨by rw [he.out, hm.out]; rfl, rfl⟩
  · have hp' : Rs.plainB c = false := by simpa using hp
    have hm : Hid (Rs.markS c = [92, 120, 123] ++ Rs.hexT 16 c.toNat ++ [125]) := Lib.hid (by simp [Rs.markS, hp'])
    simp only [Rs.plainB, decide_eq_false_iff_not] at hp'
    clear hp
    obtain ⟨C, rfl⟩ : ∃ C : Nat, c = C := ⟨c.toNat, by omega⟩
    have hM0 : Hid (MkI C (.int .i64 C) (.string ⟨#[]⟩)) := Lib.hid ⟨C, 16, [], rfl, rfl, by simp, by simp, Nat.le_refl _, .inl ⟨rfl, rfl⟩, .inr ⟨.inl rfl, by decide, Nat.lt_of_lt_of_le (show C < 1114112 by omega) (by decide), by simp⟩⟩
    rcases (show C < 33 ∨ 126 < C ∨ C = 45 ∨ C = 91 ∨ C = 92 ∨ C = 93 ∨ C = 94 by omega) with h | h | h | h | h | h | h
    all_goals
      go_enter Tryz.func93, Tryz.ntmps93
      go_wp2
      all_goals
        go_loopw [0, 3] (fun i o wr => MkI C i o ∧ wr = w) (fun i o _ => (intOf i).toNat + szm o)
        case atStart =>
          have e : ∀ z : Int, z = C → MkI C (.int .i64 z) (.string ⟨#[]⟩) := fun z hz => by rw [hz]; exact hM0.out
          exact ⟨e _ (by omega), rfl⟩
        case round =>
          clear hM0
          obtain ⟨⟨n, f, t, rfl, rfl, h1, h2, h3, h4, h5⟩, rfl⟩ := hrel
          rcases h5 with ⟨rfl, hne, he⟩ | h5
          · have hq : t.isEmpty = false := by simpa using hne
            have HE := Lib.hid he
            clear he h4
            go_wp2
            go_ret
            refine ⟨?_, rfl⟩
            rw [hm.out, show ((C : Int).toNat) = C from rfl, ← HE.out]
            rw [show ((⟨#[92, 120, 123]⟩ ++ ⟨t.toArray⟩ ++ ⟨#[125]⟩ : ByteArray)) = ⟨([92, 120, 123] ++ t ++ [125]).toArray⟩ from (congrArg (· ++ (⟨#[125]⟩ : ByteArray)) (bytes_cat [92, 120, 123] t)).trans (bytes_cat ([92, 120, 123] ++ t) [125])]
            rfl
          · have hS := Lib.hid (MkI.step h2 h3 h5)
            rcases h4 with ⟨rfl, -⟩ | hne
            · clear h5
              go_wp2
              exact ⟨⟨by rw [show (#[] : Array UInt8) = ([] : List UInt8).toArray from rfl, dig_cat]; exact hS.out, trivial⟩, by rw [show (#[] : Array UInt8) = ([] : List UInt8).toArray from rfl, dig_cat]; simp [szm, intOf]; omega⟩
            · have hq : t.isEmpty = false := by simpa using hne
              have hn0 : 0 < n := h5.1.resolve_left hne
              clear h5
              go_wp2
              exact ⟨⟨by rw [dig_cat]; exact hS.out, trivial⟩, by rw [dig_cat]; simp [szm, intOf]; omega⟩
-- TEXT
def RtI (l : Rs.S) (w : World) (o i : Value) (wr : World) : Prop := ∃ k : Nat, k ≤ l.length ∧ i = .int .i64 k ∧ o = .string ⟨([91] ++ (l.take k).flatMap Rs.rangeT).toArray⟩ ∧ Below w.heap.size w wr
set_option maxRecDepth 100000 in
set_option maxHeartbeats 4000000 in
theorem rtext_calls (a : Option Addr) (cap : Nat) (l : Rs.S) (w : World) (hrd : RdR w a l) (hn : l.length ≤ 100000) :
    Calls Tryz.prog 64 #[.slice a l.length cap] w fun e w' => e = .returned (.tuple #[.string ⟨(Rs.textE l).toArray⟩, .int .i64 (Rs.err (Rs.right l))]) ∧ Below w.heap.size w w' := by
  have hr := ref_right_b a cap l w hrd (by omega)
  cases hp : Rs.right l
  · rw [hp] at hr
    have ht : Rs.textE l = [] := by simp [Rs.textE, hp]
    rw [ht]
    clear ht hrd
    go_enter Tryz.func64, Tryz.ntmps64
    go_wp2_with (go_at_call 66; refine hr.mono ?_; clear hr; rintro e w1 ⟨rfl, hb⟩)
    go_ret2
    exact ⟨rfl, hb⟩
  · rw [hp] at hr
    have ht : Rs.textE l = Rs.textS l := by simp [Rs.textE, hp]
    rw [ht]
    have hrg := Rs.right_rg hp
    have hlen := Rs.right_len hp
    by_cases h0 : l = []
    · subst h0
      clear ht hrd hp hrg hlen
      have m0 := fun w => rmark_calls 0 (by decide) (by decide) w
      have m1 := fun w => rmark_calls 1114111 (by decide) (by decide) w
      rw [show Rs.markS 0 = [92, 120, 123, 48, 125] by decide] at m0
      rw [show Rs.markS 1114111 = [92, 120, 123, 49, 48, 70, 70, 70, 70, 125] by decide] at m1
      go_enter Tryz.func64, Tryz.ntmps64
      go_wp2_with (first
        | (go_at_call 66; refine hr.mono ?_; clear hr; rintro e w1 ⟨rfl, hb⟩)
        | (refine (m0 _).mono ?_; clear m0; rintro e w2 ⟨rfl, rfl⟩)
        | (refine (m1 _).mono ?_; clear m1; rintro e w2 ⟨rfl, rfl⟩))
      go_ret2
      exact ⟨rfl, hb⟩
    · have hl0 : 0 < l.length := List.length_pos_iff.2 h0
      have HT := Lib.hid (show Rs.textS l = [91] ++ l.flatMap Rs.rangeT ++ [93] by simp [Rs.textS, h0])
      have HX := Lib.hid (show _ ∧ _ ∧ _ from ⟨hrd, hrg, Rs.flat_len l hrg⟩)
      have hl0' : ((l.length : Int) == 0) = false := by simp; omega
      clear ht hrd hp hrg h0
      go_enter Tryz.func64, Tryz.ntmps64
      go_wp2_with (go_at_call 66; refine hr.mono ?_; clear hr; rintro e w1 ⟨rfl, hb⟩)
      have HB := Lib.hid hb
      clear hb
      go_loopw [4, 5] (fun o i wr => RtI l w o i wr) (fun _ i _ => l.length - (intOf i).toNat)
      case atStart => exact ⟨0, Nat.zero_le _, rfl, by simp, HB.out⟩
      case round =>
        clear HB
        obtain ⟨k, hk, rfl, rfl, hb⟩ := hrel
        obtain ⟨hrd, hrg, hfl⟩ := HX.out
        by_cases hlt : k < l.length
        · obtain ⟨ba, off, rfl, hbl, hc⟩ := (RdR.lift hrd hb) (by intro e; subst e; simp at hlt)
          obtain ⟨r, hr⟩ : ∃ r, l[k]? = some r := ⟨_, List.getElem?_eq_getElem hlt⟩
          obtain ⟨c0, c1⟩ := hc k _ hr
          have hrr : Rs.rg r := hrg _ (List.mem_of_getElem? hr)
          have hst := Lib.hid (Rs.flat_step hr)
          have hlt2 : ((l.take k).flatMap Rs.rangeT).length ≤ 4100000 := by
            have h1 := Rs.flat_len (l.take k) (fun q hq => hrg q (List.mem_of_mem_take hq))
            rw [List.length_take] at h1
            omega
          have HK := Lib.hid hb
          generalize hacc : (l.take k).flatMap Rs.rangeT = acc at *
          clear hr hc hrd hrg hfl hb
          obtain ⟨lo, hi⟩ := r
          obtain ⟨o1, o2, o3⟩ := hrr
          dsimp only at c0 c1 o1 o2 o3
          have hml := Rs.markS_len lo (by omega) (by omega)
          have hmh := Rs.markS_len hi (by omega) (by omega)
          have hma := fun W => rmark_calls lo (by omega) (by omega) W
          have hmb := fun W => rmark_calls hi (by omega) (by omega) W
          have hro : Hid (Rs.rangeT (lo, hi) = Rs.markS lo ++ (if lo < hi then [45] ++ Rs.markS hi else [])) := Lib.hid rfl
          generalize Rs.markS lo = ml at *
          generalize Rs.markS hi = mh at *
          have hL91 : ([91] ++ acc).length ≤ 4100001 := by simp; omega
          have hA2 : ([91] ++ acc ++ ml).length ≤ 4100021 := by simp; omega
          have hA3 : ([91] ++ acc ++ ml ++ [45]).length ≤ 4100022 := by simp; omega
          have a1 : ∀ W, (Op.stringOp .add ⟨([91] ++ acc).toArray⟩ ⟨ml.toArray⟩).run Tryz.prog W = .ok (.string ⟨([91] ++ acc ++ ml).toArray⟩) W := fun W => run_string_add_lists W ([91] ++ acc) ml (by omega) (by omega)
          have a2 : ∀ W, (Op.stringOp .add ⟨([91] ++ acc ++ ml).toArray⟩ ⟨#[45]⟩).run Tryz.prog W = .ok (.string ⟨([91] ++ acc ++ ml ++ [45]).toArray⟩) W := fun W => run_string_add_lists W ([91] ++ acc ++ ml) [45] (by omega) (by simp)
          have a3 : ∀ W, (Op.stringOp .add ⟨([91] ++ acc ++ ml ++ [45]).toArray⟩ ⟨mh.toArray⟩).run Tryz.prog W = .ok (.string ⟨([91] ++ acc ++ ml ++ [45] ++ mh).toArray⟩) W := fun W => run_string_add_lists W ([91] ++ acc ++ ml ++ [45]) mh (by omega) (by omega)
          have R1 : Hid (lo = hi → [91] ++ acc ++ ml = [91] ++ (l.take (k + 1)).flatMap Rs.rangeT) := Lib.hid (fun e => by rw [hst.out, hro.out, if_neg (by omega)]; simp)
          have R2 : Hid (lo < hi → [91] ++ acc ++ ml ++ [45] ++ mh = [91] ++ (l.take (k + 1)).flatMap Rs.rangeT) := Lib.hid (fun e => by rw [hst.out, hro.out, if_pos e]; simp)
          clear hst hro hacc
          generalize [91] ++ acc ++ ml ++ [45] ++ mh = A4 at *
          generalize [91] ++ acc ++ ml ++ [45] = A3 at *
          generalize [91] ++ acc ++ ml = A2 at *
          generalize [91] ++ acc = A1 at *
          go_wp2_with fail
          refine (hma _).mono ?_
          rintro e w3 ⟨rfl, rfl⟩
          by_cases hlh : lo = hi
          · subst hlh
            have hne : ((lo : Int) != lo) = false := by simp
            go_wp2_with fail
            go_big_quiet (fail)
            go_wp2_with fail
            go_roundw
            case rel =>
              exact ⟨k + 1, by omega, by go_num, by rw [R1.out (by simp)], (by first | exact HK.out | exact below_drewN HK.out _)⟩
            case measure => simp [intOf]; omega
          · have hne : ((lo : Int) != hi) = true := by simp; omega
            go_wp2_with fail
            go_big_quiet (fail)
            go_wp2_with fail
            refine (hmb _).mono ?_
            rintro e w4 ⟨rfl, rfl⟩
            go_wp2_with fail
            go_roundw
            case rel =>
              exact ⟨k + 1, by omega, by go_num, by rw [R2.out (by omega)], (by first | exact HK.out | exact below_drewN HK.out _)⟩
            case measure => simp [intOf]; omega
        · have HK := Lib.hid hb
          obtain rfl : k = l.length := by omega
          have hf : (l.take l.length).flatMap Rs.rangeT = l.flatMap Rs.rangeT := by rw [List.take_length]
          have hlt2 : (l.flatMap Rs.rangeT).length ≤ 4100000 := by omega
          have HF := Lib.hid hf
          rw [hf]
          have a1 : ∀ W, (Op.stringOp .add ⟨([91] ++ l.flatMap Rs.rangeT).toArray⟩ ⟨#[93]⟩).run Tryz.prog W = .ok (.string ⟨([91] ++ l.flatMap Rs.rangeT ++ [93]).toArray⟩) W := fun W => run_string_add_lists W ([91] ++ l.flatMap Rs.rangeT) [93] (by rw [List.length_append]; simp only [List.length_cons, List.length_nil]; omega) (by simp)
          clear hfl hb hrd hrg hlt2 hf HX
          generalize hA1 : [91] ++ l.flatMap Rs.rangeT ++ [93] = A2 at *
          generalize hA2 : [91] ++ l.flatMap Rs.rangeT = A1 at *
          clear hA1 hA2
          go_wp2
          go_ret2
          exact ⟨by rw [HT.out]; rfl, HK.out⟩
end Go.Proofs.YtkjilodmmcefbaaGreatDoor
