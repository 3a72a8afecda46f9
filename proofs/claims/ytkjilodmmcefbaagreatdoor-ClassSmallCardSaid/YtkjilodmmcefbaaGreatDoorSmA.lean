/- The law ClassSmall: it returns true. -/
import Derived.Test.YtkjilodmmcefbaaGreatDoorSmL
import Derived.Test.YtkjilodmmcefbaaGreatDoorSmT
namespace Go.Proofs.YtkjilodmmcefbaaGreatDoor
open Go.RowKit Go.Shelf
/-- a slice of ranges that lies outside a given block -/
def IsSl (w : World) (ob : Option Nat) (x : Value) : Prop := ∃ a cap l, x = .slice a l.length cap ∧ Sl w a cap l ∧ l.length ≤ 1114113 ∧ ∀ p, a = some p → ob ≠ some p.block
theorem IsSl.below {w w1 : World} {ob : Option Nat} {x : Value} (h : IsSl w ob x) (hb : Below w.heap.size w w1) : IsSl w1 ob x := by
  obtain ⟨a, cap, l, h1, h2, h3, h4⟩ := h
  exact ⟨a, cap, l, h1, h2.below hb, h3, h4⟩
/-- an element of the list of sets is kept when the list grows -/
theorem IsSl.grown {w w1 : World} {ob ob' : Option Nat} {x : Value} (h : IsSl w ob x) (hg : w.grownBy w1 ob) (hn : ob' = ob ∨ ob' = some w.heap.size) : IsSl w1 ob' x := by
  obtain ⟨a, cap, l, h1, h2, h3, h4⟩ := h
  have hk : KeptB ob.toList w w1 := ⟨hg.os, hg.tape, hg.output, hg.size, fun i hi hne => hg.block i hi (fun e => hne (by rw [← e]; simp))⟩
  refine ⟨a, cap, l, h1, hk.sl h2 (fun p e hm => h4 p e (by simpa using hm)), h3, fun p e => ?_⟩
  rcases hn with hn | hn
  · rw [hn]; exact h4 p e
  · rw [hn]
    have := (h2.sp p e).2
    intro e2
    have := Option.some.inj e2
    omega
def SetsI (w1 : World) (m : Nat) (v i : Value) (wr : World) : Prop :=
  ∃ (k : Nat) (vs : List Value), k ≤ m ∧ i = .int .i64 k ∧ wr.ownsRow w1.heap.size 25 1 v k vs ∧ (∀ x ∈ vs, IsSl wr v.ownBlock x) ∧ Below w1.heap.size w1 wr
def ColI (w0 : World) (m : Nat) (v i : Value) (wr : World) : Prop :=
  ∃ (k : Nat) (acc : Rs.S), k ≤ m ∧ i = .int .i64 k ∧ acc.length ≤ k ∧ wr.ownsRow w0.heap.size 59 2 v acc.length (rFlat acc) ∧ Below w0.heap.size w0 wr
theorem jl {l : Rs.S} (h : l.length ≤ 1114113) : l.length ≤ 9223372036854775807 := Nat.le_trans h (by decide)
def bases : List Int := [0, 55292, 57342, 1114107]
theorem base_at {k : Nat} (h : k < 4) : ∃ b, bases[k]? = some b ∧ 0 ≤ b ∧ b ≤ 1114107 := by
  rcases (show k = 0 ∨ k = 1 ∨ k = 2 ∨ k = 3 by omega) with rfl | rfl | rfl | rfl
  · exact ⟨0, rfl, by decide, by decide⟩
  · exact ⟨55292, rfl, by decide, by decide⟩
  · exact ⟨57342, rfl, by decide, by decide⟩
  · exact ⟨1114107, rfl, by decide, by decide⟩
theorem own_some {W : World} {base k size : Nat} {T : TypeId} {v : Value} {xs : List Value} (h : W.ownsRow base T size v k xs) (hk : 0 < k) : ∃ g cap, v = .slice (some ⟨g, 0, none⟩) k cap ∧ g < W.heap.size := by
  rcases h.2 with ⟨rfl, h0⟩ | ⟨g, cap, cur, rfl, hb, hg, rest⟩
  · omega
  · exact ⟨g, cap, rfl, (Array.getElem?_eq_some_iff.1 hg).1⟩
theorem sl_two (W : World) (o : Obj) (l : Rs.S) (T : TypeId) : Sl ((W.alloc o).alloc (.cells (rFlat l).toArray T)) (some ⟨W.heap.size + 1, 0, none⟩) l.length l := by
  have h := Sl.alloc_new (W.alloc o) l T
  rwa [show (W.alloc o).heap.size = W.heap.size + 1 by simp] at h
theorem infoSl : (Tryz.prog.info? 25).map (fun i => (i.zero, i.size, i.bytes)) = some (some (.slice none 0 0), 1, 24) := by kernel_rfl
-- WALK
def endsL : List Int := [(-9223372036854775808), (-1), 0, 1, 2, 3, 55295, 55296, 57343, 57344, 1114111, 1114112, 9223372036854775807]
theorem ends_at {j : Nat} (h : j < 13) : ∃ x, endsL[j]? = some x := ⟨_, List.getElem?_eq_getElem (show j < endsL.length from h)⟩
set_option maxRecDepth 100000 in
set_option maxHeartbeats 16000000 in
theorem ClassSmall_calls (w : World) (hL : Lv w) : Calls Tryz.prog 10 #[] w fun e w' => e = .returned (.bool true) ∧ Below w.heap.size w w' := by
  have HAB := Lib.hid hL
  clear hL
  go_enter Tryz.func10, Tryz.ntmps10
  go_wp2
  obtain ⟨w1, hw1⟩ : ∃ w1, w.alloc (.cells #[.int .i64 0, .int .i64 55292, .int .i64 57342, .int .i64 1114107] 3) = w1 := ⟨_, rfl⟩
  have HC : Hid (∀ j x, bases[j]? = some x → w1.cell? ⟨w.heap.size, j, none⟩ = some (.int .i64 x)) := Lib.hid (fun j x h => by rw [← hw1]; exact ints_new w bases 3 _ rfl j x h)
  have HB1 : Hid (Below w.heap.size w w1) := Lib.hid (by rw [← hw1]; exact Bnew (Below.refl _ _) _)
  have HS1 : Hid (w1.heap.size = w.heap.size + 1) := Lib.hid (by rw [← hw1]; simp)
  generalize w.alloc (.cells #[.int .i64 0, .int .i64 55292, .int .i64 57342, .int .i64 1114107] 3) = w1' at *
  subst hw1
  obtain ⟨i0, hi0, hz0, hz1, hz2⟩ := info_parts infoSl
  go_loopw [21] (fun i wr => ∃ k : Nat, k ≤ 4 ∧ i = .int .i64 k ∧ Below w1'.heap.size w1' wr) (fun i _ => 4 - (intOf i).toNat)
  case atStart => exact ⟨0, Nat.zero_le _, rfl, Below.refl _ _⟩
  case round =>
    obtain ⟨k, hk, rfl, hb⟩ := hrel
    obtain ⟨wA, hwA⟩ : ∃ x, x = wr := ⟨_, rfl⟩
    subst hwA
    by_cases hlt : k < 4
    · obtain ⟨b, eb, b0, b1⟩ := base_at hlt
      have cb := (hb.cell (p := ⟨w.heap.size, k, none⟩) (by rw [HS1.out]; exact Nat.lt_succ_self _)).trans (HC.out k b eb)
      have HKA := Lib.hid hb
      have HLA := Lib.hid ((HAB.out.below HB1.out).below hb)
      clear hb eb
      have dk : decide ((k : Int) < 4) = true := decide_eq_true (by omega)
      go_wp2
      clear cb
      go_loopw [3, 25] (fun v i wr => SetsI wA 32 v i wr) (fun _ i _ => 32 - (intOf i).toNat)
      case atStart => exact ⟨0, [], Nat.zero_le _, rfl, World.ownsRow_nil _ _ _ _, (fun x hx => by cases hx), Below.refl _ _⟩
      case round =>
        obtain ⟨m, vs, hm, rfl, hrow, hall, hb⟩ := hrel
        obtain ⟨wB, hwB⟩ : ∃ x, x = wr := ⟨_, rfl⟩
        subst hwB
        by_cases hlt2 : m < 32
        · have HR := Lib.hid (And.intro hrow (And.intro hall hb))
          clear hrow hall hb
          have dm : decide ((m : Int) < 32) = true := decide_eq_true (by omega)
          go_wp2
          go_loopw [5, 28] (fun v i wr => ColI wB 5 v i wr) (fun _ i _ => 5 - (intOf i).toNat)
          case atStart => exact ⟨0, [], Nat.zero_le _, rfl, Nat.le_refl _, World.ownsRow_nil _ _ _ _, Below.refl _ _⟩
          case round =>
            obtain ⟨n, acc, hn, rfl, hacc, hrow, hb⟩ := hrel
            by_cases hlt3 : n < 5
            · have HCo := Lib.hid (And.intro hrow hb)
              have hbs := hb.size
              clear hrow hb
              have hwb : IntKind.i64.wrap (b + (n : Int)) = b + (n : Int) := by rw [IntKind.wrap_i64]; omega
              go_wp2_with (at_builtin; refine wpList_append_R rfl _ _ 58 59 rfl Tryz.underlying58 Tryz.info59 wB.heap.size u5 acc.length (rFlat acc) rfl (HCo.out.1.alloc _) (some ⟨wr.heap.size, 0, none⟩) [(b + (n : Int), b + (n : Int))] 1 rfl (Sl.alloc_new wr [(b + (n : Int), b + (n : Int))] _) (by simp; omega) (by simp; omega) ?_; rintro v2 w2 hown2 - hb2)
              · go_roundw
                case rel => exact ⟨n + 1, acc ++ [(b + (n : Int), b + (n : Int))], by omega, by go_num, by simp; omega, by rw [List.length_append, rFlat_append]; exact hown2, hb2 _ (HCo.out.2.alloc hbs _)⟩
                case measure => simp [intOf]; omega
              · go_roundw
                case rel => exact ⟨n + 1, acc, by omega, by go_num, by omega, HCo.out.1, HCo.out.2⟩
                case measure => simp [intOf]; omega
            · have hge3 : (5 : Int) ≤ (n : Int) := by omega
              obtain ⟨a5, c5, rfl, _, hs5⟩ := Sl.of_ownT hrow
              have hacc5 : acc.length ≤ 5 := by omega
              have HS5 := Lib.hid hs5
              have HBC := Lib.hid hb
              clear hrow hs5 hn hlt3
              go_wp2_with fail
              go_at_call 32
              refine (refOf_calls a5 c5 acc _ HS5.out (by omega)).mono ?_
              rintro e wC ⟨v6, rfl, hown6, hb6⟩
              obtain ⟨a6, c6, rfl, _, hs6⟩ := Sl.of_ownT hown6
              have HS6 := Lib.hid hs6
              have HBD := Lib.hid (Bthen HBC.out hb6)
              have LO := Lib.hid (Rs.ofE_len acc)
              generalize Rs.ofE acc = L6 at *
              clear hown6 hs6 hb6
              go_wp2_with fail
              go_at_call 33
              refine (turned_calls a6 c6 L6 _ HS6.out (by have := LO.out; omega)).mono ?_
              rintro e wD ⟨v7, rfl, hown7, hb7⟩
              obtain ⟨a7, c7, rfl, hs7, hin7⟩ := own_all hown7
              have hbB : Below wB.heap.size wB wD := Bthen HBD.out hb7
              have HN7 := Lib.hid (And.intro hs7 (And.intro hin7 hbB))
              have hsz := hbB.size
              have hszD := HBD.out.size
              clear hown7 hs7 hin7 hb7 hbB
              have hBD : Below wB.heap.size wB wD := HN7.out.2.2
              have hsAB : wA.heap.size ≤ wB.heap.size := HR.out.2.2.size
              have HRD := Lib.hid (own_lift HR.out.1 hBD)
              have HAD := Lib.hid (Bthen HR.out.2.2 hBD)
              have hX : ∀ x ∈ vs ++ [Value.slice a7 L6.length c7], IsSl wD u3.ownBlock x := fun x hx => by
                rcases List.mem_append.1 hx with h | h
                · exact (HR.out.2.1 x h).below hBD
                · obtain rfl := List.mem_singleton.1 h
                  exact ⟨a7, c7, L6, rfl, HN7.out.1, LO.out, fun p e => own_lt HR.out.1 (by have := (HN7.out.2.1 p e).1; omega)⟩
              have HXX := Lib.hid hX
              have hsD : wA.heap.size ≤ wD.heap.size := by omega
              clear hX hBD
              go_wp2_with (at_builtin; refine wpList_append_own_at _ rfl _ _ 57 rfl wA.heap.size 25 i0 (.slice none 0 0) 1 24 Tryz.underlying57 hi0 hz0 hz1 hz2 rfl (by decide) _ _ _ rfl (HRD.out.alloc (.cells #[.slice a7 L6.length c7] 25)) ⟨wD.heap.size, 0, none⟩ 1 1 [.slice a7 L6.length c7] rfl rfl (cell_one_new wD (.slice a7 L6.length c7) 25) (by intro u hu; obtain rfl := List.mem_singleton.1 hu; rfl) (by unfold maxLen; omega) (by omega) (by simp; omega) ?_; intro v' wE hown' hgrow _ hnb)
              go_roundw
              case rel =>
                refine ⟨m + 1, vs ++ [.slice a7 L6.length c7], by omega, by go_num, hown', fun x hx => ?_, app_endG HRD.out HAD.out hsD hgrow⟩
                exact ((HXX.out x hx).below ((Below.refl _ _).alloc (Nat.le_refl _) _)).grown hgrow hnb
              case measure => simp [intOf]; omega
        · have hge2 : (32 : Int) ≤ (m : Int) := by omega
          have dm : decide ((m : Int) < 32) = false := decide_eq_false (by omega)
          have hlen : vs.length = m := by have := hrow.1; omega
          obtain ⟨g, gc, rfl, hg⟩ := own_some hrow (by omega)
          have hel : ∀ p, p < m → ∃ a cap l, wB.cell? ⟨g, p, none⟩ = some (.slice a l.length cap) ∧ Sl wB a cap l ∧ l.length ≤ 1114113 := fun p hp => by
            obtain ⟨x, hx⟩ : ∃ x, vs[p]? = some x := ⟨_, List.getElem?_eq_getElem (by omega)⟩
            obtain ⟨a, cap, l, rfl, hs, hl, _⟩ := hall x (List.mem_of_getElem? hx)
            exact ⟨a, cap, l, (ownsRow_cell hrow hx).1, hs, hl⟩
          have HEL := Lib.hid hel
          have HBB := Lib.hid (Bthen HKA.out hb)
          have HLB := Lib.hid (HLA.out.below hb)
          have HG := Lib.hid hg
          have hm32 : m ≤ 32 := hm
          clear hrow hall hb hel hg hlt2 hlen
          go_wp2
          go_loopw [60] (fun i wr => ∃ p : Nat, p ≤ m ∧ i = .int .i64 p ∧ Below wB.heap.size wB wr) (fun i _ => m - (intOf i).toNat)
          case atStart => exact ⟨0, Nat.zero_le _, rfl, Below.refl _ _⟩
          case round =>
            obtain ⟨p, hp, rfl, hb⟩ := hrel
            obtain ⟨wP, hwP⟩ : ∃ x, x = wr := ⟨_, rfl⟩
            subst hwP
            by_cases hlt4 : p < m
            · obtain ⟨a, ca, l, cp, hsl, hll⟩ := HEL.out p hlt4
              have cpp := (hb.cell (p := ⟨g, p, none⟩) HG.out).trans cp
              have HP := Lib.hid (And.intro (hsl.below hb) hll)
              have HBP := Lib.hid hb
              have HLP := Lib.hid (HLB.out.below hb)
              have dp : decide (p < m) = true := decide_eq_true (by omega)
              clear hb cp hsl
              go_wp2
              clear cpp
              go_loopw [66] (fun i wr => ∃ q : Nat, q ≤ m ∧ i = .int .i64 q ∧ Below wP.heap.size wP wr) (fun i _ => m - (intOf i).toNat)
              case atStart => exact ⟨0, Nat.zero_le _, rfl, Below.refl _ _⟩
              case round =>
                obtain ⟨q, hq, rfl, hb⟩ := hrel
                obtain ⟨wQ, hwQ⟩ : ∃ x, x = wr := ⟨_, rfl⟩
                subst hwQ
                by_cases hlt5 : q < m
                · obtain ⟨a2, ca2, l2, cq, hsl2, hll2⟩ := HEL.out q hlt5
                  have cqq := ((Bthen HBP.out hb).cell (p := ⟨g, q, none⟩) HG.out).trans cq
                  have hs1 := HP.out.1.below hb
                  have hs2 := hsl2.below (Bthen HBP.out hb)
                  have hj := joins_calls a a2 ca ca2 l l2 wQ hs1.rd hs2.rd hs1.nil hs2.nil (jl hll) (jl hll2)
                  have HBQ := Lib.hid hb
                  clear hb cq hsl2 hs1 hs2
                  go_wp2_with fail
                  go_at_call 27
                  refine hj.mono ?_
                  clear hj
                  rintro e wR ⟨rfl, hb⟩
                  have HBR := Lib.hid (Bthen HBQ.out hb)
                  clear hb cqq
                  go_wp2_with fail
                  go_roundw
                  case rel => exact ⟨q + 1, by omega, by go_num, HBR.out⟩
                  case measure => simp [intOf]; omega
                · have dq : decide (q < m) = false := decide_eq_false (by omega)
                  have hge5 : (m : Int) ≤ (q : Int) := by omega
                  have hb2 : IntKind.i64.wrap (b - 2) = b - 2 := by rw [IntKind.wrap_i64]; omega
                  have hb8 : IntKind.i64.wrap (b + 8) = b + 8 := by rw [IntKind.wrap_i64]; omega
                  have HQ := Lib.hid (And.intro (HP.out.1.below hb) HP.out.2)
                  have HLQ := Lib.hid (HLP.out.below hb)
                  have HBQ := Lib.hid (Bthen HBP.out hb)
                  clear hb hq hlt5
                  go_wp2
                  go_loopw [11] (fun i wr => ∃ c : Int, b - 2 ≤ c ∧ c ≤ b + 8 ∧ i = .int .i64 c ∧ Below wQ.heap.size wQ wr) (fun i _ => (b + 8 - intOf i).toNat)
                  case atStart => exact ⟨b - 2, by omega, by omega, rfl, Below.refl _ _⟩
                  case round =>
                    obtain ⟨c, hc1, hc2, rfl, hb⟩ := hrel
                    obtain ⟨wC2, hwC⟩ : ∃ x, x = wr := ⟨_, rfl⟩
                    subst hwC
                    by_cases hlt6 : c < b + 8
                    · have hs1 := HQ.out.1.below hb
                      have ht := tells_calls a ca l c wC2 (HLQ.out.below hb) hs1.rd hs1.nil
                      have hw1 : IntKind.i64.wrap (c + 1) = c + 1 := by rw [IntKind.wrap_i64]; omega
                      have HBC := Lib.hid hb
                      clear hb hs1
                      go_wp2_with fail
                      go_at_call 26
                      refine ht.mono ?_
                      clear ht
                      rintro e wR ⟨rfl, hb⟩
                      have HBR := Lib.hid (Bthen HBC.out hb)
                      clear hb
                      go_wp2_with fail
                      go_roundw
                      case rel => exact ⟨c + 1, by omega, by omega, rfl, HBR.out⟩
                      case measure => simp [intOf]; omega
                    · have HBR := Lib.hid (Bthen HBQ.out hb)
                      have hge6 : b + 8 ≤ c := by omega
                      clear hb
                      go_wp2
                      go_roundw
                      case rel => exact ⟨p + 1, by omega, by go_num, HBR.out⟩
                      case measure => simp [intOf]; omega
            · have HBR := Lib.hid (Bthen HBB.out hb)
              have hge4 : (m : Int) ≤ (p : Int) := by omega
              clear hb hp hlt4
              go_wp2
              go_roundw
              case rel => exact ⟨k + 1, by omega, by go_num, HBR.out⟩
              case measure => simp [intOf]; omega
    · have hge1 : (4 : Int) ≤ (k : Int) := by omega
      have dk : decide ((k : Int) < 4) = false := decide_eq_false (by omega)
      have HBA := Lib.hid (Bthen HB1.out hb)
      have HLA := Lib.hid (HAB.out.below HBA.out)
      clear hb hk hlt HC
      go_wp2
      obtain ⟨w2, hw2⟩ : ∃ w2, wA.alloc (.cells #[.int .i64 (-9223372036854775808), .int .i64 (-1), .int .i64 0, .int .i64 1, .int .i64 2, .int .i64 3, .int .i64 55295, .int .i64 55296, .int .i64 57343, .int .i64 57344, .int .i64 1114111, .int .i64 1114112, .int .i64 9223372036854775807] 3) = w2 := ⟨_, rfl⟩
      have HC : Hid (∀ j x, endsL[j]? = some x → w2.cell? ⟨wA.heap.size, j, none⟩ = some (.int .i64 x)) := Lib.hid (fun j x h => by rw [← hw2]; exact ints_new wA endsL 3 _ rfl j x h)
      have HB2 : Hid (Below wA.heap.size wA w2) := Lib.hid (by rw [← hw2]; exact Bnew (Below.refl _ _) _)
      have HS2 : Hid (w2.heap.size = wA.heap.size + 1) := Lib.hid (by rw [← hw2]; simp)
      generalize wA.alloc (.cells #[.int .i64 (-9223372036854775808), .int .i64 (-1), .int .i64 0, .int .i64 1, .int .i64 2, .int .i64 3, .int .i64 55295, .int .i64 55296, .int .i64 57343, .int .i64 57344, .int .i64 1114111, .int .i64 1114112, .int .i64 9223372036854775807] 3) = w2' at *
      subst hw2
      go_loopw [92] (fun i wr => ∃ x : Nat, x ≤ 13 ∧ i = .int .i64 x ∧ Below w2'.heap.size w2' wr) (fun i _ => 13 - (intOf i).toNat)
      case atStart => exact ⟨0, Nat.zero_le _, rfl, Below.refl _ _⟩
      case round =>
        obtain ⟨x, hx, rfl, hb⟩ := hrel
        obtain ⟨wX, hwX⟩ : ∃ q, q = wr := ⟨_, rfl⟩
        subst hwX
        by_cases hlx : x < 13
        · obtain ⟨a, ea⟩ := ends_at hlx
          have ca := (hb.cell (p := ⟨wA.heap.size, x, none⟩) (by rw [HS2.out]; exact Nat.lt_succ_self _)).trans (HC.out x a ea)
          have HBX := Lib.hid hb
          have dx : decide ((x : Int) < 13) = true := decide_eq_true (by omega)
          clear hb ea
          go_wp2
          clear ca
          go_loopw [98] (fun i wr => ∃ y : Nat, y ≤ 13 ∧ i = .int .i64 y ∧ Below wX.heap.size wX wr) (fun i _ => 13 - (intOf i).toNat)
          case atStart => exact ⟨0, Nat.zero_le _, rfl, Below.refl _ _⟩
          case round =>
            obtain ⟨y, hy, rfl, hb⟩ := hrel
            obtain ⟨wY, hwY⟩ : ∃ q, q = wr := ⟨_, rfl⟩
            subst hwY
            by_cases hly : y < 13
            · obtain ⟨b, eb⟩ := ends_at hly
              have cb := ((Bthen HBX.out hb).cell (p := ⟨wA.heap.size, y, none⟩) (by rw [HS2.out]; exact Nat.lt_succ_self _)).trans (HC.out y b eb)
              have HBY := Lib.hid (Bthen HBX.out hb)
              have HBY0 := Lib.hid hb
              have dy : decide ((y : Int) < 13) = true := decide_eq_true (by omega)
              clear hb eb
              go_wp2
              clear cb
              go_loopw [104] (fun i wr => ∃ z : Nat, z ≤ 13 ∧ i = .int .i64 z ∧ Below wY.heap.size wY wr) (fun i _ => 13 - (intOf i).toNat)
              case atStart => exact ⟨0, Nat.zero_le _, rfl, Below.refl _ _⟩
              case round =>
                obtain ⟨z, hz, rfl, hb⟩ := hrel
                obtain ⟨wZ, hwZ⟩ : ∃ q, q = wr := ⟨_, rfl⟩
                subst hwZ
                by_cases hlz : z < 13
                · obtain ⟨c, ec⟩ := ends_at hlz
                  have cc := ((Bthen HBY.out hb).cell (p := ⟨wA.heap.size, z, none⟩) (by rw [HS2.out]; exact Nat.lt_succ_self _)).trans (HC.out z c ec)
                  have HLZ := Lib.hid (((HLA.out.below HB2.out).below (Bthen HBY.out hb)))
                  have HBZ := Lib.hid hb
                  clear hb ec
                  go_wp2_with fail
                  clear cc
                  go_at_call 26
                  refine (tells_calls (some ⟨wZ.heap.size, 0, none⟩) 1 [(a, b)] c _ (HLZ.out.below (Bnew (Below.refl _ _) _)) (Sl.alloc_new wZ [(a, b)] _).rd (fun e => by cases e)).mono ?_
                  rintro e wR ⟨rfl, hb⟩
                  have HLR := Lib.hid ((HLZ.out.below (Bnew (Below.refl _ _) _)).below hb)
                  have HBR := Lib.hid (Bthen (Bnew HBZ.out _) hb)
                  clear hb
                  go_wp2_with fail
                  go_at_call 26
                  refine (tells_calls (some ⟨wR.heap.size, 0, none⟩) 2 [(1, c), (a, b)] b _ (HLR.out.below (Bnew (Below.refl _ _) _)) (Sl.alloc_new wR [(1, c), (a, b)] _).rd (fun e => by cases e)).mono ?_
                  rintro e wS ⟨rfl, hb⟩
                  have HLS := Lib.hid ((HLR.out.below (Bnew (Below.refl _ _) _)).below hb)
                  have HBS := Lib.hid (Bthen (Bnew HBR.out _) hb)
                  clear hb
                  go_wp2_with fail
                  go_at_call 27
                  refine (joins_calls (some ⟨wS.heap.size, 0, none⟩) (some ⟨wS.heap.size + 1, 0, none⟩) 1 1 [(a, b)] [(c, c)] _ ((Sl.alloc_new wS [(a, b)] _).alloc _).rd (sl_two wS _ [(c, c)] _).rd (fun e => by cases e) (fun e => by cases e) (by simp) (by simp)).mono ?_
                  rintro e wT ⟨rfl, hb⟩
                  have HBT := Lib.hid (Bthen (Bnew (Bnew HBS.out _) _) hb)
                  clear hb
                  go_wp2_with fail
                  go_roundw
                  case rel => exact ⟨z + 1, by omega, by go_num, HBT.out⟩
                  case measure => simp [intOf]; omega
                · have HBT := Lib.hid (Bthen HBY0.out hb)
                  have hge : (13 : Int) ≤ (z : Int) := by omega
                  clear hb hz hlz
                  go_wp2
                  go_roundw
                  case rel => exact ⟨y + 1, by omega, by go_num, HBT.out⟩
                  case measure => simp [intOf]; omega
            · have HBT := Lib.hid (Bthen HBX.out hb)
              have hge : (13 : Int) ≤ (y : Int) := by omega
              clear hb hy hly
              go_wp2
              go_roundw
              case rel => exact ⟨x + 1, by omega, by go_num, HBT.out⟩
              case measure => simp [intOf]; omega
        · have hge : (13 : Int) ≤ (x : Int) := by omega
          have HBT := Lib.hid (Bthen (Bthen HBA.out HB2.out) hb)
          clear hb hx hlx HC
          go_wp2_with fail
          go_at_call 34
          refine (texts_calls _ (HAB.out.below HBT.out)).mono ?_
          rintro e wU ⟨rfl, hb⟩
          have HBU := Lib.hid (Bthen HBT.out hb)
          clear hb
          go_wp2_with fail
          go_at_call 35
          refine (long_calls _ (HAB.out.below HBU.out)).mono ?_
          rintro e wV ⟨rfl, hb⟩
          have HBV := Lib.hid (Bthen HBU.out hb)
          clear hb
          go_wp2_with fail
          go_at_call 14
          refine (awake_calls _ (HAB.out.below HBV.out)).mono ?_
          rintro e wW ⟨rfl, hb⟩
          have HBW := Lib.hid (Bthen HBV.out hb)
          clear hb
          go_wp2_with fail
          go_ret
          exact ⟨rfl, HBW.out⟩
end Go.Proofs.YtkjilodmmcefbaaGreatDoor
