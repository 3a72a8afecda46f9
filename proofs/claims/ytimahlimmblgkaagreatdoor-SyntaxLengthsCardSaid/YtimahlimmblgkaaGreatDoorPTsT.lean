/- Chapter 07: the law SyntaxLengths. -/
import Derived.Test.YtimahlimmblgkaaGreatDoorPTsR
import Derived.Test.YtimahlimmblgkaaGreatDoorPTpB
namespace Go.Proofs.YtimahlimmblgkaaGreatDoor.Sy
open Go Go.RowKit
theorem nul_known {P : Nat → Prop} (x : L) (w : World) (h : RdT P w x) {b : Bool} (hb : (look x.tree).nul = b) (hr : right x.tree = true) : Calls Tryz.prog 13 #[x.val] w fun e w' => e = .returned (.tuple #[.bool b, .int .i64 0]) ∧ Below w.heap.size w w' := by
  refine (nullable_tree x w h).mono ?_
  rintro e w' ⟨he, hb'⟩
  rw [show rightF (look x.tree) = true from hr, hb] at he
  exact ⟨he, hb'⟩
theorem grp_known {P : Nat → Prop} (x : L) (w : World) (h : RdT P w x) {g : Int} (hg : (look x.tree).groups = g) (hr : right x.tree = true) : Calls Tryz.prog 15 #[x.val] w fun e w' => e = .returned (.tuple #[.int .i64 g, .int .i64 0]) ∧ Below w.heap.size w w' := by
  refine (groups_tree x w h).mono ?_
  rintro e w' ⟨he, hb'⟩
  rw [show rightF (look x.tree) = true from hr, hg] at he
  exact ⟨he, hb'⟩
set_option maxRecDepth 100000 in
set_option maxHeartbeats 16000000 in
theorem len_law (a b : Option Addr) (ca cb : Nat) (l m : List Sm) (w : World) (hV : Vs w) (ha : RdF w a (sFlat l)) (hna : a = none → l = [] ∧ ca = 0) (hka : ∀ x ∈ l, SmOK x) (hla : l.length ≤ ca) (hca : ca ≤ maxLen)
    (hb : RdF w b (sFlat m)) (hnb : b = none → m = [] ∧ cb = 0) (hkb : ∀ x ∈ m, SmOK x) (hlb : m.length ≤ cb) (hcb : cb ≤ maxLen) :
    Calls Tryz.prog 3 #[.slice a l.length ca, .slice b m.length cb] w fun e w' => e = .returned (.bool true) ∧ Below w.heap.size w w' := by
  obtain ⟨N1, hN1⟩ : ∃ N : Nat, N = min l.length 15 := ⟨_, rfl⟩
  obtain ⟨N2, hN2⟩ : ∃ N : Nat, N = min m.length 15 := ⟨_, rfl⟩
  have HM1 : Hid (∀ W, Below w.heap.size w W → Calls Tryz.prog 12 #[.slice a N1 ca] W (GivesP (fun b => W.heap.size ≤ b) W (made (l.take 15)))) := Lib.hid (fun W h => made_take a ca l N1 15 W (RdF.below ha h) hna hka hla hca hN1)
  have HM2 : Hid (∀ W, Below w.heap.size w W → Calls Tryz.prog 12 #[.slice b N2 cb] W (GivesP (fun b => W.heap.size ≤ b) W (made (m.take 15)))) := Lib.hid (fun W h => made_take b cb m N2 15 W (RdF.below hb h) hnb hkb hlb hcb hN2)
  have HLF := Lib.hid (len_facts l m)
  obtain ⟨n1, hn1⟩ : ∃ q, q = l.length := ⟨_, rfl⟩
  obtain ⟨n2, hn2⟩ : ∃ q, q = m.length := ⟨_, rfl⟩
  rw [← hn1] at hla hN1 ⊢
  rw [← hn2] at hlb hN2 ⊢
  have HN := Lib.hid (And.intro hN1 (And.intro hN2 (And.intro hla (And.intro hca (And.intro hlb hcb)))))
  obtain ⟨T1, hT1⟩ : ∃ q, q = made (l.take 15) := ⟨_, rfl⟩
  obtain ⟨T2, hT2⟩ : ∃ q, q = made (m.take 15) := ⟨_, rfl⟩
  rw [← hT1] at HM1 HLF
  rw [← hT2] at HM2 HLF
  have HA := Lib.hid (awake_calls w hV)
  clear ha hb hna hnb hka hkb hn1 hn2 hT1 hT2 hV hN1 hN2 hla hca hlb hcb
  have hF := HLF.out
  obtain ⟨⟨pa, pb⟩, hp⟩ : ∃ q, q = lens T1 := ⟨_, rfl⟩
  obtain ⟨⟨qa, qb⟩, hq⟩ : ∃ q, q = lens T2 := ⟨_, rfl⟩
  obtain ⟨b0, hb0⟩ : ∃ q, q = nulP T1 := ⟨_, rfl⟩
  obtain ⟨gi, hgi⟩ : ∃ q, q = (look T1).groups := ⟨_, rfl⟩
  obtain ⟨sq, hsq⟩ : ∃ q : Int, q = (if pb = -1 ∨ qb = -1 then -1 else min (pb + qb) 1073741824) := ⟨_, rfl⟩
  obtain ⟨mq, hmq⟩ : ∃ q : Int, q = (if pb = -1 ∨ qb = -1 then -1 else max pb qb) := ⟨_, rfl⟩
  have ho1 := hF.ok1
  have ho2 := hF.ok2
  have hg1 := hF.g1
  rw [← hp, ← hb0] at ho1
  rw [← hq] at ho2
  rw [← hgi] at hg1
  have HV1 : Hid (((0 ≤ pa ∧ pa ≤ 1073741824) ∧ (pb = -1 ∨ (pa ≤ pb ∧ pb ≤ 1073741824)) ∧ (b0 = true ↔ pa = 0)) ∧ ((0 ≤ qa ∧ qa ≤ 1073741824) ∧ (qb = -1 ∨ (qa ≤ qb ∧ qb ≤ 1073741824))) ∧ (0 ≤ gi ∧ gi ≤ 30)) :=
    Lib.hid ⟨⟨⟨ho1.1, ho1.2.1⟩, ho1.2.2.1, ho1.2.2.2⟩, ⟨⟨ho2.1, ho2.2.1⟩, ho2.2.2.1⟩, hg1⟩
  have HX0 := Lib.hid (And.intro hp (And.intro hq (And.intro hb0 (And.intro hgi (And.intro hsq hmq)))))
  clear hF hp hq hb0 hgi ho1 ho2 hg1 hsq hmq
  go_enter Tryz.func3, Tryz.ntmps3
  go_wp2_with fail
  go_at_call 11
  refine HA.out.mono ?_
  rintro e w1 ⟨rfl, hb1⟩
  have H1 := Lib.hid hb1
  clear hb1 HA
  go_upto_region 3 with fail
  go_cut [5, 6] (fun s5 s6 wx => ∃ A C x y, s5 = .pointer (some ⟨A, 0, none⟩) ∧ s6 = .pointer (some ⟨C, 0, none⟩) ∧ L.tree x = T1 ∧ L.tree y = T2 ∧ TwoAt w x y A C wx)
  case first =>
    have hmin1 : N1 ≤ ca ∧ N2 ≤ cb := by have := HN.out; omega
    obtain ⟨hm1, hm2⟩ := hmin1
    refine wp_region_held_drew (S := fun w' : World => Below w.heap.size w w') (by kernel_rfl) (H1.out.drew) ?_
    intro hS0
    refine wpAnyH_take (i := 0) (oi := ⟨_, _, _, _, _, _⟩) (v := _) rfl (by kernel_rfl) (by kernel_rfl) (by kernel_rfl) (fun _ _ _ h => h) (Or.inl ⟨by rfl, by intro wq hSw; (try dsimp only at hSw); go_simp; (try with_reducible rfl)⟩) (by assumption) ?_
    try simp only [Act.put, List.setIfInBounds_toArray, List.set_cons_zero, List.set_cons_succ]
    refine wpAnyH_take (i := 1) (oi := ⟨_, _, _, _, _, _⟩) (v := _) rfl (by kernel_rfl) (by kernel_rfl) (by kernel_rfl) (fun _ _ _ h => h) (Or.inl ⟨by rfl, by intro wq hSw; (try dsimp only at hSw); go_simp; (try with_reducible rfl)⟩) (by assumption) ?_
    try simp only [Act.put, List.setIfInBounds_toArray, List.set_cons_zero, List.set_cons_succ]
    refine wpAnyH_take (i := 2) (oi := ⟨_, _, _, _, _, _⟩) (v := _) rfl (by kernel_rfl) (by kernel_rfl) (by kernel_rfl) (fun _ _ _ h => h) (Or.inl ⟨by rfl, by intro wq hSw; (try dsimp only at hSw); go_simp; (try with_reducible rfl)⟩) (by assumption) ?_
    try simp only [Act.put, List.setIfInBounds_toArray, List.set_cons_zero, List.set_cons_succ]
    refine wpAnyH_take (i := 3) (oi := ⟨_, _, _, _, _, _⟩) (v := .int .i64 (N1 : Int)) rfl (by kernel_rfl) (by kernel_rfl) (by kernel_rfl) (fun _ _ _ h => h) (Or.inl ⟨by rfl, by intro wq hSw; (try dsimp only at hSw); go_simp; (have := HN.out; omega)⟩) (by assumption) ?_
    try simp only [Act.put, List.setIfInBounds_toArray, List.set_cons_zero, List.set_cons_succ]
    refine wpAnyH_take (i := 4) (oi := ⟨_, _, _, _, _, _⟩) (v := _) rfl (by kernel_rfl) (by kernel_rfl) (by kernel_rfl) (fun _ _ _ h => h) (Or.inl ⟨by rfl, by intro wq hSw; (try dsimp only at hSw); go_simp; (try with_reducible rfl)⟩) (by assumption) ?_
    try simp only [Act.put, List.setIfInBounds_toArray, List.set_cons_zero, List.set_cons_succ]
    refine wpAnyH_take (i := 6) (oi := ⟨_, _, _, _, _, _⟩) (v := _) rfl (by kernel_rfl) (by kernel_rfl) (by kernel_rfl) (fun _ _ _ h => h) (Or.inl ⟨by rfl, by intro wq hSw; (try dsimp only at hSw); go_simp; (try with_reducible rfl)⟩) (by assumption) ?_
    try simp only [Act.put, List.setIfInBounds_toArray, List.set_cons_zero, List.set_cons_succ]
    refine wpAnyH_take (i := 7) (oi := ⟨_, _, _, _, _, _⟩) (v := _) rfl (by kernel_rfl) (by kernel_rfl) (by kernel_rfl) (fun _ _ _ h => h) (Or.inl ⟨by rfl, by intro wq hSw; (try dsimp only at hSw); go_simp; (try with_reducible rfl)⟩) (by assumption) ?_
    try simp only [Act.put, List.setIfInBounds_toArray, List.set_cons_zero, List.set_cons_succ]
    refine wpAnyH_take (i := 8) (oi := ⟨_, _, _, _, _, _⟩) (v := _) rfl (by kernel_rfl) (by kernel_rfl) (by kernel_rfl) (fun _ _ _ h => h) (Or.inl ⟨by rfl, by intro wq hSw; (try dsimp only at hSw); go_simp; (try with_reducible rfl)⟩) (by assumption) ?_
    try simp only [Act.put, List.setIfInBounds_toArray, List.set_cons_zero, List.set_cons_succ]
    refine wpAnyH_take (i := 9) (oi := ⟨_, _, _, _, _, _⟩) (v := .int .i64 (N2 : Int)) rfl (by kernel_rfl) (by kernel_rfl) (by kernel_rfl) (fun _ _ _ h => h) (Or.inl ⟨by rfl, by intro wq hSw; (try dsimp only at hSw); go_simp; (have := HN.out; omega)⟩) (by assumption) ?_
    try simp only [Act.put, List.setIfInBounds_toArray, List.set_cons_zero, List.set_cons_succ]
    refine wpAnyH_take (i := 10) (oi := ⟨_, _, _, _, _, _⟩) (v := _) rfl (by kernel_rfl) (by kernel_rfl) (by kernel_rfl) (fun _ _ _ h => h) (Or.inl ⟨by rfl, by intro wq hSw; (try dsimp only at hSw); go_simp; (try with_reducible rfl)⟩) (by assumption) ?_
    try simp only [Act.put, List.setIfInBounds_toArray, List.set_cons_zero, List.set_cons_succ]
    refine wpAnyH_at (m := 6) (l0 := LB3 false false false false false false) (fun A => putT 34 40 A undef undef undef undef) (by rfl) (by kernel_rfl) (by kernel_rfl) ?_
    intro A hA
    have hsz : 40 < A.tmps.size := by subst hA; exact (by decide : 40 < 201)
    refine region_two (F := putT 34 40 A) (w0 := w) (t1 := T1) (t2 := T2) (f := 12) (p1 := 33) (p2 := 39) (q1 := 34) (q2 := 40) (x1 := .slice a N1 ca) (x2 := .slice b N2 cb)
      (by decide +kernel) (by decide +kernel) (enters_of Tryz.func12 (by kernel_rfl) rfl) ⟨_, rfl, ⟨_, rfl⟩, rfl, rfl⟩ ⟨_, rfl, ⟨_, rfl⟩, rfl, rfl⟩ ⟨_, rfl, rfl, rfl, rfl⟩ ⟨_, rfl, rfl, rfl, rfl⟩ ⟨_, rfl, rfl, rfl, rfl⟩ ⟨_, rfl, rfl, rfl, rfl⟩
      (putT_5 (by decide) (by decide)) (putT_6 (by decide) (by decide)) (putT_q1 (by decide)) putT_q2 (tmT_5 (by decide) (by decide) hsz) (tmT_6 (by decide) (by decide) hsz) (tmT_q1 (by decide) hsz) (tmT_q2 hsz)
      (fun x0 x1 x2 x3 => (tmT_no (by decide) (by decide) (by decide) (by decide) x0 x1 x2 x3).trans (by subst hA; rfl)) (fun x0 x1 x2 x3 => (tmT_no (by decide) (by decide) (by decide) (by decide) x0 x1 x2 x3).trans (by subst hA; rfl)) (fun _ h => h) HM1.out HM2.out ?_ hS0
    subst hA
    intro x y A C wx hx hy hT
    unfold putT
    simp only [Act.put, List.setIfInBounds_toArray, List.set_cons_zero, List.set_cons_succ]
    go_wp2_with fail
    go_meet
    exact ⟨A, C, x, y, rfl, rfl, hx, hy, hT⟩
  case rest =>
  obtain ⟨A, C, ⟨k1, sa1, sc1, s1, mn1, mx1, lz1, na1, nc1, l1⟩, ⟨k2, sa2, sc2, s2, mn2, mx2, lz2, na2, nc2, l2⟩, rfl, rfl, hx1, hx2, hT3⟩ := hcut
  obtain ⟨w3, hw3⟩ : ∃ q, q = wc := ⟨_, rfl⟩
  subst hw3
  have HX := Lib.hid (And.intro hx1 hx2)
  have H3 := Lib.hid hT3
  clear hx1 hx2 HM1 HM2 H1
  have HNu : Hid (∀ W, TwoAt w (L.mk k1 sa1 sc1 s1 mn1 mx1 lz1 na1 nc1 l1) (L.mk k2 sa2 sc2 s2 mn2 mx2 lz2 na2 nc2 l2) A C W → Calls Tryz.prog 13 #[.agg #[.int .u8 k1, .slice sa1 s1.length sc1, .int .i64 mn1, .int .i64 mx1, .bool lz1, .slice na1 l1.length nc1]] W fun e w' => e = .returned (.tuple #[.bool b0, .int .i64 0]) ∧ Below W.heap.size W w') := Lib.hid (fun W h => nul_known (L.mk k1 sa1 sc1 s1 mn1 mx1 lz1 na1 nc1 l1) W h.r1 (by rw [HX.out.1, HX0.out.2.2.1, HLF.out.n1]) (by rw [HX.out.1]; exact HLF.out.r1))
  have HL1 : Hid (∀ W, TwoAt w (L.mk k1 sa1 sc1 s1 mn1 mx1 lz1 na1 nc1 l1) (L.mk k2 sa2 sc2 s2 mn2 mx2 lz2 na2 nc2 l2) A C W → Calls Tryz.prog 14 #[.agg #[.int .u8 k1, .slice sa1 s1.length sc1, .int .i64 mn1, .int .i64 mx1, .bool lz1, .slice na1 l1.length nc1]] W fun e w' => e = .returned (.tuple #[.int .i64 pa, .int .i64 pb, .int .i64 0]) ∧ Below W.heap.size W w') := Lib.hid (fun W h => len_known (L.mk k1 sa1 sc1 s1 mn1 mx1 lz1 na1 nc1 l1) W h.r1 (by rw [HX.out.1, ← HX0.out.1]) (by rw [HX.out.1]; exact HLF.out.r1))
  have HL2 : Hid (∀ W, TwoAt w (L.mk k1 sa1 sc1 s1 mn1 mx1 lz1 na1 nc1 l1) (L.mk k2 sa2 sc2 s2 mn2 mx2 lz2 na2 nc2 l2) A C W → Calls Tryz.prog 14 #[.agg #[.int .u8 k2, .slice sa2 s2.length sc2, .int .i64 mn2, .int .i64 mx2, .bool lz2, .slice na2 l2.length nc2]] W fun e w' => e = .returned (.tuple #[.int .i64 qa, .int .i64 qb, .int .i64 0]) ∧ Below W.heap.size W w') := Lib.hid (fun W h => len_known (L.mk k2 sa2 sc2 s2 mn2 mx2 lz2 na2 nc2 l2) W h.r2 (by rw [HX.out.2, ← HX0.out.2.1]) (by rw [HX.out.2]; exact HLF.out.r2))
  have HGr : Hid (∀ W, TwoAt w (L.mk k1 sa1 sc1 s1 mn1 mx1 lz1 na1 nc1 l1) (L.mk k2 sa2 sc2 s2 mn2 mx2 lz2 na2 nc2 l2) A C W → Calls Tryz.prog 15 #[.agg #[.int .u8 k1, .slice sa1 s1.length sc1, .int .i64 mn1, .int .i64 mx1, .bool lz1, .slice na1 l1.length nc1]] W fun e w' => e = .returned (.tuple #[.int .i64 gi, .int .i64 0]) ∧ Below W.heap.size W w') := Lib.hid (fun W h => grp_known (L.mk k1 sa1 sc1 s1 mn1 mx1 lz1 na1 nc1 l1) W h.r1 (by rw [HX.out.1, ← HX0.out.2.2.2.1]) (by rw [HX.out.1]; exact HLF.out.r1))
  have HLn : Hid (∀ W, TwoAt w (L.mk k1 sa1 sc1 s1 mn1 mx1 lz1 na1 nc1 l1) (L.mk k2 sa2 sc2 s2 mn2 mx2 lz2 na2 nc2 l2) A C W → Calls Tryz.prog 16 #[.agg #[.int .u8 k1, .slice sa1 s1.length sc1, .int .i64 mn1, .int .i64 mx1, .bool lz1, .slice na1 l1.length nc1]] W fun e w' => e = .returned (.bool b0) ∧ Below W.heap.size W w') := Lib.hid (fun W h => (lawnul_calls h.r1 W (Below.refl _ _)).mono (fun e w' h2 => ⟨by rw [h2.1, HX.out.1, HX0.out.2.2.1], h2.2⟩))
  clear hT3
  have c0 : w3.cell? ⟨A, 0, none⟩ = some (.int .u8 k1) := block_cell H3.out.a 0 _ rfl
  have c1 : w3.cell? ⟨A, 1, none⟩ = some (.slice sa1 s1.length sc1) := block_cell H3.out.a 1 _ rfl
  have c2 : w3.cell? ⟨A, 2, none⟩ = some (.int .i64 mn1) := block_cell H3.out.a 2 _ rfl
  have c3 : w3.cell? ⟨A, 3, none⟩ = some (.int .i64 mx1) := block_cell H3.out.a 3 _ rfl
  have c4 : w3.cell? ⟨A, 4, none⟩ = some (.bool lz1) := block_cell H3.out.a 4 _ rfl
  have c5 : w3.cell? ⟨A, 5, none⟩ = some (.slice na1 l1.length nc1) := block_cell H3.out.a 5 _ rfl
  go_wp2_with fail
  go_at_call 13
  refine (HNu.out _ H3.out).mono ?_
  rintro e w4 ⟨rfl, hb⟩
  have Hw4 := Lib.hid (H3.out.next hb)
  clear hb
  clear c0 c1 c2 c3 c4 c5
  have c0 : w4.cell? ⟨A, 0, none⟩ = some (.int .u8 k1) := block_cell Hw4.out.a 0 _ rfl
  have c1 : w4.cell? ⟨A, 1, none⟩ = some (.slice sa1 s1.length sc1) := block_cell Hw4.out.a 1 _ rfl
  have c2 : w4.cell? ⟨A, 2, none⟩ = some (.int .i64 mn1) := block_cell Hw4.out.a 2 _ rfl
  have c3 : w4.cell? ⟨A, 3, none⟩ = some (.int .i64 mx1) := block_cell Hw4.out.a 3 _ rfl
  have c4 : w4.cell? ⟨A, 4, none⟩ = some (.bool lz1) := block_cell Hw4.out.a 4 _ rfl
  have c5 : w4.cell? ⟨A, 5, none⟩ = some (.slice na1 l1.length nc1) := block_cell Hw4.out.a 5 _ rfl
  go_wp2_with fail
  go_at_call 14
  refine (HL1.out _ Hw4.out).mono ?_
  rintro e w5 ⟨rfl, hb⟩
  have Hw5 := Lib.hid (Hw4.out.next hb)
  clear hb
  clear c0 c1 c2 c3 c4 c5
  have c0 : w5.cell? ⟨C, 0, none⟩ = some (.int .u8 k2) := block_cell Hw5.out.c 0 _ rfl
  have c1 : w5.cell? ⟨C, 1, none⟩ = some (.slice sa2 s2.length sc2) := block_cell Hw5.out.c 1 _ rfl
  have c2 : w5.cell? ⟨C, 2, none⟩ = some (.int .i64 mn2) := block_cell Hw5.out.c 2 _ rfl
  have c3 : w5.cell? ⟨C, 3, none⟩ = some (.int .i64 mx2) := block_cell Hw5.out.c 3 _ rfl
  have c4 : w5.cell? ⟨C, 4, none⟩ = some (.bool lz2) := block_cell Hw5.out.c 4 _ rfl
  have c5 : w5.cell? ⟨C, 5, none⟩ = some (.slice na2 l2.length nc2) := block_cell Hw5.out.c 5 _ rfl
  go_wp2_with fail
  go_at_call 14
  refine (HL2.out _ Hw5.out).mono ?_
  rintro e w6 ⟨rfl, hb⟩
  have Hw6 := Lib.hid (Hw5.out.next hb)
  clear hb
  clear c0 c1 c2 c3 c4 c5
  have c0 : w6.cell? ⟨A, 0, none⟩ = some (.int .u8 k1) := block_cell Hw6.out.a 0 _ rfl
  have c1 : w6.cell? ⟨A, 1, none⟩ = some (.slice sa1 s1.length sc1) := block_cell Hw6.out.a 1 _ rfl
  have c2 : w6.cell? ⟨A, 2, none⟩ = some (.int .i64 mn1) := block_cell Hw6.out.a 2 _ rfl
  have c3 : w6.cell? ⟨A, 3, none⟩ = some (.int .i64 mx1) := block_cell Hw6.out.a 3 _ rfl
  have c4 : w6.cell? ⟨A, 4, none⟩ = some (.bool lz1) := block_cell Hw6.out.a 4 _ rfl
  have c5 : w6.cell? ⟨A, 5, none⟩ = some (.slice na1 l1.length nc1) := block_cell Hw6.out.a 5 _ rfl
  go_wp2_with fail
  go_at_call 15
  refine (HGr.out _ Hw6.out).mono ?_
  rintro e w7 ⟨rfl, hb⟩
  have Hw7 := Lib.hid (Hw6.out.next hb)
  clear hb
  clear c0 c1 c2 c3 c4 c5
  have c0 : w7.cell? ⟨A, 0, none⟩ = some (.int .u8 k1) := block_cell Hw7.out.a 0 _ rfl
  have c1 : w7.cell? ⟨A, 1, none⟩ = some (.slice sa1 s1.length sc1) := block_cell Hw7.out.a 1 _ rfl
  have c2 : w7.cell? ⟨A, 2, none⟩ = some (.int .i64 mn1) := block_cell Hw7.out.a 2 _ rfl
  have c3 : w7.cell? ⟨A, 3, none⟩ = some (.int .i64 mx1) := block_cell Hw7.out.a 3 _ rfl
  have c4 : w7.cell? ⟨A, 4, none⟩ = some (.bool lz1) := block_cell Hw7.out.a 4 _ rfl
  have c5 : w7.cell? ⟨A, 5, none⟩ = some (.slice na1 l1.length nc1) := block_cell Hw7.out.a 5 _ rfl
  go_upto_region 8 with fail
  go_cut [95] (fun s95 wx => s95 = .bool false ∧ TwoAt w (L.mk k1 sa1 sc1 s1 mn1 mx1 lz1 na1 nc1 l1) (L.mk k2 sa2 sc2 s2 mn2 mx2 lz2 na2 nc2 l2) A C wx)
  case first =>
    obtain ⟨⟨hA1, hA2, hA3⟩, _, _⟩ := HV1.out
    have hlt : decide (pa < 0) = false := by simp; omega
    rcases hA2 with h2 | h2 <;> rcases (show b0 = true ∨ b0 = false by cases b0 <;> simp) with rfl | rfl
    all_goals have HA2 := Lib.hid h2
    all_goals first | (have hpe : (pa == 0) = true := by simpa using hA3) | (have hpe : (pa == 0) = false := by simpa using hA3)
    all_goals clear h2 hA3 hA1
    all_goals first | (have hpb : (pb != -1) = false := by have := HA2.out; simp; omega) | (have hpb : (pb != -1) = true := by have := HA2.out; have := HV1.out; simp; omega)
    all_goals first | (have hpl : decide (pb < pa) = false := by have := HA2.out; have := HV1.out; simp; omega) | skip
    all_goals go_wp2_with fail
    all_goals (go_at_call 16; refine (HLn.out _ Hw7.out).mono ?_; rintro e w8 ⟨rfl, hb⟩; have Hw8 := Lib.hid (Hw7.out.next hb); clear hb; go_wp2_with fail)
    all_goals (go_meet; exact ⟨rfl, Hw8.out⟩)
  case rest =>
  obtain ⟨rfl, hT8⟩ := hcut
  obtain ⟨w8, hw8⟩ : ∃ q, q = wc := ⟨_, rfl⟩
  subst hw8
  have Hw8 := Lib.hid hT8
  clear c0 c1 c2 c3 c4 c5
  clear hT8
  have c0 : w8.cell? ⟨A, 0, none⟩ = some (.int .u8 k1) := block_cell Hw8.out.a 0 _ rfl
  have c1 : w8.cell? ⟨A, 1, none⟩ = some (.slice sa1 s1.length sc1) := block_cell Hw8.out.a 1 _ rfl
  have c2 : w8.cell? ⟨A, 2, none⟩ = some (.int .i64 mn1) := block_cell Hw8.out.a 2 _ rfl
  have c3 : w8.cell? ⟨A, 3, none⟩ = some (.int .i64 mx1) := block_cell Hw8.out.a 3 _ rfl
  have c4 : w8.cell? ⟨A, 4, none⟩ = some (.bool lz1) := block_cell Hw8.out.a 4 _ rfl
  have c5 : w8.cell? ⟨A, 5, none⟩ = some (.slice na1 l1.length nc1) := block_cell Hw8.out.a 5 _ rfl
  go_wp2_with fail
  refine at_world ?_
  intro W9 hW9
  have hbW : Below w8.heap.size w8 W9 := by rw [hW9]; exact ((Below.refl _ _).alloc (Nat.le_refl _) _).alloc (by simp) _
  have hG9 : (W9.heap[w8.heap.size]? = some (.cells #[.int .u8 k1, .slice sa1 s1.length sc1, .int .i64 mn1, .int .i64 mx1, .bool lz1, .slice na1 l1.length nc1] 27 (0, 0)) ∧ W9.heap[w8.heap.size + 1]? = some (.cells #[.int .u8 6, .slice none 0 0, .int .i64 0, .int .i64 0, .bool false, .slice (some ⟨w8.heap.size, 0, none⟩) 1 1] 27 (0, 0))) := by
    rw [hW9]
    exact ⟨(Below.heap_alloc _ _ _ (isT_of (heap_alloc_new w8 _)).lt).trans (heap_alloc_new w8 _), alloc_at (w8.alloc _) (by simp) _⟩
  have Hw9 := Lib.hid (And.intro (Hw8.out.next hbW) hG9)
  have HGT : Hid (∀ W, TwoAt w (L.mk k1 sa1 sc1 s1 mn1 mx1 lz1 na1 nc1 l1) (L.mk k2 sa2 sc2 s2 mn2 mx2 lz2 na2 nc2 l2) A C W → (W.heap[w8.heap.size]? = some (.cells #[.int .u8 k1, .slice sa1 s1.length sc1, .int .i64 mn1, .int .i64 mx1, .bool lz1, .slice na1 l1.length nc1] 27 (0, 0)) ∧ W.heap[w8.heap.size + 1]? = some (.cells #[.int .u8 6, .slice none 0 0, .int .i64 0, .int .i64 0, .bool false, .slice (some ⟨w8.heap.size, 0, none⟩) 1 1] 27 (0, 0))) → RdT (fun _ => True) W (L.mk 6 none 0 [] 0 0 false (some ⟨w8.heap.size, 0, none⟩) 1 [(L.mk k1 sa1 sc1 s1 mn1 mx1 lz1 na1 nc1 l1)])) := Lib.hid (fun W h h2 => one_part h.r1 (Below.refl _ _) h2.1 trivial (by omega) ⟨by omega, by omega⟩ ⟨by omega, by omega⟩)
  have HGe : Hid (L.tree (L.mk 6 none 0 [] 0 0 false (some ⟨w8.heap.size, 0, none⟩) 1 [(L.mk k1 sa1 sc1 s1 mn1 mx1 lz1 na1 nc1 l1)]) = .mk 6 [] 0 0 false [T1]) := Lib.hid (by rw [← HX.out.1]; rfl)
  have HGg : Hid (∀ W, TwoAt w (L.mk k1 sa1 sc1 s1 mn1 mx1 lz1 na1 nc1 l1) (L.mk k2 sa2 sc2 s2 mn2 mx2 lz2 na2 nc2 l2) A C W → (W.heap[w8.heap.size]? = some (.cells #[.int .u8 k1, .slice sa1 s1.length sc1, .int .i64 mn1, .int .i64 mx1, .bool lz1, .slice na1 l1.length nc1] 27 (0, 0)) ∧ W.heap[w8.heap.size + 1]? = some (.cells #[.int .u8 6, .slice none 0 0, .int .i64 0, .int .i64 0, .bool false, .slice (some ⟨w8.heap.size, 0, none⟩) 1 1] 27 (0, 0))) → Calls Tryz.prog 15 #[.agg #[.int .u8 6, .slice none 0 0, .int .i64 0, .int .i64 0, .bool false, .slice (some ⟨w8.heap.size, 0, none⟩) 1 1]] W fun e w' => e = .returned (.tuple #[.int .i64 (gi + 1), .int .i64 0]) ∧ Below W.heap.size W w') := Lib.hid (fun W h h2 => grp_known (L.mk 6 none 0 [] 0 0 false (some ⟨w8.heap.size, 0, none⟩) 1 [(L.mk k1 sa1 sc1 s1 mn1 mx1 lz1 na1 nc1 l1)]) W (HGT.out W h h2) (by rw [HGe.out, HLF.out.gg, ← HX0.out.2.2.2.1]) (by rw [HGe.out]; exact HLF.out.rg))
  have HGl : Hid (∀ W, TwoAt w (L.mk k1 sa1 sc1 s1 mn1 mx1 lz1 na1 nc1 l1) (L.mk k2 sa2 sc2 s2 mn2 mx2 lz2 na2 nc2 l2) A C W → (W.heap[w8.heap.size]? = some (.cells #[.int .u8 k1, .slice sa1 s1.length sc1, .int .i64 mn1, .int .i64 mx1, .bool lz1, .slice na1 l1.length nc1] 27 (0, 0)) ∧ W.heap[w8.heap.size + 1]? = some (.cells #[.int .u8 6, .slice none 0 0, .int .i64 0, .int .i64 0, .bool false, .slice (some ⟨w8.heap.size, 0, none⟩) 1 1] 27 (0, 0))) → Calls Tryz.prog 14 #[.agg #[.int .u8 6, .slice none 0 0, .int .i64 0, .int .i64 0, .bool false, .slice (some ⟨w8.heap.size, 0, none⟩) 1 1]] W fun e w' => e = .returned (.tuple #[.int .i64 pa, .int .i64 pb, .int .i64 0]) ∧ Below W.heap.size W w') := Lib.hid (fun W h h2 => len_known (L.mk 6 none 0 [] 0 0 false (some ⟨w8.heap.size, 0, none⟩) 1 [(L.mk k1 sa1 sc1 s1 mn1 mx1 lz1 na1 nc1 l1)]) W (HGT.out W h h2) (by rw [HGe.out, HLF.out.lg, ← HX0.out.1]) (by rw [HGe.out]; exact HLF.out.rg))
  have HGn : Hid (∀ W, TwoAt w (L.mk k1 sa1 sc1 s1 mn1 mx1 lz1 na1 nc1 l1) (L.mk k2 sa2 sc2 s2 mn2 mx2 lz2 na2 nc2 l2) A C W → (W.heap[w8.heap.size]? = some (.cells #[.int .u8 k1, .slice sa1 s1.length sc1, .int .i64 mn1, .int .i64 mx1, .bool lz1, .slice na1 l1.length nc1] 27 (0, 0)) ∧ W.heap[w8.heap.size + 1]? = some (.cells #[.int .u8 6, .slice none 0 0, .int .i64 0, .int .i64 0, .bool false, .slice (some ⟨w8.heap.size, 0, none⟩) 1 1] 27 (0, 0))) → Calls Tryz.prog 13 #[.agg #[.int .u8 6, .slice none 0 0, .int .i64 0, .int .i64 0, .bool false, .slice (some ⟨w8.heap.size, 0, none⟩) 1 1]] W fun e w' => e = .returned (.tuple #[.bool b0, .int .i64 0]) ∧ Below W.heap.size W w') := Lib.hid (fun W h h2 => nul_known (L.mk 6 none 0 [] 0 0 false (some ⟨w8.heap.size, 0, none⟩) 1 [(L.mk k1 sa1 sc1 s1 mn1 mx1 lz1 na1 nc1 l1)]) W (HGT.out W h h2) (by rw [HGe.out, HLF.out.ng, HX0.out.2.2.1]) (by rw [HGe.out]; exact HLF.out.rg))
  have HGx : Hid (∀ W W', (W.heap[w8.heap.size]? = some (.cells #[.int .u8 k1, .slice sa1 s1.length sc1, .int .i64 mn1, .int .i64 mx1, .bool lz1, .slice na1 l1.length nc1] 27 (0, 0)) ∧ W.heap[w8.heap.size + 1]? = some (.cells #[.int .u8 6, .slice none 0 0, .int .i64 0, .int .i64 0, .bool false, .slice (some ⟨w8.heap.size, 0, none⟩) 1 1] 27 (0, 0))) → Below W.heap.size W W' → (W'.heap[w8.heap.size]? = some (.cells #[.int .u8 k1, .slice sa1 s1.length sc1, .int .i64 mn1, .int .i64 mx1, .bool lz1, .slice na1 l1.length nc1] 27 (0, 0)) ∧ W'.heap[w8.heap.size + 1]? = some (.cells #[.int .u8 6, .slice none 0 0, .int .i64 0, .int .i64 0, .bool false, .slice (some ⟨w8.heap.size, 0, none⟩) 1 1] 27 (0, 0)))) := Lib.hid (fun W W' h hb => ⟨(hb.block _ (isT_of h.1).lt).trans h.1, (hb.block _ (isT_of h.2).lt).trans h.2⟩)
  clear hW9 hbW hG9 c0 c1 c2 c3 c4 c5
  refine (HGg.out _ Hw9.out.1 Hw9.out.2).mono ?_
  rintro e w10 ⟨rfl, hb⟩
  have Hw10 := Lib.hid (And.intro (Hw9.out.1.next hb) (HGx.out _ _ Hw9.out.2 hb))
  clear hb
  have c0 : w10.cell? ⟨w8.heap.size + 1, 0, none⟩ = some (.int .u8 6) := block_cell Hw10.out.2.2 0 _ rfl
  have c1 : w10.cell? ⟨w8.heap.size + 1, 1, none⟩ = some (.slice none 0 0) := block_cell Hw10.out.2.2 1 _ rfl
  have c2 : w10.cell? ⟨w8.heap.size + 1, 2, none⟩ = some (.int .i64 0) := block_cell Hw10.out.2.2 2 _ rfl
  have c3 : w10.cell? ⟨w8.heap.size + 1, 3, none⟩ = some (.int .i64 0) := block_cell Hw10.out.2.2 3 _ rfl
  have c4 : w10.cell? ⟨w8.heap.size + 1, 4, none⟩ = some (.bool false) := block_cell Hw10.out.2.2 4 _ rfl
  have c5 : w10.cell? ⟨w8.heap.size + 1, 5, none⟩ = some (.slice (some ⟨w8.heap.size, 0, none⟩) 1 1) := block_cell Hw10.out.2.2 5 _ rfl
  go_wp2_with fail
  go_at_call 14
  refine (HGl.out _ Hw10.out.1 Hw10.out.2).mono ?_
  rintro e w11 ⟨rfl, hb⟩
  have Hw11 := Lib.hid (And.intro (Hw10.out.1.next hb) (HGx.out _ _ Hw10.out.2 hb))
  clear hb
  clear c0 c1 c2 c3 c4 c5
  have c0 : w11.cell? ⟨w8.heap.size + 1, 0, none⟩ = some (.int .u8 6) := block_cell Hw11.out.2.2 0 _ rfl
  have c1 : w11.cell? ⟨w8.heap.size + 1, 1, none⟩ = some (.slice none 0 0) := block_cell Hw11.out.2.2 1 _ rfl
  have c2 : w11.cell? ⟨w8.heap.size + 1, 2, none⟩ = some (.int .i64 0) := block_cell Hw11.out.2.2 2 _ rfl
  have c3 : w11.cell? ⟨w8.heap.size + 1, 3, none⟩ = some (.int .i64 0) := block_cell Hw11.out.2.2 3 _ rfl
  have c4 : w11.cell? ⟨w8.heap.size + 1, 4, none⟩ = some (.bool false) := block_cell Hw11.out.2.2 4 _ rfl
  have c5 : w11.cell? ⟨w8.heap.size + 1, 5, none⟩ = some (.slice (some ⟨w8.heap.size, 0, none⟩) 1 1) := block_cell Hw11.out.2.2 5 _ rfl
  go_wp2_with fail
  go_at_call 13
  refine (HGn.out _ Hw11.out.1 Hw11.out.2).mono ?_
  rintro e w12 ⟨rfl, hb⟩
  have Hw12 := Lib.hid (Hw11.out.1.next hb)
  clear hb
  clear c0 c1 c2 c3 c4 c5
  clear HGg HGl HGn HGT HGe HGx Hw9 Hw10 Hw11
  obtain ⟨_, _, hgi0, hgi1⟩ := HV1.out
  have c0 : w12.cell? ⟨A, 0, none⟩ = some (.int .u8 k1) := block_cell Hw12.out.a 0 _ rfl
  have c1 : w12.cell? ⟨A, 1, none⟩ = some (.slice sa1 s1.length sc1) := block_cell Hw12.out.a 1 _ rfl
  have c2 : w12.cell? ⟨A, 2, none⟩ = some (.int .i64 mn1) := block_cell Hw12.out.a 2 _ rfl
  have c3 : w12.cell? ⟨A, 3, none⟩ = some (.int .i64 mx1) := block_cell Hw12.out.a 3 _ rfl
  have c4 : w12.cell? ⟨A, 4, none⟩ = some (.bool lz1) := block_cell Hw12.out.a 4 _ rfl
  have c5 : w12.cell? ⟨A, 5, none⟩ = some (.slice na1 l1.length nc1) := block_cell Hw12.out.a 5 _ rfl
  have d0 : w12.cell? ⟨C, 0, none⟩ = some (.int .u8 k2) := block_cell Hw12.out.c 0 _ rfl
  have d1 : w12.cell? ⟨C, 1, none⟩ = some (.slice sa2 s2.length sc2) := block_cell Hw12.out.c 1 _ rfl
  have d2 : w12.cell? ⟨C, 2, none⟩ = some (.int .i64 mn2) := block_cell Hw12.out.c 2 _ rfl
  have d3 : w12.cell? ⟨C, 3, none⟩ = some (.int .i64 mx2) := block_cell Hw12.out.c 3 _ rfl
  have d4 : w12.cell? ⟨C, 4, none⟩ = some (.bool lz2) := block_cell Hw12.out.c 4 _ rfl
  have d5 : w12.cell? ⟨C, 5, none⟩ = some (.slice na2 l2.length nc2) := block_cell Hw12.out.c 5 _ rfl
  go_wp2_with fail
  refine at_world ?_
  intro W13 hW13
  have hbW : Below w12.heap.size w12 W13 := by rw [hW13]; exact (Below.refl _ _).alloc (Nat.le_refl _) _
  have gS : W13.heap[w12.heap.size]? = some (.cells ((L.mk k1 sa1 sc1 s1 mn1 mx1 lz1 na1 nc1 l1).cs ++ (L.mk k2 sa2 sc2 s2 mn2 mx2 lz2 na2 nc2 l2).cs).toArray 27 (0, 0)) := by rw [hW13]; exact heap_alloc_new w12 _
  have Hw13 := Lib.hid (And.intro (Hw12.out.next hbW) gS)
  have HCe : Hid (∀ k : Int, 0 ≤ k ∧ k ≤ 255 → ∀ W, TwoAt w (L.mk k1 sa1 sc1 s1 mn1 mx1 lz1 na1 nc1 l1) (L.mk k2 sa2 sc2 s2 mn2 mx2 lz2 na2 nc2 l2) A C W → W.heap[w12.heap.size]? = some (.cells ((L.mk k1 sa1 sc1 s1 mn1 mx1 lz1 na1 nc1 l1).cs ++ (L.mk k2 sa2 sc2 s2 mn2 mx2 lz2 na2 nc2 l2).cs).toArray 27 (0, 0)) → RdT (fun _ => True) W (L.mk k none 0 [] 0 0 false (some ⟨w12.heap.size, 0, none⟩) 2 [(L.mk k1 sa1 sc1 s1 mn1 mx1 lz1 na1 nc1 l1), (L.mk k2 sa2 sc2 s2 mn2 mx2 lz2 na2 nc2 l2)]) ∧ L.tree (L.mk k none 0 [] 0 0 false (some ⟨w12.heap.size, 0, none⟩) 2 [(L.mk k1 sa1 sc1 s1 mn1 mx1 lz1 na1 nc1 l1), (L.mk k2 sa2 sc2 s2 mn2 mx2 lz2 na2 nc2 l2)]) = .mk k [] 0 0 false [T1, T2]) := Lib.hid (fun k hk W h h2 => ⟨two_part h.r1 h.r2 h2 hk, by rw [← HX.out.1, ← HX.out.2]; rfl⟩)
  have hC : Calls Tryz.prog 14 #[.agg #[.int .u8 3, .slice none 0 0, .int .i64 0, .int .i64 0, .bool false, .slice (some ⟨w12.heap.size, 0, none⟩) 2 2]] W13 fun e w' => e = .returned (.tuple #[.int .i64 (min (pa + qa) 1073741824), .int .i64 sq, .int .i64 0]) ∧ Below W13.heap.size W13 w' :=
    len_known (L.mk 3 none 0 [] 0 0 false (some ⟨w12.heap.size, 0, none⟩) 2 [(L.mk k1 sa1 sc1 s1 mn1 mx1 lz1 na1 nc1 l1), (L.mk k2 sa2 sc2 s2 mn2 mx2 lz2 na2 nc2 l2)]) W13 (HCe.out 3 (by omega) W13 Hw13.out.1 gS).1 (by rw [(HCe.out 3 (by omega) W13 Hw13.out.1 gS).2, HLF.out.lc, ← HX0.out.1, ← HX0.out.2.1, HX0.out.2.2.2.2.1]) (by rw [(HCe.out 3 (by omega) W13 Hw13.out.1 gS).2]; exact HLF.out.rc)
  clear hW13 hbW gS c0 d0 c1 d1 c2 d2 c3 d3 c4 d4 c5 d5
  refine hC.mono ?_
  clear hC
  rintro e w14 ⟨rfl, hb⟩
  have Hw14 := Lib.hid (And.intro (Hw13.out.1.next hb) ((hb.block _ (isT_of Hw13.out.2).lt).trans Hw13.out.2))
  clear hb
  have HC : Hid (Calls Tryz.prog 14 #[.agg #[.int .u8 4, .slice none 0 0, .int .i64 0, .int .i64 0, .bool false, .slice (some ⟨w12.heap.size, 0, none⟩) 2 2]] w14 fun e w' => e = .returned (.tuple #[.int .i64 (min pa qa), .int .i64 mq, .int .i64 0]) ∧ Below w14.heap.size w14 w') :=
    Lib.hid (len_known (L.mk 4 none 0 [] 0 0 false (some ⟨w12.heap.size, 0, none⟩) 2 [(L.mk k1 sa1 sc1 s1 mn1 mx1 lz1 na1 nc1 l1), (L.mk k2 sa2 sc2 s2 mn2 mx2 lz2 na2 nc2 l2)]) w14 (HCe.out 4 (by omega) w14 Hw14.out.1 Hw14.out.2).1 (by rw [(HCe.out 4 (by omega) w14 Hw14.out.1 Hw14.out.2).2, HLF.out.la, ← HX0.out.1, ← HX0.out.2.1, HX0.out.2.2.2.2.2]) (by rw [(HCe.out 4 (by omega) w14 Hw14.out.1 Hw14.out.2).2]; exact HLF.out.ra))
  go_wp2_with fail
  go_at_call 14
  refine HC.out.mono ?_
  rintro e w15 ⟨rfl, hb⟩
  have Hw15 := Lib.hid (Hw14.out.1.next hb).bel
  clear hb HC HCe Hw12 Hw13 Hw14 hgi0 hgi1
  have HS := Lib.hid (And.intro HX0.out.2.2.2.2.1 HX0.out.2.2.2.2.2)
  clear HX0 HX HLF
  obtain ⟨⟨⟨p1, p2⟩, p3, _⟩, ⟨⟨q1, q2⟩, q3⟩, _⟩ := HV1.out
  clear HV1
  by_cases h1 : pb = -1
  · have e1 : sq = -1 := by rw [HS.out.1, if_pos (.inl h1)]
    have e2 : mq = -1 := by rw [HS.out.2, if_pos (.inl h1)]
    have hq : -1 ≤ qb ∧ qb ≤ 1073741824 := by omega
    obtain ⟨hq1, hq2⟩ := hq
    clear HS p3 q3
    subst h1 e1 e2
    go_wp2_with fail
    go_ret
    exact ⟨rfl, Hw15.out⟩
  · have hb1 : (pb == -1) = false := beq_eq_false_iff_ne.2 h1
    have hp : 0 ≤ pb ∧ pb ≤ 1073741824 := by omega
    obtain ⟨hp1, hp2⟩ := hp
    by_cases h2 : qb = -1
    · have e1 : sq = -1 := by rw [HS.out.1, if_pos (.inr h2)]
      have e2 : mq = -1 := by rw [HS.out.2, if_pos (.inr h2)]
      clear HS p3 q3 h1
      subst h2 e1 e2
      go_wp2_with fail
      go_ret
      exact ⟨rfl, Hw15.out⟩
    · have hb2 : (qb == -1) = false := beq_eq_false_iff_ne.2 h2
      have hq : 0 ≤ qb ∧ qb ≤ 1073741824 := by omega
      obtain ⟨hq1, hq2⟩ := hq
      have e1 : sq = min (pb + qb) 1073741824 := by rw [HS.out.1, if_neg (by omega)]
      have e2 : mq = max pb qb := by rw [HS.out.2, if_neg (by omega)]
      clear HS p3 q3 h1 h2
      subst e1 e2
      go_wp2_with fail
      go_ret
      exact ⟨rfl, Hw15.out⟩
end Go.Proofs.YtimahlimmblgkaaGreatDoor.Sy
