/- Chapter 07: the law SyntaxBack. -/
import Derived.Test.YtcklkjibhgbhiaaGreatDoorPTsP
namespace Go.Proofs.YtcklkjibhgbhiaaGreatDoor.Sy
open Go Go.RowKit
set_option maxRecDepth 100000 in
set_option maxHeartbeats 16000000 in
theorem back_law (a b : Option Addr) (ca cb : Nat) (l m : List Sm) (s : ByteArray) (w : World) (hV : Vs w) (ha : RdF w a (sFlat l)) (hna : a = none → l = [] ∧ ca = 0) (hka : ∀ x ∈ l, SmOK x) (hla : l.length ≤ ca) (hca : ca ≤ maxLen)
    (hb : RdF w b (sFlat m)) (hnb : b = none → m = [] ∧ cb = 0) (hkb : ∀ x ∈ m, SmOK x) (hlb : m.length ≤ cb) (hcb : cb ≤ maxLen) :
    Calls Tryz.prog 4 #[.slice a l.length ca, .slice b m.length cb, .string s] w fun e w' => e = .returned (.bool true) ∧ Below w.heap.size w w' := by
  have HM1 : Hid (∀ W, Below w.heap.size w W → Calls Tryz.prog 10 #[.slice a l.length ca] W (GivesP (fun b => W.heap.size ≤ b) W (made l))) := Lib.hid (fun W h => made_calls a ca l W (RdF.below ha h) hna hka hla hca)
  have HM2 : Hid (∀ W, Below w.heap.size w W → Calls Tryz.prog 10 #[.slice b m.length cb] W (GivesP (fun b => W.heap.size ≤ b) W (made m))) := Lib.hid (fun W h => made_calls b cb m W (RdF.below hb h) hnb hkb hlb hcb)
  obtain ⟨n1, hn1⟩ : ∃ q, q = l.length := ⟨_, rfl⟩
  obtain ⟨n2, hn2⟩ : ∃ q, q = m.length := ⟨_, rfl⟩
  rw [← hn1] at HM1 ⊢
  rw [← hn2] at HM2 ⊢
  have HG1 := Lib.hid (made_ok l)
  have HG2 := Lib.hid (made_ok m)
  obtain ⟨T1, hT1⟩ : ∃ q, q = made l := ⟨_, rfl⟩
  obtain ⟨T2, hT2⟩ : ∃ q, q = made m := ⟨_, rfl⟩
  rw [← hT1] at HM1 HG1
  rw [← hT2] at HM2 HG2
  obtain ⟨u1, hu1⟩ : ∃ q, q = wr [] T1 := ⟨_, rfl⟩
  obtain ⟨u2, hu2⟩ : ∃ q, q = wr [] T2 := ⟨_, rfl⟩
  have hbeq := text_eq HG1.out HG2.out
  rw [← hu1, ← hu2] at hbeq
  have HU := Lib.hid (And.intro hu1 hu2)
  obtain ⟨eq12, heq⟩ : ∃ q, q = same T1 T2 := ⟨_, rfl⟩
  rw [← heq] at hbeq
  have HEQ := Lib.hid heq
  have HA := Lib.hid (awake_calls w hV)
  have HV := Lib.hid hV
  clear ha hb hna hnb hka hkb hla hlb hca hcb hn1 hn2 hT1 hT2 hu1 hu2 heq hV
  go_enter Tryz.func4, Tryz.ntmps4
  go_wp2_with fail
  go_at_call 9
  refine HA.out.mono ?_
  rintro e w1 ⟨rfl, hb1⟩
  have H1 := Lib.hid hb1
  clear hb1
  go_wp2_with fail
  go_at_call 10
  refine (HM1.out w1 H1.out).mono ?_
  rintro e w2 ⟨⟨k1, sa1, sc1, s1, mn1, mx1, lz1, na1, nc1, l1⟩, rfl, hy1, hr1, hb2⟩
  rw [val_mk]
  have H2 := Lib.hid (And.intro (H1.out.trans (hb2.mono H1.out.size)) (And.intro hy1 hr1))
  clear hy1 hr1 hb2
  go_wp2_with fail
  go_at_call 10
  refine (HM2.out w2 H2.out.1).mono ?_
  rintro e w3 ⟨⟨k2, sa2, sc2, s2, mn2, mx2, lz2, na2, nc2, l2⟩, rfl, hy2, hr2, hb3⟩
  rw [val_mk]
  have H3 := Lib.hid (And.intro (H2.out.1.trans (hb3.mono H2.out.1.size)) (And.intro hy2 (And.intro hr2 (H2.out.2.2.bel hb3))))
  clear hy2 hr2 hb3
  go_wp2_with fail
  refine at_world ?_
  intro W3 hW3
  obtain ⟨A, hA⟩ : ∃ q, q = w3.heap.size := ⟨_, rfl⟩
  obtain ⟨C, hC⟩ : ∃ q, q = w3.heap.size + 1 := ⟨_, rfl⟩
  rw [← hC, ← hA]
  have hbW : Below w3.heap.size w3 W3 := by rw [hW3]; exact ((Below.refl _ _).alloc (Nat.le_refl _) _).alloc (by simp) _
  have gA : W3.heap[A]? = some (.cells #[.int .u8 k1, .slice sa1 s1.length sc1, .int .i64 mn1, .int .i64 mx1, .bool lz1, .slice na1 l1.length nc1] 27 (0, 0)) := by
    rw [hW3, hA]
    exact (((Below.refl (w3.alloc _).heap.size _).alloc (Nat.le_refl _) _).block _ (by simp)).trans (heap_alloc_new w3 _)
  have gC : W3.heap[C]? = some (.cells #[.int .u8 k2, .slice sa2 s2.length sc2, .int .i64 mn2, .int .i64 mx2, .bool lz2, .slice na2 l2.length nc2] 27 (0, 0)) := by
    rw [hW3, hC]
    have := heap_alloc_new (w3.alloc (.cells #[.int .u8 k1, .slice sa1 s1.length sc1, .int .i64 mn1, .int .i64 mx1, .bool lz1, .slice na1 l1.length nc1] 27)) (.cells #[.int .u8 k2, .slice sa2 s2.length sc2, .int .i64 mn2, .int .i64 mx2, .bool lz2, .slice na2 l2.length nc2] 27)
    simpa using this
  have hT0 : TwoAt w (L.mk k1 sa1 sc1 s1 mn1 mx1 lz1 na1 nc1 l1) (L.mk k2 sa2 sc2 s2 mn2 mx2 lz2 na2 nc2 l2) A C W3 := ⟨H3.out.1.trans (hbW.mono H3.out.1.size), gA, gC, (H3.out.2.2.2.bel hbW).all, (H3.out.2.2.1.bel hbW).all⟩
  have HX : Hid (L.tree (L.mk k1 sa1 sc1 s1 mn1 mx1 lz1 na1 nc1 l1) = T1 ∧ L.tree (L.mk k2 sa2 sc2 s2 mn2 mx2 lz2 na2 nc2 l2) = T2) := Lib.hid ⟨H2.out.2.1, H3.out.2.1⟩
  clear hW3 hA hC hbW gA gC
  have HT1 : Hid (∀ W, TwoAt w (L.mk k1 sa1 sc1 s1 mn1 mx1 lz1 na1 nc1 l1) (L.mk k2 sa2 sc2 s2 mn2 mx2 lz2 na2 nc2 l2) A C W → Calls Tryz.prog 15 #[.agg #[.int .u8 k1, .slice sa1 s1.length sc1, .int .i64 mn1, .int .i64 mx1, .bool lz1, .slice na1 l1.length nc1]] W fun e w' => e = .returned (.tuple #[.string ⟨u1.toArray⟩, .int .i64 0]) ∧ Below W.heap.size W w') := Lib.hid (fun W h => text_made (L.mk k1 sa1 sc1 s1 mn1 mx1 lz1 na1 nc1 l1) T1 u1 w W HV.out h.bel h.r1 HX.out.1 HG1.out HU.out.1)
  have HT2 : Hid (∀ W, TwoAt w (L.mk k1 sa1 sc1 s1 mn1 mx1 lz1 na1 nc1 l1) (L.mk k2 sa2 sc2 s2 mn2 mx2 lz2 na2 nc2 l2) A C W → Calls Tryz.prog 15 #[.agg #[.int .u8 k2, .slice sa2 s2.length sc2, .int .i64 mn2, .int .i64 mx2, .bool lz2, .slice na2 l2.length nc2]] W fun e w' => e = .returned (.tuple #[.string ⟨u2.toArray⟩, .int .i64 0]) ∧ Below W.heap.size W w') := Lib.hid (fun W h => text_made (L.mk k2 sa2 sc2 s2 mn2 mx2 lz2 na2 nc2 l2) T2 u2 w W HV.out h.bel h.r2 HX.out.2 HG2.out HU.out.2)
  have HR1 : Hid (∀ W, TwoAt w (L.mk k1 sa1 sc1 s1 mn1 mx1 lz1 na1 nc1 l1) (L.mk k2 sa2 sc2 s2 mn2 mx2 lz2 na2 nc2 l2) A C W → Calls Tryz.prog 17 #[.agg #[.int .u8 k1, .slice sa1 s1.length sc1, .int .i64 mn1, .int .i64 mx1, .bool lz1, .slice na1 l1.length nc1]] W fun e w' => e = .returned (.bool true) ∧ Below W.heap.size W w') := Lib.hid (fun W h => (right_tree (L.mk k1 sa1 sc1 s1 mn1 mx1 lz1 na1 nc1 l1) W h.r1).mono (fun e w' h2 => ⟨by rw [h2.1, HX.out.1, HG1.out.right], h2.2⟩))
  have HE12 : Hid (∀ W, TwoAt w (L.mk k1 sa1 sc1 s1 mn1 mx1 lz1 na1 nc1 l1) (L.mk k2 sa2 sc2 s2 mn2 mx2 lz2 na2 nc2 l2) A C W → Calls Tryz.prog 18 #[.agg #[.int .u8 k1, .slice sa1 s1.length sc1, .int .i64 mn1, .int .i64 mx1, .bool lz1, .slice na1 l1.length nc1], .agg #[.int .u8 k2, .slice sa2 s2.length sc2, .int .i64 mn2, .int .i64 mx2, .bool lz2, .slice na2 l2.length nc2]] W fun e w' => e = .returned (.bool eq12) ∧ Below W.heap.size W w') := Lib.hid (fun W h => (same_all (L.mk k1 sa1 sc1 s1 mn1 mx1 lz1 na1 nc1 l1) (L.mk k2 sa2 sc2 s2 mn2 mx2 lz2 na2 nc2 l2) _ _ W h.r1 h.r2).mono (fun e w' h2 => ⟨by rw [h2.1, HX.out.1, HX.out.2, ← HEQ.out], h2.2⟩))
  have H3' := Lib.hid hT0
  refine (HT1.out W3 hT0).mono ?_
  rintro e w4 ⟨rfl, hb4⟩
  have hT4 := hT0.next hb4
  clear hT0 hb4
  have c0 : w4.cell? ⟨A, 0, none⟩ = some (.int .u8 k1) := block_cell hT4.a 0 _ rfl
  have c1 : w4.cell? ⟨A, 1, none⟩ = some (.slice sa1 s1.length sc1) := block_cell hT4.a 1 _ rfl
  have c2 : w4.cell? ⟨A, 2, none⟩ = some (.int .i64 mn1) := block_cell hT4.a 2 _ rfl
  have c3 : w4.cell? ⟨A, 3, none⟩ = some (.int .i64 mx1) := block_cell hT4.a 3 _ rfl
  have c4 : w4.cell? ⟨A, 4, none⟩ = some (.bool lz1) := block_cell hT4.a 4 _ rfl
  have c5 : w4.cell? ⟨A, 5, none⟩ = some (.slice na1 l1.length nc1) := block_cell hT4.a 5 _ rfl
  have d0 : w4.cell? ⟨C, 0, none⟩ = some (.int .u8 k2) := block_cell hT4.c 0 _ rfl
  have d1 : w4.cell? ⟨C, 1, none⟩ = some (.slice sa2 s2.length sc2) := block_cell hT4.c 1 _ rfl
  have d2 : w4.cell? ⟨C, 2, none⟩ = some (.int .i64 mn2) := block_cell hT4.c 2 _ rfl
  have d3 : w4.cell? ⟨C, 3, none⟩ = some (.int .i64 mx2) := block_cell hT4.c 3 _ rfl
  have d4 : w4.cell? ⟨C, 4, none⟩ = some (.bool lz2) := block_cell hT4.c 4 _ rfl
  have d5 : w4.cell? ⟨C, 5, none⟩ = some (.slice na2 l2.length nc2) := block_cell hT4.c 5 _ rfl
  have H4 := Lib.hid hT4
  clear hT4
  go_wp2_with fail
  go_at_call 15
  refine (HT2.out w4 H4.out).mono ?_
  rintro e w5 ⟨rfl, hb5⟩
  have H5 := Lib.hid (H4.out.next hb5)
  clear hb5 c0 c1 c2 c3 c4 c5 d0 d1 d2 d3 d4 d5
  go_wp2_with fail
  go_at_call 16
  refine (parse_okC ⟨u1.toArray⟩ T1 w5 (HV.out.below H5.out.bel) (by have := HG1.out.len; rw [← HU.out.1] at this; simp only [ByteArray.size, List.size_toArray]; omega) (by rw [HU.out.1]; exact parse_text HG1.out.right (by have := HG1.out.len; omega))).mono ?_
  rintro e w6 ⟨⟨k3, sa3, sc3, s3, mn3, mx3, lz3, na3, nc3, l3⟩, rfl, hy3, hr3, hb6⟩
  rw [val_mk]
  have HY3 := Lib.hid (And.intro hy3 hr3)
  have hT6 := H5.out.next hb6
  have HE31 : Hid (∀ W, Below w6.heap.size w6 W → TwoAt w (L.mk k1 sa1 sc1 s1 mn1 mx1 lz1 na1 nc1 l1) (L.mk k2 sa2 sc2 s2 mn2 mx2 lz2 na2 nc2 l2) A C W → Calls Tryz.prog 18 #[.agg #[.int .u8 k3, .slice sa3 s3.length sc3, .int .i64 mn3, .int .i64 mx3, .bool lz3, .slice na3 l3.length nc3], .agg #[.int .u8 k1, .slice sa1 s1.length sc1, .int .i64 mn1, .int .i64 mx1, .bool lz1, .slice na1 l1.length nc1]] W fun e w' => e = .returned (.bool true) ∧ Below W.heap.size W w') := Lib.hid (fun W hb h => (same_all (L.mk k3 sa3 sc3 s3 mn3 mx3 lz3 na3 nc3 l3) (L.mk k1 sa1 sc1 s1 mn1 mx1 lz1 na1 nc1 l1) _ _ W (hr3.bel hb) h.r1).mono (fun e w' h2 => ⟨by rw [h2.1, hy3, HX.out.1, same_self], h2.2⟩))
  have H6 := Lib.hid hT6
  have c0 : ∀ o, (w6.alloc o).cell? ⟨A, 0, none⟩ = some (.int .u8 k1) := fun o => al_cell (block_cell hT6.a 0 _ rfl) o
  have c1 : ∀ o, (w6.alloc o).cell? ⟨A, 1, none⟩ = some (.slice sa1 s1.length sc1) := fun o => al_cell (block_cell hT6.a 1 _ rfl) o
  have c2 : ∀ o, (w6.alloc o).cell? ⟨A, 2, none⟩ = some (.int .i64 mn1) := fun o => al_cell (block_cell hT6.a 2 _ rfl) o
  have c3 : ∀ o, (w6.alloc o).cell? ⟨A, 3, none⟩ = some (.int .i64 mx1) := fun o => al_cell (block_cell hT6.a 3 _ rfl) o
  have c4 : ∀ o, (w6.alloc o).cell? ⟨A, 4, none⟩ = some (.bool lz1) := fun o => al_cell (block_cell hT6.a 4 _ rfl) o
  have c5 : ∀ o, (w6.alloc o).cell? ⟨A, 5, none⟩ = some (.slice na1 l1.length nc1) := fun o => al_cell (block_cell hT6.a 5 _ rfl) o
  clear hT6 hy3 hr3 hb6
  go_wp2_with fail
  refine at_world ?_
  intro W7 hW7
  have hbW : Below w6.heap.size w6 W7 := by rw [hW7]; exact (Below.refl _ _).alloc (Nat.le_refl _) _
  have gB : W7.heap[w6.heap.size]? = some (.cells #[.int .u8 k3, .slice sa3 s3.length sc3, .int .i64 mn3, .int .i64 mx3, .bool lz3, .slice na3 l3.length nc3] 27 (0, 0)) := by rw [hW7]; exact heap_alloc_new w6 _
  have hT7 := H6.out.next hbW
  clear hW7 c0 c1 c2 c3 c4 c5
  refine (HR1.out W7 hT7).mono ?_
  rintro e w8 ⟨rfl, hb8⟩
  have gB8 := (hb8.block _ (isT_of gB).lt).trans gB
  have hT8 := hT7.next hb8
  have H8 := Lib.hid (And.intro hT8 (And.intro (hbW.trans (hb8.mono hbW.size)) gB8))
  have c0 : w8.cell? ⟨A, 0, none⟩ = some (.int .u8 k1) := block_cell hT8.a 0 _ rfl
  have c1 : w8.cell? ⟨A, 1, none⟩ = some (.slice sa1 s1.length sc1) := block_cell hT8.a 1 _ rfl
  have c2 : w8.cell? ⟨A, 2, none⟩ = some (.int .i64 mn1) := block_cell hT8.a 2 _ rfl
  have c3 : w8.cell? ⟨A, 3, none⟩ = some (.int .i64 mx1) := block_cell hT8.a 3 _ rfl
  have c4 : w8.cell? ⟨A, 4, none⟩ = some (.bool lz1) := block_cell hT8.a 4 _ rfl
  have c5 : w8.cell? ⟨A, 5, none⟩ = some (.slice na1 l1.length nc1) := block_cell hT8.a 5 _ rfl
  have d0 : w8.cell? ⟨C, 0, none⟩ = some (.int .u8 k2) := block_cell hT8.c 0 _ rfl
  have d1 : w8.cell? ⟨C, 1, none⟩ = some (.slice sa2 s2.length sc2) := block_cell hT8.c 1 _ rfl
  have d2 : w8.cell? ⟨C, 2, none⟩ = some (.int .i64 mn2) := block_cell hT8.c 2 _ rfl
  have d3 : w8.cell? ⟨C, 3, none⟩ = some (.int .i64 mx2) := block_cell hT8.c 3 _ rfl
  have d4 : w8.cell? ⟨C, 4, none⟩ = some (.bool lz2) := block_cell hT8.c 4 _ rfl
  have d5 : w8.cell? ⟨C, 5, none⟩ = some (.slice na2 l2.length nc2) := block_cell hT8.c 5 _ rfl
  have b0 : w8.cell? ⟨w6.heap.size, 0, none⟩ = some (.int .u8 k3) := block_cell gB8 0 _ rfl
  have b1 : w8.cell? ⟨w6.heap.size, 1, none⟩ = some (.slice sa3 s3.length sc3) := block_cell gB8 1 _ rfl
  have b2 : w8.cell? ⟨w6.heap.size, 2, none⟩ = some (.int .i64 mn3) := block_cell gB8 2 _ rfl
  have b3 : w8.cell? ⟨w6.heap.size, 3, none⟩ = some (.int .i64 mx3) := block_cell gB8 3 _ rfl
  have b4 : w8.cell? ⟨w6.heap.size, 4, none⟩ = some (.bool lz3) := block_cell gB8 4 _ rfl
  have b5 : w8.cell? ⟨w6.heap.size, 5, none⟩ = some (.slice na3 l3.length nc3) := block_cell gB8 5 _ rfl
  clear hbW gB hT7 hb8 gB8 hT8
  go_wp2_with fail
  refine (HE31.out w8 H8.out.2.1 H8.out.1).mono ?_
  rintro e w9 ⟨rfl, hb9⟩
  have hT9 := H8.out.1.next hb9
  clear c0 c1 c2 c3 c4 c5 d0 d1 d2 d3 d4 d5 b0 b1 b2 b3 b4 b5
  have c0 : w9.cell? ⟨A, 0, none⟩ = some (.int .u8 k1) := block_cell hT9.a 0 _ rfl
  have c1 : w9.cell? ⟨A, 1, none⟩ = some (.slice sa1 s1.length sc1) := block_cell hT9.a 1 _ rfl
  have c2 : w9.cell? ⟨A, 2, none⟩ = some (.int .i64 mn1) := block_cell hT9.a 2 _ rfl
  have c3 : w9.cell? ⟨A, 3, none⟩ = some (.int .i64 mx1) := block_cell hT9.a 3 _ rfl
  have c4 : w9.cell? ⟨A, 4, none⟩ = some (.bool lz1) := block_cell hT9.a 4 _ rfl
  have c5 : w9.cell? ⟨A, 5, none⟩ = some (.slice na1 l1.length nc1) := block_cell hT9.a 5 _ rfl
  have d0 : w9.cell? ⟨C, 0, none⟩ = some (.int .u8 k2) := block_cell hT9.c 0 _ rfl
  have d1 : w9.cell? ⟨C, 1, none⟩ = some (.slice sa2 s2.length sc2) := block_cell hT9.c 1 _ rfl
  have d2 : w9.cell? ⟨C, 2, none⟩ = some (.int .i64 mn2) := block_cell hT9.c 2 _ rfl
  have d3 : w9.cell? ⟨C, 3, none⟩ = some (.int .i64 mx2) := block_cell hT9.c 3 _ rfl
  have d4 : w9.cell? ⟨C, 4, none⟩ = some (.bool lz2) := block_cell hT9.c 4 _ rfl
  have d5 : w9.cell? ⟨C, 5, none⟩ = some (.slice na2 l2.length nc2) := block_cell hT9.c 5 _ rfl
  have H9 := Lib.hid hT9
  clear hb9 hT9
  have hbeq2 : ((⟨u1.toArray⟩ : ByteArray).toList == (⟨u2.toArray⟩ : ByteArray).toList) = eq12 := by simpa using hbeq
  go_wp2_with fail
  go_at_call 18
  refine (HE12.out w9 H9.out).mono ?_
  rintro e w10 ⟨rfl, hb10⟩
  have H10 := Lib.hid (H9.out.next hb10).bel
  clear c0 c1 c2 c3 c4 c5 d0 d1 d2 d3 d4 d5
  clear hb10 hbeq hbeq2
  by_cases hlong : 300 < s.size
  · have hd : decide ((300 : Int) < (s.size : Int)) = true := by simp; omega
    go_wp2_with fail
    go_ret
    exact ⟨rfl, H10.out⟩
  · have hd : decide ((300 : Int) < (s.size : Int)) = false := by simp; omega
    go_wp2_with fail
    go_at_call 16
    refine (parse_calls s w10 (HV.out.below H10.out) (by omega)).mono ?_
    rintro e w11 ⟨hcase, hb11⟩
    have H11 := Lib.hid (H10.out.trans (hb11.mono H10.out.size))
    clear hb11
    rcases hcase with ⟨t4, ⟨k4, sa4, sc4, s4, mn4, mx4, lz4, na4, nc4, l4⟩, hp, rfl, hy4, hr4⟩ | ⟨x, hp, rfl⟩
    rotate_left
    · have HZ := Lib.hid (fun W => same_all zeroL zeroL _ _ W (zero_rd (fun _ => True) W) (zero_rd (fun _ => True) W))
      rcases parse_err4 hp (by rw [len_d]; omega) with rfl | rfl | rfl | rfl
      all_goals
        clear hp
        go_wp2_with fail
        go_at_call 18
        refine (HZ.out _).mono ?_
        rintro e w12 ⟨rfl, hb12⟩
        have H12 := Lib.hid ((H11.out.alloc H11.out.size _).trans (hb12.mono (by have := H11.out.size; simp; omega)))
        clear hb12
        rw [same_self]
        go_wp2_with fail
        go_ret
        exact ⟨rfl, H12.out⟩
    · rw [val_mk]
      obtain ⟨hrt, hct, _⟩ := parse_ok hp
      have hwl := wr_len t4 [] (right_parts hrt).1
      have HP4 := Lib.hid (And.intro hrt (And.intro hy4 hr4))
      have HTX : Hid (∀ W, Below w11.heap.size w11 W → Calls Tryz.prog 15 #[.agg #[.int .u8 k4, .slice sa4 s4.length sc4, .int .i64 mn4, .int .i64 mx4, .bool lz4, .slice na4 l4.length nc4]] W (TextPost t4 W)) := Lib.hid (fun W hb => by
        have h := text_tree (L.mk k4 sa4 sc4 s4 mn4 mx4 lz4 na4 nc4 l4) W (hr4.bel hb) (HV.out.below (H11.out.trans (hb.mono H11.out.size))) (by rw [hy4]; omega)
        rw [hy4] at h
        exact h)
      have HRX : Hid (∀ W, Below w11.heap.size w11 W → Calls Tryz.prog 17 #[.agg #[.int .u8 k4, .slice sa4 s4.length sc4, .int .i64 mn4, .int .i64 mx4, .bool lz4, .slice na4 l4.length nc4]] W fun e w' => e = .returned (.bool true) ∧ Below W.heap.size W w') := Lib.hid (fun W hb => (right_tree (L.mk k4 sa4 sc4 s4 mn4 mx4 lz4 na4 nc4 l4) W (hr4.bel hb)).mono (fun e w' h2 => ⟨by rw [h2.1, hy4, hrt], h2.2⟩))
      clear hp hrt hct hwl hy4 hr4
      go_wp2_with fail
      refine at_world ?_
      intro W12 hW12
      have hbW : Below w11.heap.size w11 W12 := by rw [hW12]; exact (Below.refl _ _).alloc (Nat.le_refl _) _
      have gD : W12.heap[w11.heap.size]? = some (.cells #[.int .u8 k4, .slice sa4 s4.length sc4, .int .i64 mn4, .int .i64 mx4, .bool lz4, .slice na4 l4.length nc4] 27 (0, 0)) := by rw [hW12]; exact heap_alloc_new w11 _
      clear hW12
      refine (HTX.out W12 hbW).mono ?_
      rintro e w13 ⟨he, hb13⟩
      have gD13 := (hb13.block _ (isT_of gD).lt).trans gD
      have H13 := Lib.hid (And.intro gD13 (hbW.trans (hb13.mono hbW.size)))
      have c0 : w13.cell? ⟨w11.heap.size, 0, none⟩ = some (.int .u8 k4) := block_cell gD13 0 _ rfl
      have c1 : w13.cell? ⟨w11.heap.size, 1, none⟩ = some (.slice sa4 s4.length sc4) := block_cell gD13 1 _ rfl
      have c2 : w13.cell? ⟨w11.heap.size, 2, none⟩ = some (.int .i64 mn4) := block_cell gD13 2 _ rfl
      have c3 : w13.cell? ⟨w11.heap.size, 3, none⟩ = some (.int .i64 mx4) := block_cell gD13 3 _ rfl
      have c4 : w13.cell? ⟨w11.heap.size, 4, none⟩ = some (.bool lz4) := block_cell gD13 4 _ rfl
      have c5 : w13.cell? ⟨w11.heap.size, 5, none⟩ = some (.slice na4 l4.length nc4) := block_cell gD13 5 _ rfl
      clear hbW gD hb13 gD13
      by_cases hl4 : 1024 < (wr [] t4).length
      · have e4 : textP t4 = ([], 3) := by unfold textP; rw [HP4.out.1, if_pos rfl, if_pos hl4]
        rw [e4] at he
        subst he
        clear e4 hl4
        go_wp2_with fail
        go_at_call 17
        refine (HRX.out w13 H13.out.2).mono ?_
        rintro e w14 ⟨rfl, hb14⟩
        have gD14 := (hb14.block _ (isT_of H13.out.1).lt).trans H13.out.1
        have H14 := Lib.hid (H13.out.2.trans (hb14.mono H13.out.2.size))
        clear c0 c1 c2 c3 c4 c5
        have c0 : w14.cell? ⟨w11.heap.size, 0, none⟩ = some (.int .u8 k4) := block_cell gD14 0 _ rfl
        have c1 : w14.cell? ⟨w11.heap.size, 1, none⟩ = some (.slice sa4 s4.length sc4) := block_cell gD14 1 _ rfl
        have c2 : w14.cell? ⟨w11.heap.size, 2, none⟩ = some (.int .i64 mn4) := block_cell gD14 2 _ rfl
        have c3 : w14.cell? ⟨w11.heap.size, 3, none⟩ = some (.int .i64 mx4) := block_cell gD14 3 _ rfl
        have c4 : w14.cell? ⟨w11.heap.size, 4, none⟩ = some (.bool lz4) := block_cell gD14 4 _ rfl
        have c5 : w14.cell? ⟨w11.heap.size, 5, none⟩ = some (.slice na4 l4.length nc4) := block_cell gD14 5 _ rfl
        clear hb14 gD14
        go_wp2_with fail
        go_at_call 17
        refine (HRX.out w14 H14.out).mono ?_
        rintro e w15 ⟨rfl, hb15⟩
        have H15 := Lib.hid (H11.out.trans ((H14.out.trans (hb15.mono H14.out.size)).mono H11.out.size))
        clear hb15
        go_wp2_with fail
        go_ret
        exact ⟨rfl, H15.out⟩
      · have e4 : textP t4 = (wr [] t4, 0) := by unfold textP; rw [HP4.out.1, if_pos rfl, if_neg hl4]
        rw [e4] at he
        subst he
        have HL4 := Lib.hid hl4
        clear e4 hl4
        obtain ⟨u4, hu4⟩ : ∃ q, q = wr [] t4 := ⟨_, rfl⟩
        rw [← hu4]
        have HU4 := Lib.hid hu4
        clear hu4
        go_wp2_with fail
        go_at_call 17
        refine (HRX.out w13 H13.out.2).mono ?_
        rintro e w14 ⟨rfl, hb14⟩
        have gD14 := (hb14.block _ (isT_of H13.out.1).lt).trans H13.out.1
        have H14 := Lib.hid (And.intro gD14 (H13.out.2.trans (hb14.mono H13.out.2.size)))
        clear c0 c1 c2 c3 c4 c5
        clear hb14 gD14
        go_wp2_with fail
        go_at_call 16
        refine (parse_okC ⟨u4.toArray⟩ t4 w14 (HV.out.below (H11.out.trans (H14.out.2.mono H11.out.size))) (by have := HL4.out; rw [← HU4.out] at this; simp only [ByteArray.size, List.size_toArray]; omega) (by rw [HU4.out]; exact parse_text HP4.out.1 (by have := HL4.out; omega))).mono ?_
        rintro e w15 ⟨⟨k5, sa5, sc5, s5, mn5, mx5, lz5, na5, nc5, l5⟩, rfl, hy5, hr5, hb15⟩
        rw [val_mk]
        have gD15 := (hb15.block _ (isT_of H14.out.1).lt).trans H14.out.1
        have h15 := H14.out.2.trans (hb15.mono H14.out.2.size)
        have HSS : Hid (∀ W, Below w15.heap.size w15 W → Calls Tryz.prog 18 #[.agg #[.int .u8 k5, .slice sa5 s5.length sc5, .int .i64 mn5, .int .i64 mx5, .bool lz5, .slice na5 l5.length nc5], .agg #[.int .u8 k4, .slice sa4 s4.length sc4, .int .i64 mn4, .int .i64 mx4, .bool lz4, .slice na4 l4.length nc4]] W fun e w' => e = .returned (.bool true) ∧ Below W.heap.size W w') := Lib.hid (fun W hb => (same_all (L.mk k5 sa5 sc5 s5 mn5 mx5 lz5 na5 nc5 l5) (L.mk k4 sa4 sc4 s4 mn4 mx4 lz4 na4 nc4 l4) _ _ W (hr5.bel hb) (HP4.out.2.2.bel (h15.trans (hb.mono h15.size)))).mono (fun e w' h2 => ⟨by rw [h2.1, hy5, HP4.out.2.1, same_self], h2.2⟩))
        have H15 := Lib.hid (H11.out.trans (h15.mono H11.out.size))
        have c0 : ∀ o, (w15.alloc o).cell? ⟨w11.heap.size, 0, none⟩ = some (.int .u8 k4) := fun o => al_cell (block_cell gD15 0 _ rfl) o
        have c1 : ∀ o, (w15.alloc o).cell? ⟨w11.heap.size, 1, none⟩ = some (.slice sa4 s4.length sc4) := fun o => al_cell (block_cell gD15 1 _ rfl) o
        have c2 : ∀ o, (w15.alloc o).cell? ⟨w11.heap.size, 2, none⟩ = some (.int .i64 mn4) := fun o => al_cell (block_cell gD15 2 _ rfl) o
        have c3 : ∀ o, (w15.alloc o).cell? ⟨w11.heap.size, 3, none⟩ = some (.int .i64 mx4) := fun o => al_cell (block_cell gD15 3 _ rfl) o
        have c4 : ∀ o, (w15.alloc o).cell? ⟨w11.heap.size, 4, none⟩ = some (.bool lz4) := fun o => al_cell (block_cell gD15 4 _ rfl) o
        have c5 : ∀ o, (w15.alloc o).cell? ⟨w11.heap.size, 5, none⟩ = some (.slice na4 l4.length nc4) := fun o => al_cell (block_cell gD15 5 _ rfl) o
        clear hy5 hr5 hb15 h15 gD15
        go_wp2_with fail
        go_at_call 18
        refine (HSS.out _ ((Below.refl _ _).alloc (Nat.le_refl _) _)).mono ?_
        rintro e w16 ⟨rfl, hb16⟩
        have H16 := Lib.hid ((H15.out.alloc H15.out.size _).trans (hb16.mono (by have := H15.out.size; simp; omega)))
        clear hb16
        go_wp2_with fail
        go_ret
        exact ⟨rfl, H16.out⟩
end Go.Proofs.YtcklkjibhgbhiaaGreatDoor.Sy
