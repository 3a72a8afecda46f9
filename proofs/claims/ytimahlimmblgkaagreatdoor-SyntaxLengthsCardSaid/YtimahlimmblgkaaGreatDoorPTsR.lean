/- Chapter 07: the law SyntaxBrackets. -/
import Derived.Test.YtimahlimmblgkaaGreatDoorPTsO
import Derived.Test.YtimahlimmblgkaaGreatDoorPTsS
namespace Go.Proofs.YtimahlimmblgkaaGreatDoor.Sy
open Go Go.RowKit
theorem both_right {l m : List Sm} : right (.mk 6 [] 0 0 false [made (l.take 9)]) = true ∧ right (.mk 3 [] 0 0 false [made (l.take 9), made (m.take 9)]) = true ∧ right (.mk 4 [] 0 0 false [made (l.take 9), made (m.take 9)]) = true := by
  obtain ⟨g1, _, c1⟩ := made_good (l.take 9)
  obtain ⟨g2, _, c2⟩ := made_good (m.take 9)
  rw [List.length_take] at c1 c2
  have hg : ∀ t ∈ [made (l.take 9), made (m.take 9)], Good t := by
    intro t ht
    rcases List.mem_cons.1 ht with rfl | ht
    · exact g1
    · rw [List.mem_singleton.1 ht]; exact g2
  refine ⟨(group_good g1).right' ?_, (cat_good hg (by simp)).right' ?_, (alt_good hg (by simp) (by simp)).right' ?_⟩ <;> simp only [cnt, cntL] <;> omega
/-- a located tree that lies in box b -/
structure BoxAt (x : L) (b : Nat) (W : World) : Prop where
  c : W.heap[b]? = some (.cells x.cs.toArray 27 (0, 0))
  r : RdT (fun _ => True) W x
theorem BoxAt.next {W W' : World} {x : L} {b : Nat} (h : BoxAt x b W) (hb : Below W.heap.size W W') : BoxAt x b W' := ⟨(hb.block _ (isT_of h.c).lt).trans h.c, h.r.bel hb⟩
/-- two parts, in a block of their own -/
theorem two_part {W : World} {x y : L} {G : Nat} {k : Int} (hx : RdT (fun _ => True) W x) (hy : RdT (fun _ => True) W y) (hG : W.heap[G]? = some (.cells (x.cs ++ y.cs).toArray 27 (0, 0))) (hk : 0 ≤ k ∧ k ≤ 255) :
    RdT (fun _ => True) W (.mk k none 0 [] 0 0 false (some ⟨G, 0, none⟩) 2 [x, y]) := by
  refine RdT.node hk ⟨by omega, by omega⟩ ⟨by omega, by omega⟩ ?_ (by simp) (fun q e => by cases e; exact ⟨rfl, (isT_of hG).lt⟩) (fun _ _ => trivial) (fun z hz => ?_)
  · intro _
    refine ⟨G, 0, rfl, (isT_of hG).lt, fun j u hu => ?_⟩
    rw [Nat.zero_add]
    exact block_cell hG j u (by simpa [nFlat] using hu)
  · rcases List.mem_cons.1 hz with rfl | hz
    · exact hx
    · rw [List.mem_singleton.1 hz]; exact hy
set_option maxRecDepth 100000 in
set_option maxHeartbeats 16000000 in
theorem brk_law (a b : Option Addr) (ca cb : Nat) (l m : List Sm) (w : World) (hV : Vs w) (ha : RdF w a (sFlat l)) (hna : a = none → l = [] ∧ ca = 0) (hka : ∀ x ∈ l, SmOK x) (hla : l.length ≤ ca) (hca : ca ≤ maxLen)
    (hb : RdF w b (sFlat m)) (hnb : b = none → m = [] ∧ cb = 0) (hkb : ∀ x ∈ m, SmOK x) (hlb : m.length ≤ cb) (hcb : cb ≤ maxLen) :
    Calls Tryz.prog 4 #[.slice a l.length ca, .slice b m.length cb] w fun e w' => e = .returned (.bool true) ∧ Below w.heap.size w w' := by
  obtain ⟨N1, hN1⟩ : ∃ N : Nat, N = min l.length 9 := ⟨_, rfl⟩
  obtain ⟨N2, hN2⟩ : ∃ N : Nat, N = min m.length 9 := ⟨_, rfl⟩
  have HM1 : Hid (∀ W, Below w.heap.size w W → Calls Tryz.prog 12 #[.slice a N1 ca] W (GivesP (fun b => W.heap.size ≤ b) W (made (l.take 9)))) := Lib.hid (fun W h => made_take a ca l N1 9 W (RdF.below ha h) hna hka hla hca hN1)
  have HM2 : Hid (∀ W, Below w.heap.size w W → Calls Tryz.prog 12 #[.slice b N2 cb] W (GivesP (fun b => W.heap.size ≤ b) W (made (m.take 9)))) := Lib.hid (fun W h => made_take b cb m N2 9 W (RdF.below hb h) hnb hkb hlb hcb hN2)
  have HBR := Lib.hid (both_right (l := l) (m := m))
  obtain ⟨n1, hn1⟩ : ∃ q, q = l.length := ⟨_, rfl⟩
  obtain ⟨n2, hn2⟩ : ∃ q, q = m.length := ⟨_, rfl⟩
  rw [← hn1] at hla hN1 ⊢
  rw [← hn2] at hlb hN2 ⊢
  have HN := Lib.hid (And.intro hN1 (And.intro hN2 (And.intro hla (And.intro hca (And.intro hlb hcb)))))
  have HG1 := Lib.hid (made_ok (l.take 9))
  have HG2 := Lib.hid (made_ok (m.take 9))
  obtain ⟨T1, hT1⟩ : ∃ q, q = made (l.take 9) := ⟨_, rfl⟩
  obtain ⟨T2, hT2⟩ : ∃ q, q = made (m.take 9) := ⟨_, rfl⟩
  rw [← hT1] at HM1 HG1 HBR
  rw [← hT2] at HM2 HG2 HBR
  obtain ⟨u1, hu1⟩ : ∃ q, q = wr [] T1 := ⟨_, rfl⟩
  obtain ⟨u2, hu2⟩ : ∃ q, q = wr [] T2 := ⟨_, rfl⟩
  have hul1 : u1.length ≤ 420 := by rw [hu1]; exact HG1.out.len
  have hul2 : u2.length ≤ 420 := by rw [hu2]; exact HG2.out.len
  have HU := Lib.hid (And.intro hu1 hu2)
  have HA := Lib.hid (awake_calls w hV)
  have HV := Lib.hid hV
  clear ha hb hna hnb hka hkb hn1 hn2 hT1 hT2 hu1 hu2 hV hN1 hN2 hla hca hlb hcb
  go_enter Tryz.func4, Tryz.ntmps4
  go_wp2_with fail
  go_at_call 11
  refine HA.out.mono ?_
  rintro e w1 ⟨rfl, hb1⟩
  have H1 := Lib.hid hb1
  clear hb1
  go_upto_region 3 with fail
  go_cut [5, 6] (fun s5 s6 wx => ∃ A C x y, s5 = .pointer (some ⟨A, 0, none⟩) ∧ s6 = .pointer (some ⟨C, 0, none⟩) ∧ L.tree x = T1 ∧ L.tree y = T2 ∧ TwoAt w x y A C wx)
  case first =>
    have hmin1 : N1 ≤ ca ∧ N2 ≤ cb := by have := HN.out; omega
    obtain ⟨hm1, hm2⟩ := hmin1
    refine wp_region_held_drew (S := fun w' : World => Below w.heap.size w w') (by kernel_rfl) (H1.out.drew) ?_
    intro hS0
    refine wpAnyH_take (i := 0) (oi := ⟨_, _, _, _, _, _⟩) (v := _) rfl (by kernel_rfl) (by kernel_rfl) (by kernel_rfl) (fun _ _ _ h => h) (Or.inl ⟨by rfl, by intro wq hSw; (try dsimp only at hSw); go_simp; (try with_reducible rfl)⟩) (by assumption) ?_
    try simp only [Act.put, List.setIfInBounds_toArray, List.set_cons_zero, List.set_cons_succ]
    refine wpAnyH_take (i := 1) (oi := ⟨_, _, _, _, _, _⟩) (v := _) rfl (by kernel_rfl) (by kernel_rfl) (by kernel_rfl) (fun _ _ _ h => h) (Or.inl ⟨by rfl, by intro wq hSw; (try dsimp only at hSw); go_simp; (try with_reducible rfl)⟩) (by assumption) ?_
    try simp only [Act.put, List.setIfInBounds_toArray, List.set_cons_zero, List.set_cons_succ]
    refine wpAnyH_take (i := 2) (oi := ⟨_, _, _, _, _, _⟩) (v := _) rfl (by kernel_rfl) (by kernel_rfl) (by kernel_rfl) (fun _ _ _ h => h) (Or.inl ⟨by rfl, by intro wq hSw; (try dsimp only at hSw); go_simp; (try with_reducible rfl)⟩) (by assumption) ?_
    try simp only [Act.put, List.setIfInBounds_toArray, List.set_cons_zero, List.set_cons_succ]
    refine wpAnyH_take (i := 3) (oi := ⟨_, _, _, _, _, _⟩) (v := .int .i64 (N1 : Int)) rfl (by kernel_rfl) (by kernel_rfl) (by kernel_rfl) (fun _ _ _ h => h) (Or.inl ⟨by rfl, by intro wq hSw; (try dsimp only at hSw); go_simp; (have := HN.out; omega)⟩) (by assumption) ?_
    try simp only [Act.put, List.setIfInBounds_toArray, List.set_cons_zero, List.set_cons_succ]
    refine wpAnyH_take (i := 4) (oi := ⟨_, _, _, _, _, _⟩) (v := _) rfl (by kernel_rfl) (by kernel_rfl) (by kernel_rfl) (fun _ _ _ h => h) (Or.inl ⟨by rfl, by intro wq hSw; (try dsimp only at hSw); go_simp; (try with_reducible rfl)⟩) (by assumption) ?_
    try simp only [Act.put, List.setIfInBounds_toArray, List.set_cons_zero, List.set_cons_succ]
    refine wpAnyH_take (i := 6) (oi := ⟨_, _, _, _, _, _⟩) (v := _) rfl (by kernel_rfl) (by kernel_rfl) (by kernel_rfl) (fun _ _ _ h => h) (Or.inl ⟨by rfl, by intro wq hSw; (try dsimp only at hSw); go_simp; (try with_reducible rfl)⟩) (by assumption) ?_
    try simp only [Act.put, List.setIfInBounds_toArray, List.set_cons_zero, List.set_cons_succ]
    refine wpAnyH_take (i := 7) (oi := ⟨_, _, _, _, _, _⟩) (v := _) rfl (by kernel_rfl) (by kernel_rfl) (by kernel_rfl) (fun _ _ _ h => h) (Or.inl ⟨by rfl, by intro wq hSw; (try dsimp only at hSw); go_simp; (try with_reducible rfl)⟩) (by assumption) ?_
    try simp only [Act.put, List.setIfInBounds_toArray, List.set_cons_zero, List.set_cons_succ]
    refine wpAnyH_take (i := 8) (oi := ⟨_, _, _, _, _, _⟩) (v := _) rfl (by kernel_rfl) (by kernel_rfl) (by kernel_rfl) (fun _ _ _ h => h) (Or.inl ⟨by rfl, by intro wq hSw; (try dsimp only at hSw); go_simp; (try with_reducible rfl)⟩) (by assumption) ?_
    try simp only [Act.put, List.setIfInBounds_toArray, List.set_cons_zero, List.set_cons_succ]
    refine wpAnyH_take (i := 9) (oi := ⟨_, _, _, _, _, _⟩) (v := .int .i64 (N2 : Int)) rfl (by kernel_rfl) (by kernel_rfl) (by kernel_rfl) (fun _ _ _ h => h) (Or.inl ⟨by rfl, by intro wq hSw; (try dsimp only at hSw); go_simp; (have := HN.out; omega)⟩) (by assumption) ?_
    try simp only [Act.put, List.setIfInBounds_toArray, List.set_cons_zero, List.set_cons_succ]
    refine wpAnyH_take (i := 10) (oi := ⟨_, _, _, _, _, _⟩) (v := _) rfl (by kernel_rfl) (by kernel_rfl) (by kernel_rfl) (fun _ _ _ h => h) (Or.inl ⟨by rfl, by intro wq hSw; (try dsimp only at hSw); go_simp; (try with_reducible rfl)⟩) (by assumption) ?_
    try simp only [Act.put, List.setIfInBounds_toArray, List.set_cons_zero, List.set_cons_succ]
    refine wpAnyH_at (m := 6) (l0 := LB3 false false false false false false) (fun A => putT 27 33 A undef undef undef undef) (by rfl) (by kernel_rfl) (by kernel_rfl) ?_
    intro A hA
    have hsz : 33 < A.tmps.size := by subst hA; exact (by decide : 33 < 117)
    refine region_two (F := putT 27 33 A) (w0 := w) (t1 := T1) (t2 := T2) (f := 12) (p1 := 26) (p2 := 32) (q1 := 27) (q2 := 33) (x1 := .slice a N1 ca) (x2 := .slice b N2 cb)
      (by decide +kernel) (by decide +kernel) (enters_of Tryz.func12 (by kernel_rfl) rfl) ⟨_, rfl, ⟨_, rfl⟩, rfl, rfl⟩ ⟨_, rfl, ⟨_, rfl⟩, rfl, rfl⟩ ⟨_, rfl, rfl, rfl, rfl⟩ ⟨_, rfl, rfl, rfl, rfl⟩ ⟨_, rfl, rfl, rfl, rfl⟩ ⟨_, rfl, rfl, rfl, rfl⟩
      (putT_5 (by decide) (by decide)) (putT_6 (by decide) (by decide)) (putT_q1 (by decide)) putT_q2 (tmT_5 (by decide) (by decide) hsz) (tmT_6 (by decide) (by decide) hsz) (tmT_q1 (by decide) hsz) (tmT_q2 hsz)
      (fun x0 x1 x2 x3 => (tmT_no (by decide) (by decide) (by decide) (by decide) x0 x1 x2 x3).trans (by subst hA; rfl)) (fun x0 x1 x2 x3 => (tmT_no (by decide) (by decide) (by decide) (by decide) x0 x1 x2 x3).trans (by subst hA; rfl)) (fun _ h => h) HM1.out HM2.out ?_ hS0
    subst hA
    intro x y A C wx hx hy hT
    unfold putT
    simp only [Act.put, List.setIfInBounds_toArray, List.set_cons_zero, List.set_cons_succ]
    go_wp2_with fail
    go_meet
    exact ⟨A, C, x, y, rfl, rfl, hx, hy, hT⟩
  case rest =>
  obtain ⟨A, C, ⟨k1, sa1, sc1, s1, mn1, mx1, lz1, na1, nc1, l1⟩, ⟨k2, sa2, sc2, s2, mn2, mx2, lz2, na2, nc2, l2⟩, rfl, rfl, hx1, hx2, hT3⟩ := hcut
  have HX := Lib.hid (And.intro hx1 hx2)
  have H3 := Lib.hid hT3
  clear hx1 hx2
  have HT1 : Hid (∀ W, TwoAt w (L.mk k1 sa1 sc1 s1 mn1 mx1 lz1 na1 nc1 l1) (L.mk k2 sa2 sc2 s2 mn2 mx2 lz2 na2 nc2 l2) A C W → Calls Tryz.prog 17 #[.agg #[.int .u8 k1, .slice sa1 s1.length sc1, .int .i64 mn1, .int .i64 mx1, .bool lz1, .slice na1 l1.length nc1]] W fun e w' => e = .returned (.tuple #[.string ⟨u1.toArray⟩, .int .i64 0]) ∧ Below W.heap.size W w') := Lib.hid (fun W h => text_made (L.mk k1 sa1 sc1 s1 mn1 mx1 lz1 na1 nc1 l1) T1 u1 w W HV.out h.bel h.r1 HX.out.1 HG1.out HU.out.1)
  have HT2 : Hid (∀ W, TwoAt w (L.mk k1 sa1 sc1 s1 mn1 mx1 lz1 na1 nc1 l1) (L.mk k2 sa2 sc2 s2 mn2 mx2 lz2 na2 nc2 l2) A C W → Calls Tryz.prog 17 #[.agg #[.int .u8 k2, .slice sa2 s2.length sc2, .int .i64 mn2, .int .i64 mx2, .bool lz2, .slice na2 l2.length nc2]] W fun e w' => e = .returned (.tuple #[.string ⟨u2.toArray⟩, .int .i64 0]) ∧ Below W.heap.size W w') := Lib.hid (fun W h => text_made (L.mk k2 sa2 sc2 s2 mn2 mx2 lz2 na2 nc2 l2) T2 u2 w W HV.out h.bel h.r2 HX.out.2 HG2.out HU.out.2)
  have c0 : wc.cell? ⟨A, 0, none⟩ = some (.int .u8 k1) := block_cell hT3.a 0 _ rfl
  have c1 : wc.cell? ⟨A, 1, none⟩ = some (.slice sa1 s1.length sc1) := block_cell hT3.a 1 _ rfl
  have c2 : wc.cell? ⟨A, 2, none⟩ = some (.int .i64 mn1) := block_cell hT3.a 2 _ rfl
  have c3 : wc.cell? ⟨A, 3, none⟩ = some (.int .i64 mx1) := block_cell hT3.a 3 _ rfl
  have c4 : wc.cell? ⟨A, 4, none⟩ = some (.bool lz1) := block_cell hT3.a 4 _ rfl
  have c5 : wc.cell? ⟨A, 5, none⟩ = some (.slice na1 l1.length nc1) := block_cell hT3.a 5 _ rfl
  clear hT3
  go_wp2_with fail
  go_at_call 17
  refine (HT1.out _ H3.out).mono ?_
  rintro e w4 ⟨rfl, hb4⟩
  have hT4 := H3.out.next hb4
  clear c0 c1 c2 c3 c4 c5
  have c0 : w4.cell? ⟨C, 0, none⟩ = some (.int .u8 k2) := block_cell hT4.c 0 _ rfl
  have c1 : w4.cell? ⟨C, 1, none⟩ = some (.slice sa2 s2.length sc2) := block_cell hT4.c 1 _ rfl
  have c2 : w4.cell? ⟨C, 2, none⟩ = some (.int .i64 mn2) := block_cell hT4.c 2 _ rfl
  have c3 : w4.cell? ⟨C, 3, none⟩ = some (.int .i64 mx2) := block_cell hT4.c 3 _ rfl
  have c4 : w4.cell? ⟨C, 4, none⟩ = some (.bool lz2) := block_cell hT4.c 4 _ rfl
  have c5 : w4.cell? ⟨C, 5, none⟩ = some (.slice na2 l2.length nc2) := block_cell hT4.c 5 _ rfl
  have H4 := Lib.hid hT4
  clear hT4 hb4
  go_wp2_with fail
  go_at_call 17
  refine (HT2.out _ H4.out).mono ?_
  rintro e w5 ⟨rfl, hb5⟩
  have H5 := Lib.hid (H4.out.next hb5)
  clear hb5
  clear c0 c1 c2 c3 c4 c5
  have h1 : ∀ W, (Op.stringOp .add ⟨#[40, 63, 58]⟩ ⟨u1.toArray⟩).run Tryz.prog W = .ok (.string ⟨(40 :: 63 :: 58 :: u1).toArray⟩) W := fun W => by have h := run_string_add_lists (P := Tryz.prog) W ([40, 63, 58]) (u1) (by first | omega | (simp; done) | (simp; omega)) (by first | omega | (simp; done) | (simp; omega)); simpa using h
  have h2 : ∀ W, (Op.stringOp .add ⟨(40 :: 63 :: 58 :: u1).toArray⟩ ⟨#[41]⟩).run Tryz.prog W = .ok (.string ⟨(40 :: 63 :: 58 :: (u1 ++ [41])).toArray⟩) W := fun W => by have h := run_string_add_lists (P := Tryz.prog) W (40 :: 63 :: 58 :: u1) ([41]) (by first | omega | (simp; done) | (simp; omega)) (by first | omega | (simp; done) | (simp; omega)); simpa using h
  have i1 : ∀ W, (Op.stringOp .add ⟨#[40, 40, 63, 58]⟩ ⟨u1.toArray⟩).run Tryz.prog W = .ok (.string ⟨(40 :: 40 :: 63 :: 58 :: u1).toArray⟩) W := fun W => by have h := run_string_add_lists (P := Tryz.prog) W ([40, 40, 63, 58]) (u1) (by first | omega | (simp; done) | (simp; omega)) (by first | omega | (simp; done) | (simp; omega)); simpa using h
  have i2 : ∀ W, (Op.stringOp .add ⟨(40 :: 40 :: 63 :: 58 :: u1).toArray⟩ ⟨#[41, 41]⟩).run Tryz.prog W = .ok (.string ⟨(40 :: 40 :: 63 :: 58 :: (u1 ++ [41, 41])).toArray⟩) W := fun W => by have h := run_string_add_lists (P := Tryz.prog) W (40 :: 40 :: 63 :: 58 :: u1) ([41, 41]) (by first | omega | (simp; done) | (simp; omega)) (by first | omega | (simp; done) | (simp; omega)); simpa using h
  have j1 : ∀ W, (Op.stringOp .add ⟨(40 :: 63 :: 58 :: u1).toArray⟩ ⟨#[41, 40, 63, 58]⟩).run Tryz.prog W = .ok (.string ⟨(40 :: 63 :: 58 :: (u1 ++ [41, 40, 63, 58])).toArray⟩) W := fun W => by have h := run_string_add_lists (P := Tryz.prog) W (40 :: 63 :: 58 :: u1) ([41, 40, 63, 58]) (by first | omega | (simp; done) | (simp; omega)) (by first | omega | (simp; done) | (simp; omega)); simpa using h
  have j2 : ∀ W, (Op.stringOp .add ⟨(40 :: 63 :: 58 :: (u1 ++ [41, 40, 63, 58])).toArray⟩ ⟨u2.toArray⟩).run Tryz.prog W = .ok (.string ⟨(40 :: 63 :: 58 :: (u1 ++ 41 :: 40 :: 63 :: 58 :: u2)).toArray⟩) W := fun W => by have h := run_string_add_lists (P := Tryz.prog) W (40 :: 63 :: 58 :: (u1 ++ [41, 40, 63, 58])) (u2) (by first | omega | (simp; done) | (simp; omega)) (by first | omega | (simp; done) | (simp; omega)); simpa using h
  have j3 : ∀ W, (Op.stringOp .add ⟨(40 :: 63 :: 58 :: (u1 ++ 41 :: 40 :: 63 :: 58 :: u2)).toArray⟩ ⟨#[41]⟩).run Tryz.prog W = .ok (.string ⟨(40 :: 63 :: 58 :: (u1 ++ 41 :: 40 :: 63 :: 58 :: (u2 ++ [41]))).toArray⟩) W := fun W => by have h := run_string_add_lists (P := Tryz.prog) W (40 :: 63 :: 58 :: (u1 ++ 41 :: 40 :: 63 :: 58 :: u2)) ([41]) (by first | omega | (simp; done) | (simp; omega)) (by first | omega | (simp; done) | (simp; omega)); simpa using h
  have m1 : ∀ W, (Op.stringOp .add ⟨(40 :: 63 :: 58 :: u1).toArray⟩ ⟨#[41, 124, 40, 63, 58]⟩).run Tryz.prog W = .ok (.string ⟨(40 :: 63 :: 58 :: (u1 ++ [41, 124, 40, 63, 58])).toArray⟩) W := fun W => by have h := run_string_add_lists (P := Tryz.prog) W (40 :: 63 :: 58 :: u1) ([41, 124, 40, 63, 58]) (by first | omega | (simp; done) | (simp; omega)) (by first | omega | (simp; done) | (simp; omega)); simpa using h
  have m2 : ∀ W, (Op.stringOp .add ⟨(40 :: 63 :: 58 :: (u1 ++ [41, 124, 40, 63, 58])).toArray⟩ ⟨u2.toArray⟩).run Tryz.prog W = .ok (.string ⟨(40 :: 63 :: 58 :: (u1 ++ 41 :: 124 :: 40 :: 63 :: 58 :: u2)).toArray⟩) W := fun W => by have h := run_string_add_lists (P := Tryz.prog) W (40 :: 63 :: 58 :: (u1 ++ [41, 124, 40, 63, 58])) (u2) (by first | omega | (simp; done) | (simp; omega)) (by first | omega | (simp; done) | (simp; omega)); simpa using h
  have m3 : ∀ W, (Op.stringOp .add ⟨(40 :: 63 :: 58 :: (u1 ++ 41 :: 124 :: 40 :: 63 :: 58 :: u2)).toArray⟩ ⟨#[41]⟩).run Tryz.prog W = .ok (.string ⟨(40 :: 63 :: 58 :: (u1 ++ 41 :: 124 :: 40 :: 63 :: 58 :: (u2 ++ [41]))).toArray⟩) W := fun W => by have h := run_string_add_lists (P := Tryz.prog) W (40 :: 63 :: 58 :: (u1 ++ 41 :: 124 :: 40 :: 63 :: 58 :: u2)) ([41]) (by first | omega | (simp; done) | (simp; omega)) (by first | omega | (simp; done) | (simp; omega)); simpa using h
  have HP3 : Hid (parse (40 :: 63 :: 58 :: (u1 ++ [41])) = .ok (T1)) := Lib.hid (by have h := brackets_one HG1.out.right (by have := HG1.out.len; omega); rw [HU.out.1]; rw [← h]; first | rfl | (congr 1; simp [brk]))
  have HP4 : Hid (parse (40 :: 40 :: 63 :: 58 :: (u1 ++ [41, 41])) = .ok (.mk 6 [] 0 0 false [T1])) := Lib.hid (by have h := brackets_group HG1.out.right HBR.out.1 (by have := HG1.out.len; omega); rw [HU.out.1]; rw [← h]; first | rfl | (congr 1; simp [brk]))
  have HP5 : Hid (parse (40 :: 63 :: 58 :: (u1 ++ 41 :: 40 :: 63 :: 58 :: (u2 ++ [41]))) = .ok (.mk 3 [] 0 0 false [T1, T2])) := Lib.hid (by have h := brackets_cat HG1.out.right HG2.out.right HBR.out.2.1 (by have := HG1.out.len; omega) (by have := HG2.out.len; omega); rw [HU.out.1, HU.out.2]; rw [← h]; first | rfl | (congr 1; simp [brk]))
  have HP6 : Hid (parse (40 :: 63 :: 58 :: (u1 ++ 41 :: 124 :: 40 :: 63 :: 58 :: (u2 ++ [41]))) = .ok (.mk 4 [] 0 0 false [T1, T2])) := Lib.hid (by have h := brackets_alt HG1.out.right HG2.out.right HBR.out.2.2 (by have := HG1.out.len; omega) (by have := HG2.out.len; omega); rw [HU.out.1, HU.out.2]; rw [← h]; first | rfl | (congr 1; simp [brk]))
  go_wp2_with fail
  go_at_call 18
  refine (parse_okC ⟨(40 :: 63 :: 58 :: (u1 ++ [41])).toArray⟩ (T1) _ (HV.out.below H5.out.bel) (by simp only [ByteArray.size, List.size_toArray, List.length_cons, List.length_append, List.length_nil]; omega) HP3.out).mono ?_
  rintro e v3 ⟨⟨k3, sa3, sc3, s3, mn3, mx3, lz3, na3, nc3, l3⟩, rfl, hy, hr, hb⟩
  rw [val_mk]
  have R3 := Lib.hid (And.intro hy hr)
  have H3 := Lib.hid (H5.out.next hb)
  clear hy hr hb 
  go_wp2_with fail
  refine at_world ?_
  intro W3 hW3
  obtain ⟨B3, hB3⟩ : ∃ q, q = v3.heap.size := ⟨_, rfl⟩
  rw [← hB3]
  have hbW : Below v3.heap.size v3 W3 := by rw [hW3]; exact (Below.refl _ _).alloc (Nat.le_refl _) _
  have hT := H3.out.next hbW
  have hX3 : BoxAt (L.mk k3 sa3 sc3 s3 mn3 mx3 lz3 na3 nc3 l3) B3 W3 := ⟨by rw [hW3, hB3]; exact heap_alloc_new v3 _, (R3.out.2.bel hbW).all⟩
  clear hW3 hB3 hbW 
  refine (parse_okC ⟨(40 :: 40 :: 63 :: 58 :: (u1 ++ [41, 41])).toArray⟩ (.mk 6 [] 0 0 false [T1]) _ (HV.out.below hT.bel) (by simp only [ByteArray.size, List.size_toArray, List.length_cons, List.length_append, List.length_nil]; omega) HP4.out).mono ?_
  rintro e v4 ⟨⟨k4, sa4, sc4, s4, mn4, mx4, lz4, na4, nc4, l4⟩, rfl, hy, hr, hb⟩
  rw [val_mk]
  have R4 := Lib.hid (And.intro hy hr)
  have H4 := Lib.hid (hT.next hb)
  have X3 := Lib.hid (hX3.next hb)
  clear hy hr hb hT hX3
  go_wp2_with fail
  refine at_world ?_
  intro W4 hW4
  obtain ⟨B4, hB4⟩ : ∃ q, q = v4.heap.size := ⟨_, rfl⟩
  rw [← hB4]
  have hbW : Below v4.heap.size v4 W4 := by rw [hW4]; exact (Below.refl _ _).alloc (Nat.le_refl _) _
  have hT := H4.out.next hbW
  have hX3 := X3.out.next hbW
  have hX4 : BoxAt (L.mk k4 sa4 sc4 s4 mn4 mx4 lz4 na4 nc4 l4) B4 W4 := ⟨by rw [hW4, hB4]; exact heap_alloc_new v4 _, (R4.out.2.bel hbW).all⟩
  clear hW4 hB4 hbW X3
  refine (parse_okC ⟨(40 :: 63 :: 58 :: (u1 ++ 41 :: 40 :: 63 :: 58 :: (u2 ++ [41]))).toArray⟩ (.mk 3 [] 0 0 false [T1, T2]) _ (HV.out.below hT.bel) (by simp only [ByteArray.size, List.size_toArray, List.length_cons, List.length_append, List.length_nil]; omega) HP5.out).mono ?_
  rintro e v5 ⟨⟨k5, sa5, sc5, s5, mn5, mx5, lz5, na5, nc5, l5⟩, rfl, hy, hr, hb⟩
  rw [val_mk]
  have R5 := Lib.hid (And.intro hy hr)
  have H5 := Lib.hid (hT.next hb)
  have X3 := Lib.hid (hX3.next hb)
  have X4 := Lib.hid (hX4.next hb)
  clear hy hr hb hT hX3 hX4
  go_wp2_with fail
  refine at_world ?_
  intro W5 hW5
  obtain ⟨B5, hB5⟩ : ∃ q, q = v5.heap.size := ⟨_, rfl⟩
  rw [← hB5]
  have hbW : Below v5.heap.size v5 W5 := by rw [hW5]; exact (Below.refl _ _).alloc (Nat.le_refl _) _
  have hT := H5.out.next hbW
  have hX3 := X3.out.next hbW
  have hX4 := X4.out.next hbW
  have hX5 : BoxAt (L.mk k5 sa5 sc5 s5 mn5 mx5 lz5 na5 nc5 l5) B5 W5 := ⟨by rw [hW5, hB5]; exact heap_alloc_new v5 _, (R5.out.2.bel hbW).all⟩
  clear hW5 hB5 hbW X3 X4
  refine (parse_okC ⟨(40 :: 63 :: 58 :: (u1 ++ 41 :: 124 :: 40 :: 63 :: 58 :: (u2 ++ [41]))).toArray⟩ (.mk 4 [] 0 0 false [T1, T2]) _ (HV.out.below hT.bel) (by simp only [ByteArray.size, List.size_toArray, List.length_cons, List.length_append, List.length_nil]; omega) HP6.out).mono ?_
  rintro e v6 ⟨⟨k6, sa6, sc6, s6, mn6, mx6, lz6, na6, nc6, l6⟩, rfl, hy, hr, hb⟩
  rw [val_mk]
  have R6 := Lib.hid (And.intro hy hr)
  have H6 := Lib.hid (hT.next hb)
  have X3 := Lib.hid (hX3.next hb)
  have X4 := Lib.hid (hX4.next hb)
  have X5 := Lib.hid (hX5.next hb)
  clear hy hr hb hT hX3 hX4 hX5
  clear h1 h2 i1 i2 j1 j2 j3 m1 m2 m3
  have hT6 := H6.out
  have hX3 := X3.out
  have a0 : ∀ o, (v6.alloc o).cell? ⟨A, 0, none⟩ = some (.int .u8 k1) := fun o => al_cell (block_cell hT6.a 0 _ rfl) o
  have a1 : ∀ o, (v6.alloc o).cell? ⟨A, 1, none⟩ = some (.slice sa1 s1.length sc1) := fun o => al_cell (block_cell hT6.a 1 _ rfl) o
  have a2 : ∀ o, (v6.alloc o).cell? ⟨A, 2, none⟩ = some (.int .i64 mn1) := fun o => al_cell (block_cell hT6.a 2 _ rfl) o
  have a3 : ∀ o, (v6.alloc o).cell? ⟨A, 3, none⟩ = some (.int .i64 mx1) := fun o => al_cell (block_cell hT6.a 3 _ rfl) o
  have a4 : ∀ o, (v6.alloc o).cell? ⟨A, 4, none⟩ = some (.bool lz1) := fun o => al_cell (block_cell hT6.a 4 _ rfl) o
  have a5 : ∀ o, (v6.alloc o).cell? ⟨A, 5, none⟩ = some (.slice na1 l1.length nc1) := fun o => al_cell (block_cell hT6.a 5 _ rfl) o
  have b0 : ∀ o, (v6.alloc o).cell? ⟨B3, 0, none⟩ = some (.int .u8 k3) := fun o => al_cell (block_cell hX3.c 0 _ rfl) o
  have b1 : ∀ o, (v6.alloc o).cell? ⟨B3, 1, none⟩ = some (.slice sa3 s3.length sc3) := fun o => al_cell (block_cell hX3.c 1 _ rfl) o
  have b2 : ∀ o, (v6.alloc o).cell? ⟨B3, 2, none⟩ = some (.int .i64 mn3) := fun o => al_cell (block_cell hX3.c 2 _ rfl) o
  have b3 : ∀ o, (v6.alloc o).cell? ⟨B3, 3, none⟩ = some (.int .i64 mx3) := fun o => al_cell (block_cell hX3.c 3 _ rfl) o
  have b4 : ∀ o, (v6.alloc o).cell? ⟨B3, 4, none⟩ = some (.bool lz3) := fun o => al_cell (block_cell hX3.c 4 _ rfl) o
  have b5 : ∀ o, (v6.alloc o).cell? ⟨B3, 5, none⟩ = some (.slice na3 l3.length nc3) := fun o => al_cell (block_cell hX3.c 5 _ rfl) o
  clear hT6 hX3
  go_wp2_with fail
  refine at_world ?_
  intro W6 hW6
  obtain ⟨B6, hB6⟩ : ∃ q, q = v6.heap.size := ⟨_, rfl⟩
  rw [← hB6]
  have hbW : Below v6.heap.size v6 W6 := by rw [hW6]; exact (Below.refl _ _).alloc (Nat.le_refl _) _
  have hT := H6.out.next hbW
  have hX3 := X3.out.next hbW
  have hX4 := X4.out.next hbW
  have hX5 := X5.out.next hbW
  have hX6 : BoxAt (L.mk k6 sa6 sc6 s6 mn6 mx6 lz6 na6 nc6 l6) B6 W6 := ⟨by rw [hW6, hB6]; exact heap_alloc_new v6 _, (R6.out.2.bel hbW).all⟩
  clear hW6 hB6 hbW X3 X4 X5
  clear a0 a1 a2 a3 a4 a5 b0 b1 b2 b3 b4 b5
  have hS : Calls Tryz.prog 19 #[.agg #[.int .u8 k3, .slice sa3 s3.length sc3, .int .i64 mn3, .int .i64 mx3, .bool lz3, .slice na3 l3.length nc3], .agg #[.int .u8 k1, .slice sa1 s1.length sc1, .int .i64 mn1, .int .i64 mx1, .bool lz1, .slice na1 l1.length nc1]] W6 fun e w' => e = .returned (.bool true) ∧ Below W6.heap.size W6 w' :=
    (same_all (L.mk k3 sa3 sc3 s3 mn3 mx3 lz3 na3 nc3 l3) (L.mk k1 sa1 sc1 s1 mn1 mx1 lz1 na1 nc1 l1) _ _ W6 hX3.r hT.r1).mono (fun e w' h2 => ⟨by rw [h2.1, R3.out.1, HX.out.1, same_self], h2.2⟩)
  refine hS.mono ?_
  rintro e v7 ⟨rfl, hb⟩
  have hT7 := hT.next hb
  have hX4 := hX4.next hb
  have H7 := Lib.hid hT7
  have X4 := Lib.hid hX4
  have X5 := Lib.hid (hX5.next hb)
  have X6 := Lib.hid (hX6.next hb)
  have a0 : v7.cell? ⟨A, 0, none⟩ = some (.int .u8 k1) := block_cell hT7.a 0 _ rfl
  have a1 : v7.cell? ⟨A, 1, none⟩ = some (.slice sa1 s1.length sc1) := block_cell hT7.a 1 _ rfl
  have a2 : v7.cell? ⟨A, 2, none⟩ = some (.int .i64 mn1) := block_cell hT7.a 2 _ rfl
  have a3 : v7.cell? ⟨A, 3, none⟩ = some (.int .i64 mx1) := block_cell hT7.a 3 _ rfl
  have a4 : v7.cell? ⟨A, 4, none⟩ = some (.bool lz1) := block_cell hT7.a 4 _ rfl
  have a5 : v7.cell? ⟨A, 5, none⟩ = some (.slice na1 l1.length nc1) := block_cell hT7.a 5 _ rfl
  have b0 : v7.cell? ⟨B4, 0, none⟩ = some (.int .u8 k4) := block_cell hX4.c 0 _ rfl
  have b1 : v7.cell? ⟨B4, 1, none⟩ = some (.slice sa4 s4.length sc4) := block_cell hX4.c 1 _ rfl
  have b2 : v7.cell? ⟨B4, 2, none⟩ = some (.int .i64 mn4) := block_cell hX4.c 2 _ rfl
  have b3 : v7.cell? ⟨B4, 3, none⟩ = some (.int .i64 mx4) := block_cell hX4.c 3 _ rfl
  have b4 : v7.cell? ⟨B4, 4, none⟩ = some (.bool lz4) := block_cell hX4.c 4 _ rfl
  have b5 : v7.cell? ⟨B4, 5, none⟩ = some (.slice na4 l4.length nc4) := block_cell hX4.c 5 _ rfl
  clear hS hb hT hX3 hX4 hX5 hX6 hT7
  go_wp2_with fail
  refine at_world ?_
  intro W7 hW7
  obtain ⟨S, hS⟩ : ∃ q, q = v7.heap.size := ⟨_, rfl⟩
  rw [← hS]
  have hbW : Below v7.heap.size v7 W7 := by rw [hW7]; exact (Below.refl _ _).alloc (Nat.le_refl _) _
  have gS : W7.heap[S]? = some (.cells #[.int .u8 k1, .slice sa1 s1.length sc1, .int .i64 mn1, .int .i64 mx1, .bool lz1, .slice na1 l1.length nc1] 27 (0, 0)) := by rw [hW7, hS]; exact heap_alloc_new v7 _
  have hT := H7.out.next hbW
  have hX4 := X4.out.next hbW
  have hX5 := X5.out.next hbW
  have hX6 := X6.out.next hbW
  have hS : Calls Tryz.prog 19 #[.agg #[.int .u8 k4, .slice sa4 s4.length sc4, .int .i64 mn4, .int .i64 mx4, .bool lz4, .slice na4 l4.length nc4], .agg #[.int .u8 6, .slice none 0 0, .int .i64 0, .int .i64 0, .bool false, .slice (some ⟨S, 0, none⟩) 1 1]] W7 fun e w' => e = .returned (.bool true) ∧ Below W7.heap.size W7 w' :=
    (same_all (L.mk k4 sa4 sc4 s4 mn4 mx4 lz4 na4 nc4 l4) (.mk 6 none 0 [] 0 0 false (some ⟨S, 0, none⟩) 1 [(L.mk k1 sa1 sc1 s1 mn1 mx1 lz1 na1 nc1 l1)]) _ (fun _ => True) W7 hX4.r (one_part H7.out.r1 hbW gS trivial (by omega) ⟨by omega, by omega⟩ ⟨by omega, by omega⟩)).mono (fun e w' h2 => ⟨by
      rw [h2.1, R4.out.1, show L.tree (.mk 6 none 0 [] 0 0 false (some ⟨S, 0, none⟩) 1 [(L.mk k1 sa1 sc1 s1 mn1 mx1 lz1 na1 nc1 l1)]) = .mk 6 [] 0 0 false [L.tree (L.mk k1 sa1 sc1 s1 mn1 mx1 lz1 na1 nc1 l1)] from rfl, HX.out.1, same_self], h2.2⟩)
  clear hW7 hbW gS X4 X5 X6
  clear a0 a1 a2 a3 a4 a5 b0 b1 b2 b3 b4 b5
  refine hS.mono ?_
  rintro e v8 ⟨rfl, hb⟩
  have hT8 := hT.next hb
  have hX5 := hX5.next hb
  have H8 := Lib.hid hT8
  have X5 := Lib.hid hX5
  have X6 := Lib.hid (hX6.next hb)
  have a0 : v8.cell? ⟨A, 0, none⟩ = some (.int .u8 k1) := block_cell hT8.a 0 _ rfl
  have a1 : v8.cell? ⟨A, 1, none⟩ = some (.slice sa1 s1.length sc1) := block_cell hT8.a 1 _ rfl
  have a2 : v8.cell? ⟨A, 2, none⟩ = some (.int .i64 mn1) := block_cell hT8.a 2 _ rfl
  have a3 : v8.cell? ⟨A, 3, none⟩ = some (.int .i64 mx1) := block_cell hT8.a 3 _ rfl
  have a4 : v8.cell? ⟨A, 4, none⟩ = some (.bool lz1) := block_cell hT8.a 4 _ rfl
  have a5 : v8.cell? ⟨A, 5, none⟩ = some (.slice na1 l1.length nc1) := block_cell hT8.a 5 _ rfl
  have b0 : v8.cell? ⟨C, 0, none⟩ = some (.int .u8 k2) := block_cell hT8.c 0 _ rfl
  have b1 : v8.cell? ⟨C, 1, none⟩ = some (.slice sa2 s2.length sc2) := block_cell hT8.c 1 _ rfl
  have b2 : v8.cell? ⟨C, 2, none⟩ = some (.int .i64 mn2) := block_cell hT8.c 2 _ rfl
  have b3 : v8.cell? ⟨C, 3, none⟩ = some (.int .i64 mx2) := block_cell hT8.c 3 _ rfl
  have b4 : v8.cell? ⟨C, 4, none⟩ = some (.bool lz2) := block_cell hT8.c 4 _ rfl
  have b5 : v8.cell? ⟨C, 5, none⟩ = some (.slice na2 l2.length nc2) := block_cell hT8.c 5 _ rfl
  have d0 : ∀ o, (v8.alloc o).cell? ⟨B5, 0, none⟩ = some (.int .u8 k5) := fun o => al_cell (block_cell hX5.c 0 _ rfl) o
  have d1 : ∀ o, (v8.alloc o).cell? ⟨B5, 1, none⟩ = some (.slice sa5 s5.length sc5) := fun o => al_cell (block_cell hX5.c 1 _ rfl) o
  have d2 : ∀ o, (v8.alloc o).cell? ⟨B5, 2, none⟩ = some (.int .i64 mn5) := fun o => al_cell (block_cell hX5.c 2 _ rfl) o
  have d3 : ∀ o, (v8.alloc o).cell? ⟨B5, 3, none⟩ = some (.int .i64 mx5) := fun o => al_cell (block_cell hX5.c 3 _ rfl) o
  have d4 : ∀ o, (v8.alloc o).cell? ⟨B5, 4, none⟩ = some (.bool lz5) := fun o => al_cell (block_cell hX5.c 4 _ rfl) o
  have d5 : ∀ o, (v8.alloc o).cell? ⟨B5, 5, none⟩ = some (.slice na5 l5.length nc5) := fun o => al_cell (block_cell hX5.c 5 _ rfl) o
  clear hS hb hT hX4 hX5 hX6 hT8
  go_wp2_with fail
  refine at_world ?_
  intro W8 hW8
  have hbW : Below v8.heap.size v8 W8 := by rw [hW8]; exact (Below.refl _ _).alloc (Nat.le_refl _) _
  have gS : W8.heap[v8.heap.size]? = some (.cells #[.int .u8 k1, .slice sa1 s1.length sc1, .int .i64 mn1, .int .i64 mx1, .bool lz1, .slice na1 l1.length nc1, .int .u8 k2, .slice sa2 s2.length sc2, .int .i64 mn2, .int .i64 mx2, .bool lz2, .slice na2 l2.length nc2] 27 (0, 0)) := by rw [hW8]; exact heap_alloc_new v8 _
  have hT := H8.out.next hbW
  have hX5 := X5.out.next hbW
  have hX6 := X6.out.next hbW
  have hS : Calls Tryz.prog 19 #[.agg #[.int .u8 k5, .slice sa5 s5.length sc5, .int .i64 mn5, .int .i64 mx5, .bool lz5, .slice na5 l5.length nc5], .agg #[.int .u8 3, .slice none 0 0, .int .i64 0, .int .i64 0, .bool false, .slice (some ⟨v8.heap.size, 0, none⟩) 2 2]] W8 fun e w' => e = .returned (.bool true) ∧ Below W8.heap.size W8 w' :=
    (same_all (L.mk k5 sa5 sc5 s5 mn5 mx5 lz5 na5 nc5 l5) (.mk 3 none 0 [] 0 0 false (some ⟨v8.heap.size, 0, none⟩) 2 [(L.mk k1 sa1 sc1 s1 mn1 mx1 lz1 na1 nc1 l1), (L.mk k2 sa2 sc2 s2 mn2 mx2 lz2 na2 nc2 l2)]) _ (fun _ => True) W8 hX5.r (two_part hT.r1 hT.r2 gS (by omega))).mono (fun e w' h2 => ⟨by
      rw [h2.1, R5.out.1, show L.tree (.mk 3 none 0 [] 0 0 false (some ⟨v8.heap.size, 0, none⟩) 2 [(L.mk k1 sa1 sc1 s1 mn1 mx1 lz1 na1 nc1 l1), (L.mk k2 sa2 sc2 s2 mn2 mx2 lz2 na2 nc2 l2)]) = .mk 3 [] 0 0 false [L.tree (L.mk k1 sa1 sc1 s1 mn1 mx1 lz1 na1 nc1 l1), L.tree (L.mk k2 sa2 sc2 s2 mn2 mx2 lz2 na2 nc2 l2)] from rfl, HX.out.1, HX.out.2, same_self], h2.2⟩)
  clear hW8 hbW X5 X6
  clear a0 a1 a2 a3 a4 a5 b0 b1 b2 b3 b4 b5 d0 d1 d2 d3 d4 d5
  refine hS.mono ?_
  rintro e v9 ⟨rfl, hb⟩
  have hT9 := hT.next hb
  have gS9 := (hb.block _ (isT_of gS).lt).trans gS
  have hX6 := hX6.next hb
  have b0 : v9.cell? ⟨B6, 0, none⟩ = some (.int .u8 k6) := block_cell hX6.c 0 _ rfl
  have b1 : v9.cell? ⟨B6, 1, none⟩ = some (.slice sa6 s6.length sc6) := block_cell hX6.c 1 _ rfl
  have b2 : v9.cell? ⟨B6, 2, none⟩ = some (.int .i64 mn6) := block_cell hX6.c 2 _ rfl
  have b3 : v9.cell? ⟨B6, 3, none⟩ = some (.int .i64 mx6) := block_cell hX6.c 3 _ rfl
  have b4 : v9.cell? ⟨B6, 4, none⟩ = some (.bool lz6) := block_cell hX6.c 4 _ rfl
  have b5 : v9.cell? ⟨B6, 5, none⟩ = some (.slice na6 l6.length nc6) := block_cell hX6.c 5 _ rfl
  have hS6 : Hid (Calls Tryz.prog 19 #[.agg #[.int .u8 k6, .slice sa6 s6.length sc6, .int .i64 mn6, .int .i64 mx6, .bool lz6, .slice na6 l6.length nc6], .agg #[.int .u8 4, .slice none 0 0, .int .i64 0, .int .i64 0, .bool false, .slice (some ⟨v8.heap.size, 0, none⟩) 2 2]] v9 fun e w' => e = .returned (.bool true) ∧ Below v9.heap.size v9 w') := Lib.hid (
    (same_all (L.mk k6 sa6 sc6 s6 mn6 mx6 lz6 na6 nc6 l6) (.mk 4 none 0 [] 0 0 false (some ⟨v8.heap.size, 0, none⟩) 2 [(L.mk k1 sa1 sc1 s1 mn1 mx1 lz1 na1 nc1 l1), (L.mk k2 sa2 sc2 s2 mn2 mx2 lz2 na2 nc2 l2)]) _ (fun _ => True) v9 hX6.r (two_part hT9.r1 hT9.r2 gS9 (by omega))).mono (fun e w' h2 => ⟨by
      rw [h2.1, R6.out.1, show L.tree (.mk 4 none 0 [] 0 0 false (some ⟨v8.heap.size, 0, none⟩) 2 [(L.mk k1 sa1 sc1 s1 mn1 mx1 lz1 na1 nc1 l1), (L.mk k2 sa2 sc2 s2 mn2 mx2 lz2 na2 nc2 l2)]) = .mk 4 [] 0 0 false [L.tree (L.mk k1 sa1 sc1 s1 mn1 mx1 lz1 na1 nc1 l1), L.tree (L.mk k2 sa2 sc2 s2 mn2 mx2 lz2 na2 nc2 l2)] from rfl, HX.out.1, HX.out.2, same_self], h2.2⟩))
  have H9 := Lib.hid hT9
  clear hS hb hT hX5 hX6 hT9 gS gS9
  go_wp2_with fail
  go_at_call 19
  refine hS6.out.mono ?_
  rintro e v10 ⟨rfl, hb⟩
  have H10 := Lib.hid (H9.out.next hb)
  clear hb
  clear b0 b1 b2 b3 b4 b5
  go_wp2_with fail
  go_ret
  exact ⟨rfl, H10.out.bel⟩
end Go.Proofs.YtimahlimmblgkaaGreatDoor.Sy
