/- Chapter 07: the law SyntaxTimes. -/
import Derived.Test.YtcklkjibhgbhiaaGreatDoorPTsO
namespace Go.Proofs.YtcklkjibhgbhiaaGreatDoor.Sy
open Go Go.RowKit
/-- the ten quantifiers, and the numbers that each stands for -/
def tq (a b : Int) (j : Nat) : B := [[42], [123, 48, 44, 125], [43], [123, 49, 44, 125], [63], [123, 48, 44, 49, 125], 123 :: (Lib.itoa a ++ [125]), 123 :: (Lib.itoa a ++ 44 :: (Lib.itoa a ++ [125])), 123 :: (Lib.itoa a ++ 44 :: (Lib.itoa b ++ [125])), 123 :: (Lib.itoa a ++ [44, 125])].getD j []
def tp (a b : Int) (j : Nat) : Int × Int := [(0, -1), (0, -1), (1, -1), (1, -1), (0, 1), (0, 1), (a, a), (a, a), (a, b), (a, -1)].getD j (0, 0)
theorem tq_ok {a b : Int} (h0 : 0 ≤ a) (hab : a ≤ b) (h1 : b ≤ 1000) {j : Nat} (hj : j < 10) : QuantOK (tq a b j) (tp a b j).1 (tp a b j).2 := by
  have e1 := quant_exact h0 (show a ≤ 1000 by omega)
  have e2 := quant_both h0 (Int.le_refl a) (show a ≤ 1000 by omega)
  have e3 := quant_both h0 hab h1
  have e4 := quant_least h0 (show a ≤ 1000 by omega)
  rcases (show j = 0 ∨ j = 1 ∨ j = 2 ∨ j = 3 ∨ j = 4 ∨ j = 5 ∨ j = 6 ∨ j = 7 ∨ j = 8 ∨ j = 9 by omega) with rfl | rfl | rfl | rfl | rfl | rfl | rfl | rfl | rfl | rfl
  · exact quant_star
  · exact quant_star2
  · exact quant_plus
  · exact quant_plus2
  · exact quant_mark
  · exact quant_mark2
  · simpa [tq, tp] using e1
  · simpa [tq, tp] using e2
  · simpa [tq, tp] using e3
  · simpa [tq, tp] using e4
theorem tq_len {a b : Int} (h0 : 0 ≤ a) (hab : a ≤ b) (h1 : b ≤ 1000) {j : Nat} (hj : j < 10) : (tq a b j).length ≤ 50 := by
  have l1 : (Lib.itoa a).length ≤ 21 := Lib.itoa_length_le a (by omega) (by omega)
  have l2 : (Lib.itoa b).length ≤ 21 := Lib.itoa_length_le b (by omega) (by omega)
  rcases (show j = 0 ∨ j = 1 ∨ j = 2 ∨ j = 3 ∨ j = 4 ∨ j = 5 ∨ j = 6 ∨ j = 7 ∨ j = 8 ∨ j = 9 by omega) with rfl | rfl | rfl | rfl | rfl | rfl | rfl | rfl | rfl | rfl <;> simp [tq] <;> omega
theorem tp_rng {a b : Int} (h0 : 0 ≤ a) (hab : a ≤ b) (h1 : b ≤ 1000) {j : Nat} (hj : j < 10) : (0 ≤ (tp a b j).1 ∧ (tp a b j).1 ≤ 1000) ∧ -1 ≤ (tp a b j).2 ∧ (tp a b j).2 ≤ 1000 := by
  rcases (show j = 0 ∨ j = 1 ∨ j = 2 ∨ j = 3 ∨ j = 4 ∨ j = 5 ∨ j = 6 ∨ j = 7 ∨ j = 8 ∨ j = 9 by omega) with rfl | rfl | rfl | rfl | rfl | rfl | rfl | rfl | rfl | rfl <;> simp [tp] <;> omega
theorem times_one {t : T} (h : MadeOK t) {a b : Int} (h0 : 0 ≤ a) (hab : a ≤ b) (h1 : b ≤ 1000) (z : Bool) {j : Nat} (hj : j < 10) :
    parse (40 :: 63 :: 58 :: (wr [] t ++ 41 :: (tq a b j ++ (if z then [63] else [])))) = if nulP t && (decide ((tp a b j).2 = -1) || decide (1 < (tp a b j).2)) then .error 71 else .ok (.mk 5 [] (tp a b j).1 (tp a b j).2 z [t]) := by
  have e := times_law h.right (by have := h.cnt; omega) (by have := h.len; omega) (tq_len h0 hab h1 hj) (tq_ok h0 hab h1 hj) z
  rw [← nulP_eq] at e
  rw [← e]
  congr 1
  simp [brk]
/-- the two rows that the loop reads, and the tree in its box -/
structure TAt (w : World) (x : L) (A : Nat) (Qb TT : Nat) (P R : B) (a b : Int) (W : World) : Prop where
  one : OneAt w x A W
  q : W.heap[Qb]? = some (.cells #[.string ⟨#[42]⟩, .string ⟨#[123, 48, 44, 125]⟩, .string ⟨#[43]⟩, .string ⟨#[123, 49, 44, 125]⟩, .string ⟨#[63]⟩, .string ⟨#[123, 48, 44, 49, 125]⟩, .string ⟨(123 :: (P ++ [125])).toArray⟩, .string ⟨(123 :: (P ++ 44 :: (P ++ [125]))).toArray⟩, .string ⟨(123 :: (P ++ 44 :: (R ++ [125]))).toArray⟩, .string ⟨(123 :: (P ++ [44, 125])).toArray⟩] 9 (0, 0))
  p : W.heap[TT]? = some (.cells #[.int .i64 0, .int .i64 (-1), .int .i64 0, .int .i64 (-1), .int .i64 1, .int .i64 (-1), .int .i64 1, .int .i64 (-1), .int .i64 0, .int .i64 1, .int .i64 0, .int .i64 1, .int .i64 a, .int .i64 a, .int .i64 a, .int .i64 a, .int .i64 a, .int .i64 b, .int .i64 a, .int .i64 (-1)] 47 (0, 0))
theorem TAt.next {w W W' : World} {x : L} {A Qb TT : Nat} {P R : B} {a b : Int} (h : TAt w x A Qb TT P R a b W) (hb : Below W.heap.size W W') : TAt w x A Qb TT P R a b W' :=
  ⟨h.one.next hb, (hb.block _ (isT_of h.q).lt).trans h.q, (hb.block _ (isT_of h.p).lt).trans h.p⟩
def TRel (w : World) (x : L) (A Qb TT : Nat) (P R : B) (a b : Int) (G : Nat) (v : Value) (W : World) : Prop := ∃ j : Nat, v = .int .i64 j ∧ G + j = 10 ∧ TAt w x A Qb TT P R a b W
theorem TAt.qc {w W : World} {x : L} {A Qb TT : Nat} {P R : B} {a b : Int} (h : TAt w x A Qb TT P R a b W) (hP : P = Lib.itoa a) (hR : R = Lib.itoa b) {j : Nat} (hj : j < 10) : W.cell? ⟨Qb, j, none⟩ = some (.string ⟨(tq a b j).toArray⟩) := by
  refine block_cell h.q j _ ?_
  subst hP hR
  rcases (show j = 0 ∨ j = 1 ∨ j = 2 ∨ j = 3 ∨ j = 4 ∨ j = 5 ∨ j = 6 ∨ j = 7 ∨ j = 8 ∨ j = 9 by omega) with rfl | rfl | rfl | rfl | rfl | rfl | rfl | rfl | rfl | rfl <;> rfl
theorem TAt.pc {w W : World} {x : L} {A Qb TT : Nat} {P R : B} {a b : Int} (h : TAt w x A Qb TT P R a b W) {j : Nat} (hj : j < 10) : W.cell? ⟨TT, j * 2, none⟩ = some (.int .i64 (tp a b j).1) ∧ W.cell? ⟨TT, j * 2 + 1, none⟩ = some (.int .i64 (tp a b j).2) := by
  rcases (show j = 0 ∨ j = 1 ∨ j = 2 ∨ j = 3 ∨ j = 4 ∨ j = 5 ∨ j = 6 ∨ j = 7 ∨ j = 8 ∨ j = 9 by omega) with rfl | rfl | rfl | rfl | rfl | rfl | rfl | rfl | rfl | rfl <;> exact ⟨block_cell h.p _ _ rfl, block_cell h.p _ _ rfl⟩
set_option maxRecDepth 100000 in
set_option maxHeartbeats 16000000 in
theorem qtimes_law (a : Option Addr) (cap : Nat) (l : List Sm) (lo mo : Int) (lz : Bool) (w : World) (hV : Vs w) (hrd : RdF w a (sFlat l)) (hnil : a = none → l = [] ∧ cap = 0) (hok : ∀ x ∈ l, SmOK x) (hl : l.length ≤ cap) (hcap : cap ≤ maxLen)
    (hlo : 0 ≤ lo ∧ lo ≤ 65535) (hmo : 0 ≤ mo ∧ mo ≤ 65535) :
    Calls Tryz.prog 6 #[.slice a l.length cap, .int .u16 lo, .int .u16 mo, .bool lz] w fun e w' => e = .returned (.bool true) ∧ Below w.heap.size w w' := by
  obtain ⟨N, hN⟩ : ∃ N : Nat, N = min l.length 12 := ⟨_, rfl⟩
  have HM : Hid (∀ W, Below w.heap.size w W → Calls Tryz.prog 10 #[.slice a N cap] W (GivesP (fun b => W.heap.size ≤ b) W (made (l.take 12)))) := Lib.hid (fun W h => made_take a cap l N 12 W (RdF.below hrd h) hnil hok hl hcap hN)
  obtain ⟨n1, hn1⟩ : ∃ q, q = l.length := ⟨_, rfl⟩
  rw [← hn1] at hl hN ⊢
  have hmin : min (n1 : Int) 12 = (N : Int) := by omega
  have hNn : N ≤ n1 := by omega
  unfold maxLen at hcap
  have HG := Lib.hid (made_ok (l.take 12))
  obtain ⟨T, hT⟩ : ∃ q, q = made (l.take 12) := ⟨_, rfl⟩
  rw [← hT] at HM HG
  obtain ⟨u, hu⟩ : ∃ q, q = wr [] T := ⟨_, rfl⟩
  have hul : u.length ≤ 420 := by rw [hu]; exact HG.out.len
  have HU := Lib.hid hu
  have HA := Lib.hid (awake_calls w hV)
  have HV := Lib.hid hV
  clear hrd hnil hok hn1 hT hu hV hN
  go_enter Tryz.func6, Tryz.ntmps6
  go_wp2_with fail
  go_at_call 9
  refine HA.out.mono ?_
  rintro e w1 ⟨rfl, hb1⟩
  have H1 := Lib.hid hb1
  clear hb1
  go_wp2_with fail
  go_at_call 10
  refine (HM.out w1 H1.out).mono ?_
  rintro e w2 ⟨⟨k1, sa1, sc1, s1, mn1, mx1, lz1, na1, nc1, l1⟩, rfl, hy1, hr1, hb2⟩
  rw [val_mk]
  have H2 := Lib.hid (And.intro (H1.out.trans (hb2.mono H1.out.size)) (And.intro hy1 hr1))
  clear hy1 hr1 hb2 hmin hNn hl hcap
  go_wp2_with fail
  refine at_world ?_
  intro W3 hW3
  obtain ⟨A, hA⟩ : ∃ q, q = w2.heap.size := ⟨_, rfl⟩
  rw [← hA]
  have hbW : Below w2.heap.size w2 W3 := by rw [hW3]; exact (Below.refl _ _).alloc (Nat.le_refl _) _
  have gA : W3.heap[A]? = some (.cells #[.int .u8 k1, .slice sa1 s1.length sc1, .int .i64 mn1, .int .i64 mx1, .bool lz1, .slice na1 l1.length nc1] 27 (0, 0)) := by
    rw [hW3, hA]
    exact heap_alloc_new w2 _
  have hT0 : OneAt w (L.mk k1 sa1 sc1 s1 mn1 mx1 lz1 na1 nc1 l1) A W3 := ⟨H2.out.1.trans (hbW.mono H2.out.1.size), gA, (H2.out.2.2.bel hbW).all⟩
  have HX : Hid (L.tree (L.mk k1 sa1 sc1 s1 mn1 mx1 lz1 na1 nc1 l1) = T) := Lib.hid H2.out.2.1
  clear hW3 hA hbW gA
  refine (text_made (L.mk k1 sa1 sc1 s1 mn1 mx1 lz1 na1 nc1 l1) T u w W3 HV.out hT0.bel hT0.r HX.out HG.out HU.out).mono ?_
  rintro e w4 ⟨rfl, hb4⟩
  have hT4 := hT0.next hb4
  have H4 := Lib.hid hT4
  clear hT0 hb4 hT4
  obtain ⟨mk, hmk⟩ : ∃ q : B, q = if lz then [63] else [] := ⟨_, rfl⟩
  have hml : mk.length ≤ 1 := by rw [hmk]; cases lz <;> simp
  have HMK := Lib.hid hmk
  clear hmk
  go_upto_if 36 with fail
  go_cut [12] (fun s12 wx => s12 = .string ⟨mk.toArray⟩ ∧ w4 = wx)
  case first =>
    have hmk := HMK.out
    cases lz
    all_goals
      subst hmk
      go_wp2_with fail
      go_meet
      exact ⟨rfl, rfl⟩
  case rest =>
  obtain ⟨rfl, rfl⟩ := hcut
  apply_assumption
  obtain ⟨a0, ha0⟩ : ∃ q, q = lo % 1001 := ⟨_, rfl⟩
  obtain ⟨m0, hm0⟩ : ∃ q, q = mo % (1001 - a0) := ⟨_, rfl⟩
  have ha1 : 0 ≤ a0 ∧ a0 ≤ 1000 := by omega
  have hm1 : 0 ≤ m0 ∧ a0 + m0 ≤ 1000 := by
    have h1 := Int.emod_nonneg mo (b := 1001 - a0) (by omega)
    have h2 := Int.emod_lt_of_pos mo (b := 1001 - a0) (by omega)
    omega
  have ht1 : lo.tmod 1001 = a0 := by rw [Int.tmod_eq_emod_of_nonneg hlo.1, ha0]
  have ht2 : mo.tmod (1001 - a0) = m0 := by rw [Int.tmod_eq_emod_of_nonneg hmo.1, hm0]
  have hne : ¬ (1001 - a0 = 0) := by omega
  clear ha0 hm0
  go_upto_region 12 with fail
  obtain ⟨b0, hb0⟩ : ∃ q, q = a0 + m0 := ⟨_, rfl⟩
  rw [← hb0]
  have hb1 : a0 ≤ b0 ∧ b0 ≤ 1000 := by omega
  obtain ⟨P, hP⟩ : ∃ q, q = Lib.itoa a0 := ⟨_, rfl⟩
  obtain ⟨R, hR⟩ : ∃ q, q = Lib.itoa b0 := ⟨_, rfl⟩
  have hPl : P.length ≤ 21 := by rw [hP]; exact Lib.itoa_length_le a0 (by omega) (by omega)
  have hRl : R.length ≤ 21 := by rw [hR]; exact Lib.itoa_length_le b0 (by omega) (by omega)
  have HI1 : Hid (∀ W, OneAt w (L.mk k1 sa1 sc1 s1 mn1 mx1 lz1 na1 nc1 l1) A W → Calls Tryz.prog 19 #[.int .i64 a0] W fun e w' => e = .returned (.string ⟨P.toArray⟩) ∧ Below W.heap.size W w') := Lib.hid (fun W h => by rw [hP]; exact itoa_calls a0 (by omega) (by omega) W (HV.out.below h.bel))
  have HI2 : Hid (∀ W, OneAt w (L.mk k1 sa1 sc1 s1 mn1 mx1 lz1 na1 nc1 l1) A W → Calls Tryz.prog 19 #[.int .i64 b0] W fun e w' => e = .returned (.string ⟨R.toArray⟩) ∧ Below W.heap.size W w') := Lib.hid (fun W h => by rw [hR]; exact itoa_calls b0 (by omega) (by omega) W (HV.out.below h.bel))
  have HPR := Lib.hid (And.intro hP (And.intro hR (And.intro ha1 hb1)))
  clear hb0 hm1 ht1 ht2 hne hP hR
  have c1 : ∀ W, (Op.stringOp .add ⟨#[123]⟩ ⟨P.toArray⟩).run Tryz.prog W = .ok (.string ⟨(123 :: P).toArray⟩) W := fun W => by have h := run_string_add_lists (P := Tryz.prog) W ([123]) (P) (by first | omega | (simp; done) | (simp; omega)) (by first | omega | (simp; done) | (simp; omega)); simpa using h
  have c2 : ∀ W, (Op.stringOp .add ⟨(123 :: P).toArray⟩ ⟨#[125]⟩).run Tryz.prog W = .ok (.string ⟨(123 :: (P ++ [125])).toArray⟩) W := fun W => by have h := run_string_add_lists (P := Tryz.prog) W (123 :: P) ([125]) (by first | omega | (simp; done) | (simp; omega)) (by first | omega | (simp; done) | (simp; omega)); simpa using h
  have c3 : ∀ W, (Op.stringOp .add ⟨(123 :: P).toArray⟩ ⟨#[44]⟩).run Tryz.prog W = .ok (.string ⟨(123 :: (P ++ [44])).toArray⟩) W := fun W => by have h := run_string_add_lists (P := Tryz.prog) W (123 :: P) ([44]) (by first | omega | (simp; done) | (simp; omega)) (by first | omega | (simp; done) | (simp; omega)); simpa using h
  have c4 : ∀ W, (Op.stringOp .add ⟨(123 :: (P ++ [44])).toArray⟩ ⟨P.toArray⟩).run Tryz.prog W = .ok (.string ⟨(123 :: (P ++ 44 :: P)).toArray⟩) W := fun W => by have h := run_string_add_lists (P := Tryz.prog) W (123 :: (P ++ [44])) (P) (by first | omega | (simp; done) | (simp; omega)) (by first | omega | (simp; done) | (simp; omega)); simpa using h
  have c5 : ∀ W, (Op.stringOp .add ⟨(123 :: (P ++ 44 :: P)).toArray⟩ ⟨#[125]⟩).run Tryz.prog W = .ok (.string ⟨(123 :: (P ++ 44 :: (P ++ [125]))).toArray⟩) W := fun W => by have h := run_string_add_lists (P := Tryz.prog) W (123 :: (P ++ 44 :: P)) ([125]) (by first | omega | (simp; done) | (simp; omega)) (by first | omega | (simp; done) | (simp; omega)); simpa using h
  have c6 : ∀ W, (Op.stringOp .add ⟨(123 :: (P ++ [44])).toArray⟩ ⟨R.toArray⟩).run Tryz.prog W = .ok (.string ⟨(123 :: (P ++ 44 :: R)).toArray⟩) W := fun W => by have h := run_string_add_lists (P := Tryz.prog) W (123 :: (P ++ [44])) (R) (by first | omega | (simp; done) | (simp; omega)) (by first | omega | (simp; done) | (simp; omega)); simpa using h
  have c7 : ∀ W, (Op.stringOp .add ⟨(123 :: (P ++ 44 :: R)).toArray⟩ ⟨#[125]⟩).run Tryz.prog W = .ok (.string ⟨(123 :: (P ++ 44 :: (R ++ [125]))).toArray⟩) W := fun W => by have h := run_string_add_lists (P := Tryz.prog) W (123 :: (P ++ 44 :: R)) ([125]) (by first | omega | (simp; done) | (simp; omega)) (by first | omega | (simp; done) | (simp; omega)); simpa using h
  have c8 : ∀ W, (Op.stringOp .add ⟨(123 :: P).toArray⟩ ⟨#[44, 125]⟩).run Tryz.prog W = .ok (.string ⟨(123 :: (P ++ [44, 125])).toArray⟩) W := fun W => by have h := run_string_add_lists (P := Tryz.prog) W (123 :: P) ([44, 125]) (by first | omega | (simp; done) | (simp; omega)) (by first | omega | (simp; done) | (simp; omega)); simpa using h
  go_wp2_with fail
  go_at_call 19
  refine (HI1.out _ H4.out).mono ?_
  rintro e w5 ⟨rfl, hb⟩
  have H5 := Lib.hid (H4.out.next hb)
  clear hb
  go_wp2_with fail
  go_at_call 19
  refine (HI1.out _ H5.out).mono ?_
  rintro e w6 ⟨rfl, hb⟩
  have H6 := Lib.hid (H5.out.next hb)
  clear hb
  go_wp2_with fail
  go_at_call 19
  refine (HI1.out _ H6.out).mono ?_
  rintro e w7 ⟨rfl, hb⟩
  have H7 := Lib.hid (H6.out.next hb)
  clear hb
  go_wp2_with fail
  go_at_call 19
  refine (HI1.out _ H7.out).mono ?_
  rintro e w8 ⟨rfl, hb⟩
  have H8 := Lib.hid (H7.out.next hb)
  clear hb
  go_wp2_with fail
  go_at_call 19
  refine (HI2.out _ H8.out).mono ?_
  rintro e w9 ⟨rfl, hb⟩
  have H9 := Lib.hid (H8.out.next hb)
  clear hb
  go_wp2_with fail
  go_at_call 19
  refine (HI1.out _ H9.out).mono ?_
  rintro e w10 ⟨rfl, hb⟩
  have H10 := Lib.hid (H9.out.next hb)
  clear hb
  go_wp2_with fail
  obtain ⟨Qb, hQb⟩ : ∃ q, q = w10.heap.size := ⟨_, rfl⟩
  obtain ⟨TT, hTT⟩ : ∃ q, q = w10.heap.size + 1 := ⟨_, rfl⟩
  rw [← hTT, ← hQb]
  have HQT := Lib.hid (And.intro hQb hTT)
  clear hQb hTT c1 c2 c3 c4 c5 c6 c7 c8
  have HNUL : Hid (∀ W, OneAt w (L.mk k1 sa1 sc1 s1 mn1 mx1 lz1 na1 nc1 l1) A W → Calls Tryz.prog 14 #[.agg #[.int .u8 k1, .slice sa1 s1.length sc1, .int .i64 mn1, .int .i64 mx1, .bool lz1, .slice na1 l1.length nc1]] W fun e w' => e = .returned (.bool (nulP T)) ∧ Below W.heap.size W w') := Lib.hid (fun W h => (lawnul_calls h.r W (Below.refl _ _)).mono (fun e w' h2 => ⟨by rw [h2.1, HX.out], h2.2⟩))
  go_loopg [91] 10 (fun G v91 wr => TRel w (L.mk k1 sa1 sc1 s1 mn1 mx1 lz1 na1 nc1 l1) A Qb TT P R a0 b0 G v91 wr)
  case atStart =>
    obtain ⟨rfl, rfl⟩ := HQT.out
    exact ⟨0, rfl, rfl, H10.out.next (((Below.refl _ _).alloc (Nat.le_refl _) _).alloc (by simp) _), (((Below.refl (w10.alloc _).heap.size _).alloc (Nat.le_refl _) _).block _ (by simp)).trans (heap_alloc_new w10 _), alloc_at _ (by simp) _⟩
  case round =>
    unfold TRel at hrel
    obtain ⟨j, rfl, hGj, hT⟩ := hrel
    obtain ⟨wA, hwA⟩ : ∃ q, q = wr := ⟨_, rfl⟩
    subst hwA
    have HT := Lib.hid hT
    by_cases hj : j < 10
    · obtain ⟨x, hx⟩ : ∃ q, q = (tp a0 b0 j).1 := ⟨_, rfl⟩
      obtain ⟨y, hy⟩ : ∃ q, q = (tp a0 b0 j).2 := ⟨_, rfl⟩
      obtain ⟨qq, hqq⟩ : ∃ q, q = tq a0 b0 j := ⟨_, rfl⟩
      have hql : qq.length ≤ 50 := by rw [hqq]; exact tq_len HPR.out.2.2.1.1 HPR.out.2.2.2.1 HPR.out.2.2.2.2 hj
      have hrg := tp_rng HPR.out.2.2.1.1 HPR.out.2.2.2.1 HPR.out.2.2.2.2 hj
      rw [← hx, ← hy] at hrg
      have HRG := Lib.hid hrg
      have p0 := (hT.pc hj).1
      have p1 := (hT.pc hj).2
      rw [← hx] at p0
      rw [← hy] at p1
      have q0 := hT.qc HPR.out.1 HPR.out.2.1 hj
      rw [← hqq] at q0
      have q1 : ∀ o, (wA.alloc o).cell? ⟨Qb, j, none⟩ = some (.string ⟨qq.toArray⟩) := fun o => al_cell q0 o
      have HPAR : Hid (parse (40 :: 63 :: 58 :: (u ++ 41 :: (qq ++ mk))) = if nulP T && (decide (y = -1) || decide (1 < y)) then .error 71 else .ok (.mk 5 [] x y lz [T])) := Lib.hid (by rw [HU.out, hqq, HMK.out, hx, hy]; exact times_one HG.out HPR.out.2.2.1.1 HPR.out.2.2.2.1 HPR.out.2.2.2.2 lz hj)
      have HGJ := Lib.hid hGj
      clear hx hy hqq hrg hT hGj
      have k1 : ∀ W, (Op.stringOp .add ⟨#[40, 63, 58]⟩ ⟨u.toArray⟩).run Tryz.prog W = .ok (.string ⟨(40 :: 63 :: 58 :: u).toArray⟩) W := fun W => by have h := run_string_add_lists (P := Tryz.prog) W ([40, 63, 58]) (u) (by first | omega | (simp; done) | (simp; omega)) (by first | omega | (simp; done) | (simp; omega)); simpa using h
      have k2 : ∀ W, (Op.stringOp .add ⟨(40 :: 63 :: 58 :: u).toArray⟩ ⟨#[41]⟩).run Tryz.prog W = .ok (.string ⟨(40 :: 63 :: 58 :: (u ++ [41])).toArray⟩) W := fun W => by have h := run_string_add_lists (P := Tryz.prog) W (40 :: 63 :: 58 :: u) ([41]) (by first | omega | (simp; done) | (simp; omega)) (by first | omega | (simp; done) | (simp; omega)); simpa using h
      have k3 : ∀ W, (Op.stringOp .add ⟨(40 :: 63 :: 58 :: (u ++ [41])).toArray⟩ ⟨qq.toArray⟩).run Tryz.prog W = .ok (.string ⟨(40 :: 63 :: 58 :: (u ++ 41 :: qq)).toArray⟩) W := fun W => by have h := run_string_add_lists (P := Tryz.prog) W (40 :: 63 :: 58 :: (u ++ [41])) (qq) (by first | omega | (simp; done) | (simp; omega)) (by first | omega | (simp; done) | (simp; omega)); simpa using h
      have k4 : ∀ W, (Op.stringOp .add ⟨(40 :: 63 :: 58 :: (u ++ 41 :: qq)).toArray⟩ ⟨mk.toArray⟩).run Tryz.prog W = .ok (.string ⟨(40 :: 63 :: 58 :: (u ++ 41 :: (qq ++ mk))).toArray⟩) W := fun W => by have h := run_string_add_lists (P := Tryz.prog) W (40 :: 63 :: 58 :: (u ++ 41 :: qq)) (mk) (by first | omega | (simp; done) | (simp; omega)) (by first | omega | (simp; done) | (simp; omega)); simpa using h
      go_wp2_with fail
      refine at_world ?_
      intro W5 hW5
      obtain ⟨Pb, hPb⟩ : ∃ q, q = wA.heap.size := ⟨_, rfl⟩
      rw [← hPb]
      have gP : W5.heap[Pb]? = some (.cells #[.int .i64 x, .int .i64 y] 47 (0, 0)) := by rw [hW5, hPb]; exact heap_alloc_new wA _
      have hT5 := HT.out.next (W' := W5) (by rw [hW5]; exact (Below.refl _ _).alloc (Nat.le_refl _) _)
      clear hW5 hPb p0 p1 q0 q1 k1 k2 k3 k4
      by_cases hE : (nulP T && (decide (y = -1) || decide (1 < y))) = true
      · have hE2 := hE
        rw [Bool.and_eq_true] at hE2
        obtain ⟨hn, hyy⟩ := hE2
        refine (parse_erC ⟨(40 :: 63 :: 58 :: (u ++ 41 :: (qq ++ mk))).toArray⟩ 71 W5 (HV.out.below hT5.one.bel) (by simp only [ByteArray.size, List.size_toArray, List.length_cons, List.length_append]; omega) (by rw [show (⟨(40 :: 63 :: 58 :: (u ++ 41 :: (qq ++ mk))).toArray⟩ : ByteArray).data.toList = 40 :: 63 :: 58 :: (u ++ 41 :: (qq ++ mk)) from rfl, HPAR.out, if_pos hE])).mono ?_
        rintro e w6 ⟨rfl, hb6⟩
        have hT6 := hT5.next hb6
        have gP6 := (hb6.block _ (isT_of gP).lt).trans gP
        have a0 : ∀ o, (w6.alloc o).cell? ⟨A, 0, none⟩ = some (.int .u8 k1) := fun o => al_cell (block_cell hT6.one.a 0 _ rfl) o
        have a1 : ∀ o, (w6.alloc o).cell? ⟨A, 1, none⟩ = some (.slice sa1 s1.length sc1) := fun o => al_cell (block_cell hT6.one.a 1 _ rfl) o
        have a2 : ∀ o, (w6.alloc o).cell? ⟨A, 2, none⟩ = some (.int .i64 mn1) := fun o => al_cell (block_cell hT6.one.a 2 _ rfl) o
        have a3 : ∀ o, (w6.alloc o).cell? ⟨A, 3, none⟩ = some (.int .i64 mx1) := fun o => al_cell (block_cell hT6.one.a 3 _ rfl) o
        have a4 : ∀ o, (w6.alloc o).cell? ⟨A, 4, none⟩ = some (.bool lz1) := fun o => al_cell (block_cell hT6.one.a 4 _ rfl) o
        have a5 : ∀ o, (w6.alloc o).cell? ⟨A, 5, none⟩ = some (.slice na1 l1.length nc1) := fun o => al_cell (block_cell hT6.one.a 5 _ rfl) o
        have H6 := Lib.hid (And.intro hT6 gP6)
        clear hT5 hb6 gP hT6 gP6 HPAR hE
        go_wp2_with fail
        refine at_world ?_
        intro W6 hW6
        have hb7 : Below w6.heap.size w6 W6 := by rw [hW6]; exact (Below.refl _ _).alloc (Nat.le_refl _) _
        have hT7 := H6.out.1.next hb7
        have gP7 := (hb7.block _ (isT_of H6.out.2).lt).trans H6.out.2
        clear hW6 hb7 a0 a1 a2 a3 a4 a5
        refine (HNUL.out W6 hT7.one).mono ?_
        rintro e w7 ⟨rfl, hb8⟩
        have hT8 := hT7.next hb8
        have gP8 := (hb8.block _ (isT_of gP7).lt).trans gP7
        have e1 : w7.cell? ⟨Pb, 1, none⟩ = some (.int .i64 y) := block_cell gP8 1 _ rfl
        have H8 := Lib.hid hT8
        clear hT7 gP7 hb8 hT8 gP8
        rw [hn]
        by_cases hy1 : y = -1
        case' pos =>
          have hy2 : (y == -1) = true := beq_iff_eq.2 hy1
        case' neg =>
          have hy2 : (y == -1) = false := beq_eq_false_iff_ne.2 hy1
          have hy3 : decide (1 < y) = true := by simpa [hy1] using hyy
        all_goals
          clear hyy
          go_wp2_with fail
          go_roundg (10 - (j + 1))
          case measure => have := HGJ.out; omega
          case rel => exact ⟨j + 1, by simp, by omega, H8.out⟩
      · refine (parse_okC ⟨(40 :: 63 :: 58 :: (u ++ 41 :: (qq ++ mk))).toArray⟩ (.mk 5 [] x y lz [T]) W5 (HV.out.below hT5.one.bel) (by simp only [ByteArray.size, List.size_toArray, List.length_cons, List.length_append]; omega) (by rw [show (⟨(40 :: 63 :: 58 :: (u ++ 41 :: (qq ++ mk))).toArray⟩ : ByteArray).data.toList = 40 :: 63 :: 58 :: (u ++ 41 :: (qq ++ mk)) from rfl, HPAR.out, if_neg hE])).mono ?_
        rintro e w6 ⟨⟨k3, sa3, sc3, s3, mn3, mx3, lz3, na3, nc3, l3⟩, rfl, hy3, hr3, hb6⟩
        rw [val_mk]
        have hT6 := hT5.next hb6
        have gP6 := (hb6.block _ (isT_of gP).lt).trans gP
        have a0 : ∀ o, (w6.alloc o).cell? ⟨A, 0, none⟩ = some (.int .u8 k1) := fun o => al_cell (block_cell hT6.one.a 0 _ rfl) o
        have a1 : ∀ o, (w6.alloc o).cell? ⟨A, 1, none⟩ = some (.slice sa1 s1.length sc1) := fun o => al_cell (block_cell hT6.one.a 1 _ rfl) o
        have a2 : ∀ o, (w6.alloc o).cell? ⟨A, 2, none⟩ = some (.int .i64 mn1) := fun o => al_cell (block_cell hT6.one.a 2 _ rfl) o
        have a3 : ∀ o, (w6.alloc o).cell? ⟨A, 3, none⟩ = some (.int .i64 mx1) := fun o => al_cell (block_cell hT6.one.a 3 _ rfl) o
        have a4 : ∀ o, (w6.alloc o).cell? ⟨A, 4, none⟩ = some (.bool lz1) := fun o => al_cell (block_cell hT6.one.a 4 _ rfl) o
        have a5 : ∀ o, (w6.alloc o).cell? ⟨A, 5, none⟩ = some (.slice na1 l1.length nc1) := fun o => al_cell (block_cell hT6.one.a 5 _ rfl) o
        have H6 := Lib.hid (And.intro hT6 (And.intro gP6 (And.intro hy3 hr3)))
        clear hT5 hb6 gP hT6 gP6 HPAR hy3 hr3
        go_wp2_with fail
        refine at_world ?_
        intro W6 hW6
        obtain ⟨Xb, hXb⟩ : ∃ q, q = w6.heap.size := ⟨_, rfl⟩
        rw [← hXb]
        have hb7 : Below w6.heap.size w6 W6 := by rw [hW6]; exact (Below.refl _ _).alloc (Nat.le_refl _) _
        have gX : W6.heap[Xb]? = some (.cells #[.int .u8 k3, .slice sa3 s3.length sc3, .int .i64 mn3, .int .i64 mx3, .bool lz3, .slice na3 l3.length nc3] 27 (0, 0)) := by rw [hW6, hXb]; exact heap_alloc_new w6 _
        have hT7 := H6.out.1.next hb7
        have gP7 := (hb7.block _ (isT_of H6.out.2.1).lt).trans H6.out.2.1
        clear hW6 a0 a1 a2 a3 a4 a5
        refine (HNUL.out W6 hT7.one).mono ?_
        rintro e w7 ⟨rfl, hb8⟩
        have hT8 := hT7.next hb8
        have gP8 := (hb8.block _ (isT_of gP7).lt).trans gP7
        have gX8 := (hb8.block _ (isT_of gX).lt).trans gX
        have e0 : w7.cell? ⟨Pb, 0, none⟩ = some (.int .i64 x) := block_cell gP8 0 _ rfl
        have e1 : w7.cell? ⟨Pb, 1, none⟩ = some (.int .i64 y) := block_cell gP8 1 _ rfl
        have a0 : w7.cell? ⟨A, 0, none⟩ = some (.int .u8 k1) := block_cell hT8.one.a 0 _ rfl
        have a1 : w7.cell? ⟨A, 1, none⟩ = some (.slice sa1 s1.length sc1) := block_cell hT8.one.a 1 _ rfl
        have a2 : w7.cell? ⟨A, 2, none⟩ = some (.int .i64 mn1) := block_cell hT8.one.a 2 _ rfl
        have a3 : w7.cell? ⟨A, 3, none⟩ = some (.int .i64 mx1) := block_cell hT8.one.a 3 _ rfl
        have a4 : w7.cell? ⟨A, 4, none⟩ = some (.bool lz1) := block_cell hT8.one.a 4 _ rfl
        have a5 : w7.cell? ⟨A, 5, none⟩ = some (.slice na1 l1.length nc1) := block_cell hT8.one.a 5 _ rfl
        have b0 : w7.cell? ⟨Xb, 0, none⟩ = some (.int .u8 k3) := block_cell gX8 0 _ rfl
        have b1 : w7.cell? ⟨Xb, 1, none⟩ = some (.slice sa3 s3.length sc3) := block_cell gX8 1 _ rfl
        have b2 : w7.cell? ⟨Xb, 2, none⟩ = some (.int .i64 mn3) := block_cell gX8 2 _ rfl
        have b3 : w7.cell? ⟨Xb, 3, none⟩ = some (.int .i64 mx3) := block_cell gX8 3 _ rfl
        have b4 : w7.cell? ⟨Xb, 4, none⟩ = some (.bool lz3) := block_cell gX8 4 _ rfl
        have b5 : w7.cell? ⟨Xb, 5, none⟩ = some (.slice na3 l3.length nc3) := block_cell gX8 5 _ rfl
        have d0 : ∀ o p, ((w7.alloc o).alloc p).cell? ⟨Xb, 0, none⟩ = some (.int .u8 k3) := fun o p => al_cell (al_cell b0 o) p
        have d1 : ∀ o p, ((w7.alloc o).alloc p).cell? ⟨Xb, 1, none⟩ = some (.slice sa3 s3.length sc3) := fun o p => al_cell (al_cell b1 o) p
        have d2 : ∀ o p, ((w7.alloc o).alloc p).cell? ⟨Xb, 2, none⟩ = some (.int .i64 mn3) := fun o p => al_cell (al_cell b2 o) p
        have d3 : ∀ o p, ((w7.alloc o).alloc p).cell? ⟨Xb, 3, none⟩ = some (.int .i64 mx3) := fun o p => al_cell (al_cell b3 o) p
        have d4 : ∀ o p, ((w7.alloc o).alloc p).cell? ⟨Xb, 4, none⟩ = some (.bool lz3) := fun o p => al_cell (al_cell b4 o) p
        have d5 : ∀ o p, ((w7.alloc o).alloc p).cell? ⟨Xb, 5, none⟩ = some (.slice na3 l3.length nc3) := fun o p => al_cell (al_cell b5 o) p
        have H8 := Lib.hid (And.intro hT8 (hb7.trans (hb8.mono hb7.size)))
        clear hT7 gP7 hb8 hT8 gP8 gX8 gX hb7 hXb
        have hor : nulP T = false ∨ (nulP T = true ∧ ¬ y = -1 ∧ ¬ 1 < y) := by
          cases hn : nulP T
          · exact .inl rfl
          · right
            rw [hn] at hE
            simp at hE
            exact ⟨rfl, hE.1, by omega⟩
        clear hE
        rcases hor with hn | ⟨hn, hy1, hy4⟩
        case' inr =>
          have hy2 : (y == -1) = false := beq_eq_false_iff_ne.2 hy1
          have hy3 : decide (1 < y) = false := by simp; omega
        all_goals
          rw [hn]
          go_wp2_with fail
          refine at_world ?_
          intro W9 hW9
          have hb9 : Below w7.heap.size w7 W9 := by rw [hW9]; exact ((Below.refl _ _).alloc (Nat.le_refl _) _).alloc (by simp) _
          have gS : W9.heap[w7.heap.size]? = some (.cells #[.int .u8 k1, .slice sa1 s1.length sc1, .int .i64 mn1, .int .i64 mx1, .bool lz1, .slice na1 l1.length nc1] 27 (0, 0)) := by
            rw [hW9]
            exact (((Below.refl (w7.alloc _).heap.size _).alloc (Nat.le_refl _) _).block _ (by simp)).trans (heap_alloc_new w7 _)
          have hT9 := H8.out.1.next hb9
          have hrg := HRG.out
          have hS : Calls Tryz.prog 18 #[.agg #[.int .u8 k3, .slice sa3 s3.length sc3, .int .i64 mn3, .int .i64 mx3, .bool lz3, .slice na3 l3.length nc3], .agg #[.int .u8 5, .slice none 0 0, .int .i64 x, .int .i64 y, .bool lz, .slice (some ⟨w7.heap.size, 0, none⟩) 1 1]] W9 fun e w' => e = .returned (.bool true) ∧ Below W9.heap.size W9 w' :=
            (same_all (L.mk k3 sa3 sc3 s3 mn3 mx3 lz3 na3 nc3 l3) (L.mk 5 none 0 [] x y lz (some ⟨w7.heap.size, 0, none⟩) 1 [(L.mk k1 sa1 sc1 s1 mn1 mx1 lz1 na1 nc1 l1)]) _ (fun _ => True) W9 (H6.out.2.2.2.bel (H8.out.2.trans (hb9.mono H8.out.2.size))) (one_part H8.out.1.one.r hb9 gS trivial (by omega) ⟨by omega, by omega⟩ ⟨by omega, by omega⟩)).mono (fun e w' h2 => ⟨by
              rw [h2.1, H6.out.2.2.1, show L.tree (L.mk 5 none 0 [] x y lz (some ⟨w7.heap.size, 0, none⟩) 1 [(L.mk k1 sa1 sc1 s1 mn1 mx1 lz1 na1 nc1 l1)]) = .mk 5 [] x y lz [L.tree (L.mk k1 sa1 sc1 s1 mn1 mx1 lz1 na1 nc1 l1)] from rfl, HX.out, same_self], h2.2⟩)
          clear hrg hW9 hb9 gS a0 a1 a2 a3 a4 a5 b0 b1 b2 b3 b4 b5 d0 d1 d2 d3 d4 d5 e0 e1
          refine hS.mono ?_
          rintro e w9 ⟨rfl, hb10⟩
          have H9 := Lib.hid (hT9.next hb10)
          clear hS hT9 hb10
          go_wp2_with fail
          go_roundg (10 - (j + 1))
          case measure => have := HGJ.out; omega
          case rel => exact ⟨j + 1, by simp, by omega, H9.out⟩
    · go_wp2_with fail
      go_ret
      exact ⟨rfl, HT.out.one.bel⟩
end Go.Proofs.YtcklkjibhgbhiaaGreatDoor.Sy
