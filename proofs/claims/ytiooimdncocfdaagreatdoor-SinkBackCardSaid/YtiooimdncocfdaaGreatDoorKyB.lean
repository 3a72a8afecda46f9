/- Chapter 38: the law SinkBack: its walk. -/
import Derived.Test.YtiooimdncocfdaaGreatDoorKbR
import Derived.Test.YtiooimdncocfdaaGreatDoorKbQ
import Derived.Test.YtiooimdncocfdaaGreatDoorKyP
namespace Go.Proofs.YtiooimdncocfdaaGreatDoor.Sk
open Go Go.RowKit
/-- an entry of small numbers with other bits and another time -/
def entP (x : Sm) (sp bits time : Int) : Ent := ⟨serN (x.ser % 3), markS x, if markS x then 0 else bits, stS x, if stS x then time else 0, sp⟩
theorem entS_P (x : Sm) (sp : Int) : entS x sp = entP x sp x.kind (x.more - 99) := rfl
theorem keyN_some (k : Int) : (readKey (d (keyN k))).isSome = true := by
  unfold keyN
  split
  · kernel_rfl
  · split
    · kernel_rfl
    · kernel_rfl
theorem entP_right (x : Sm) {sp bits time : Int} (h0 : 0 ≤ sp) (h1 : sp ≤ 562949953421313) : itemRight (d (keyS x)) (entP x sp bits time) = true := by
  unfold itemRight
  rw [show (readKey (d (keyS x))).isSome = true from keyN_some _]
  have hl : labRight (entP x sp bits time).lab = true := serN_right _
  rw [hl]
  unfold entP
  simp only [Bool.true_and, Bool.and_eq_true, decide_eq_true_eq]
  refine ⟨⟨⟨h0, h1⟩, ?_⟩, ?_⟩
  · cases hm : markS x <;> simp [stS, hm]
  · cases hm : stS x <;> simp
theorem entP_in (x : Sm) {sp bits time : Int} (h0 : 0 ≤ sp) (h1 : sp ≤ 562949953421313) (b0 : 0 ≤ bits) (b1 : bits < 18446744073709551616) (t0 : -9223372036854775808 ≤ time) (t1 : time ≤ 9223372036854775807) : EntIn (entP x sp bits time) := by
  unfold entP
  refine ⟨?_, ?_, ?_, ?_, ?_, ?_⟩
  · show 0 ≤ (if markS x then 0 else bits : Int); split <;> omega
  · show (if markS x then 0 else bits : Int) < _; split <;> omega
  · show _ ≤ (if stS x then time else 0 : Int); split <;> omega
  · show (if stS x then time else 0 : Int) ≤ _; split <;> omega
  · show _ ≤ sp; omega
  · show sp ≤ _; omega
theorem RdI.new (w : World) (es : List SI) (xs : Array Value) (hx : xs.toList = iFlat es) (hl : ∀ x ∈ es, Ll w x.la x.lc x.e.lab) : RdI (w.alloc (.cells xs 61)) (some ⟨w.heap.size, 0, none⟩) es := by
  refine ⟨fun _ => ⟨w.heap.size, 0, rfl, ⟨_, _, heap_alloc_new w _⟩, fun j u hu => ?_⟩, fun x hx' => (hl x hx').below ((Below.refl _ _).alloc (Nat.le_refl _) _) (Nat.le_refl _)⟩
  rw [Nat.zero_add]
  exact new_cell w xs _ j u (by rw [← hx] at hu; simpa using hu)
theorem join_le : ∀ (ws : List B) (m : Nat), (∀ w ∈ ws, w.length ≤ m) → (Go.Lib.join ws [32]).length ≤ ws.length * (m + 1)
  | [], m, _ => by simp [Go.Lib.join_nil]
  | [x], m, h => by rw [Go.Lib.join_one]; have := h x (List.mem_cons_self ..); simp; omega
  | x :: y :: r, m, h => by
    have ih := join_le (y :: r) m (fun w hw => h w (List.mem_cons_of_mem _ hw))
    have h1 := h x (List.mem_cons_self ..)
    have e : Go.Lib.join (x :: y :: r) [32] = x ++ (32 :: Go.Lib.join (y :: r) [32]) := by
      rw [Go.Lib.join_cons, Go.Lib.join_cons]
      simp [Go.Lib.joinTail]
    rw [e, List.length_append, List.length_cons]
    simp only [List.length_cons] at ih ⊢
    have e2 : (r.length + 1 + 1) * (m + 1) = (r.length + 1) * (m + 1) + (m + 1) := Nat.succ_mul _ _
    omega
theorem text_small {k : B} {en : Ent} (hi : EntIn en) (hk : k.length ≤ 100) (hl : (bytesS en.lab).length ≤ 100) : (textR k en).length ≤ 2500 := by
  have hw : ∀ w ∈ wordsT k en, w.length ≤ 400 := by
    intro w hw
    have e1 := Go.Lib.itoa_length_le en.stamp hi.s0 hi.s1
    have e2 := Go.Lib.itoa_length_le en.time hi.t0 hi.t1
    have e3 := bitsT_len hi.b1
    have e4 := word_len k
    have e5 := word_len (bytesS en.lab)
    unfold wordsT headW at hw
    rcases List.mem_append.1 hw with hw | hw
    · split at hw
      · rcases (by simpa using hw : w = _ ∨ w = _) with rfl | rfl
        · decide
        · omega
      · rcases (by simpa using hw : w = _ ∨ w = _ ∨ w = _ ∨ w = _) with rfl | rfl | rfl | rfl
        · decide
        · omega
        · omega
        · split
          · omega
          · decide
    · rcases (by simpa using hw : w = _ ∨ w = _) with rfl | rfl
      · omega
      · omega
  have h := join_le (wordsT k en) 400 hw
  have hn : (wordsT k en).length ≤ 6 := by rw [words_len]; split <;> omega
  have h3 : (wordsT k en).length * (400 + 1) ≤ 6 * (400 + 1) := Nat.mul_le_mul_right _ hn
  unfold textR
  unfold wordsT at h h3
  omega
theorem serN_small (n : Int) : (bytesS (serN n)).length ≤ 100 := by
  unfold serN
  split
  · exact of_decide_eq_true (by kernel_rfl)
  · split
    · exact of_decide_eq_true (by kernel_rfl)
    · exact of_decide_eq_true (by kernel_rfl)
theorem keyS_small (x : Sm) : (d (keyS x)).length ≤ 100 := by
  unfold keyS keyN
  split
  · decide
  · split <;> decide
theorem it_of {x y : SI} (h1 : x.key = y.key) (h2 : x.e = y.e) : x.it = y.it := by
  unfold SI.it
  rw [h1, h2]
set_option maxRecDepth 100000 in
set_option maxHeartbeats 8000000 in
theorem back_law (x y : Sm) (hx : SmOk x) (hy : SmOk y) (stamp time bits : Int) (w : World) (hE : Ev w) (hS : Es w) (hT : Lib.TabIs Tryz.prog w "strings.asciiSpace" .u8 Lib.asciiSpaceTab) (_s0 : -9223372036854775808 ≤ stamp) (_s1 : stamp ≤ 9223372036854775807) (t0 : -9223372036854775808 ≤ time) (t1 : time ≤ 9223372036854775807)
    (b0 : 0 ≤ bits) (b1 : bits < 18446744073709551616) :
    Calls Tryz.prog 11 #[.agg #[.int .u8 x.key, .int .u8 x.ser, .int .u8 x.kind, .int .u8 x.more], .agg #[.int .u8 y.key, .int .u8 y.ser, .int .u8 y.kind, .int .u8 y.more], .int .i64 stamp, .int .i64 time, .int .u64 bits] w
      fun e w' => e = .returned (.bool true) ∧ Below w.heap.size w w' := by
  have hr1 : -562949953421313 < stamp.tmod 562949953421313 ∧ stamp.tmod 562949953421313 < 562949953421313 := by
    have h1 := Int.tmod_lt_of_pos stamp (show (0 : Int) < 562949953421313 by decide)
    have h2 : -(562949953421313 : Int) < stamp.tmod 562949953421313 := by
      have h3 := Int.tmod_lt_of_pos (-stamp) (show (0 : Int) < 562949953421313 by decide)
      rw [Int.neg_tmod] at h3
      omega
    exact ⟨h2, h1⟩
  obtain ⟨r, hr⟩ : ∃ r, stamp.tmod 562949953421313 = r := ⟨_, rfl⟩
  rw [hr] at hr1
  obtain ⟨r1, r2⟩ := hr1
  have r3 : 0 ≤ r + 562949953421313 := by omega
  obtain ⟨sp, hsp⟩ : ∃ sp, (r + 562949953421313) % 562949953421313 = sp := ⟨_, rfl⟩
  have p0 : 0 ≤ sp := by rw [← hsp]; omega
  have p1 : sp < 562949953421313 := by rw [← hsp]; omega
  have HB := Lib.hid (And.intro b0 b1)
  have HT := Lib.hid (And.intro t0 t1)
  have HE := Lib.hid (And.intro hE (And.intro hS hT))
  clear b0 b1 t0 t1 hE hS hT
  go_enter Tryz.func11, Tryz.ntmps11
  go_wp2_with fail
  go_at_call 30
  have hba : Below w.heap.size w ((w.alloc (.cells #[.int .u8 x.key, .int .u8 x.ser, .int .u8 x.kind, .int .u8 x.more] 50)).alloc (.cells #[.int .u8 y.key, .int .u8 y.ser, .int .u8 y.kind, .int .u8 y.more] 50)) := ((Below.refl _ _).alloc (Nat.le_refl _) _).alloc (by simp) _
  refine (awake_calls _ (HE.out.1.below hba)).mono ?_
  rintro e w1 ⟨rfl, hb1⟩
  have hbx : w1.heap[w.heap.size]? = some (.cells #[.int .u8 x.key, .int .u8 x.ser, .int .u8 x.kind, .int .u8 x.more] 50 (0, 0)) := (hb1.block _ (by simp; omega)).trans ((Below.heap_alloc _ _ _ (by simp)).trans (heap_alloc_new w _))
  have hby : w1.heap[w.heap.size + 1]? = some (.cells #[.int .u8 y.key, .int .u8 y.ser, .int .u8 y.kind, .int .u8 y.more] 50 (0, 0)) := by
    have h := heap_alloc_new (w.alloc (.cells #[.int .u8 x.key, .int .u8 x.ser, .int .u8 x.kind, .int .u8 x.more] 50)) (.cells #[.int .u8 y.key, .int .u8 y.ser, .int .u8 y.kind, .int .u8 y.more] 50)
    exact (hb1.block _ (by simp)).trans (by simpa using h)
  have H1 := Lib.hid (And.intro hbx (And.intro hby (Bthen hba hb1)))
  have x0 := block_cell hbx 0 _ rfl
  have x1 := block_cell hbx 1 _ rfl
  have x2 := block_cell hbx 2 _ rfl
  have x3 := block_cell hbx 3 _ rfl
  clear hbx hby hba hb1
  go_wp2_with fail
  go_at_call 34
  refine (entry_calls x hx sp w1).mono ?_
  rintro e w2 ⟨a2, c2, rfl, hl2, hb2⟩
  obtain ⟨K1, hK1⟩ : ∃ K, K = keyS x := ⟨_, rfl⟩
  obtain ⟨L, hL⟩ : ∃ L, L = serN (x.ser % 3) := ⟨_, rfl⟩
  obtain ⟨mk, hmk⟩ : ∃ m, m = markS x := ⟨_, rfl⟩
  obtain ⟨sd, hsd⟩ : ∃ m, m = stS x := ⟨_, rfl⟩
  have hent : entS x sp = ⟨L, mk, if mk then 0 else x.kind, sd, if sd then x.more - 99 else 0, sp⟩ := by rw [hL, hmk, hsd]; rfl
  rw [hent] at hl2 ⊢
  rw [← hK1]
  dsimp only at hl2 ⊢
  have hby := (hb2.block _ (isT_of H1.out.2.1).lt).trans H1.out.2.1
  have y0 := block_cell hby 0 _ rfl
  have y1 := block_cell hby 1 _ rfl
  have y2 := block_cell hby 2 _ rfl
  have y3 := block_cell hby 3 _ rfl
  have hyl := (isT_of hby).lt
  have hyl2 : w.heap.size < w2.heap.size := by omega
  have H2 : Hid (Ll w2 a2 c2 L ∧ Below w.heap.size w w2) := Lib.hid ⟨hl2, Bthen H1.out.2.2 hb2⟩
  have hms : mk = true → sd = false := fun h => by rw [hsd]; unfold stS; rw [← hmk, h]; rfl
  have HF := Lib.hid (And.intro hL (And.intro hmk (And.intro hsd hK1)))
  clear hl2 hb2 hK1 hL hmk hsd hent hby x0 x1 x2 x3
  cases mk with
  | true =>
    obtain rfl := hms rfl
    clear hms
    have HEP : Hid ((⟨L, true, 0, false, 0, sp⟩ : Ent) = entP x sp bits time) := Lib.hid (by unfold entP; rw [← HF.out.1, ← HF.out.2.1, ← HF.out.2.2.1]; rfl)
    go_wp2_with fail
    go_at_call 34
    obtain ⟨w3, hw3⟩ : ∃ q, q = (w2.alloc (.cells #[.slice a2 L.length c2, .bool true, .int .u64 0, .bool false, .int .i64 0, .int .i64 sp] 59)).alloc (.cells #[.string K1, .slice a2 L.length c2, .bool true, .int .u64 0, .bool false, .int .i64 0, .int .i64 sp] 61) := ⟨_, rfl⟩
    rw [← hw3]
    have hb23 : Below w2.heap.size w2 w3 := by rw [hw3]; exact ((Below.refl _ _).alloc (Nat.le_refl _) _).alloc (by simp) _
    obtain ⟨bP, hbP⟩ : ∃ bP, bP = w2.heap.size + 1 := ⟨_, rfl⟩
    have hp3 : w3.heap[bP]? = some (.cells #[.string K1, .slice a2 L.length c2, .bool true, .int .u64 0, .bool false, .int .i64 0, .int .i64 sp] 61 (0, 0)) := by
      rw [hw3, hbP]
      have h := heap_alloc_new (w2.alloc (.cells #[.slice a2 L.length c2, .bool true, .int .u64 0, .bool false, .int .i64 0, .int .i64 sp] 59)) (.cells #[.string K1, .slice a2 L.length c2, .bool true, .int .u64 0, .bool false, .int .i64 0, .int .i64 sp] 61)
      simpa using h
    rw [← hbP]
    have H3 := Lib.hid (And.intro hp3 (And.intro (H2.out.1.below hb23 (Nat.le_refl _)) (Bthen H2.out.2 hb23)))
    have HQ3 : Hid (w3.heap[w2.heap.size]? = some (.cells #[.slice a2 L.length c2, .bool true, .int .u64 0, .bool false, .int .i64 0, .int .i64 sp] 59 (0, 0))) := Lib.hid (by rw [hw3]; exact (Below.heap_alloc _ _ _ (by simp)).trans (heap_alloc_new w2 _))
    clear hw3 hbP hb23 hp3
    refine (entry_calls y hy sp w3).mono ?_
    rintro e w4 ⟨a4, c4, rfl, hl4, hb4⟩
    obtain ⟨K2, hK2⟩ : ∃ K, K = keyS y := ⟨_, rfl⟩
    obtain ⟨e2, he2⟩ : ∃ e2, e2 = entS y sp := ⟨_, rfl⟩
    rw [← hK2, ← he2]
    rw [← he2] at hl4
    have hp4 := (hb4.block _ (isT_of H3.out.1).lt).trans H3.out.1
    have p0' := block_cell hp4 0 _ rfl
    have p1' := block_cell hp4 1 _ rfl
    have p2' := block_cell hp4 2 _ rfl
    have p3' := block_cell hp4 3 _ rfl
    have p4' := block_cell hp4 4 _ rfl
    have p5' := block_cell hp4 5 _ rfl
    have p6' := block_cell hp4 6 _ rfl
    have hpl := (isT_of hp4).lt
    have HK2 := Lib.hid (And.intro hK2 (And.intro he2 (And.intro hl4 (And.intro hp4 (And.intro (H3.out.2.1.below hb4 (Nat.le_refl _)) (Bthen H3.out.2.2 hb4))))))
    have HQ4 := Lib.hid ((hb4.block _ (isT_of HQ3.out).lt).trans HQ3.out)
    clear hK2 he2 hl4 hb4 hp4 H3
    go_wp2_with fail
    go_at_call 51
    obtain ⟨w5, hw5⟩ : ∃ q, q = (w4.alloc (.cells #[.slice a4 e2.lab.length c4, .bool e2.mark, .int .u64 e2.bits, .bool e2.st, .int .i64 e2.time, .int .i64 e2.stamp] 59)).alloc (.cells #[.string K2, .slice a4 e2.lab.length c4, .bool e2.mark, .int .u64 e2.bits, .bool e2.st, .int .i64 e2.time, .int .i64 e2.stamp] 61) := ⟨_, rfl⟩
    rw [← hw5]
    have hb45 : Below w4.heap.size w4 w5 := by rw [hw5]; exact ((Below.refl _ _).alloc (Nat.le_refl _) _).alloc (by simp) _
    obtain ⟨bQ, hbQ⟩ : ∃ bQ, bQ = w4.heap.size + 1 := ⟨_, rfl⟩
    have hq5 : w5.heap[bQ]? = some (.cells #[.string K2, .slice a4 e2.lab.length c4, .bool e2.mark, .int .u64 e2.bits, .bool e2.st, .int .i64 e2.time, .int .i64 e2.stamp] 61 (0, 0)) := by
      rw [hw5, hbQ]
      have h := heap_alloc_new (w4.alloc (.cells #[.slice a4 e2.lab.length c4, .bool e2.mark, .int .u64 e2.bits, .bool e2.st, .int .i64 e2.time, .int .i64 e2.stamp] 59)) (.cells #[.string K2, .slice a4 e2.lab.length c4, .bool e2.mark, .int .u64 e2.bits, .bool e2.st, .int .i64 e2.time, .int .i64 e2.stamp] 61)
      simpa using h
    rw [← hbQ]
    have hp5 := (hb45.block _ (isT_of HK2.out.2.2.2.1).lt).trans HK2.out.2.2.2.1
    have H5 := Lib.hid (And.intro hp5 (And.intro hq5 (And.intro (HK2.out.2.2.2.2.1.below hb45 (Nat.le_refl _)) (And.intro (HK2.out.2.2.1.below hb45 (Nat.le_refl _)) (Bthen HK2.out.2.2.2.2.2 hb45)))))
    have HQ5 := Lib.hid ((hb45.block _ (isT_of HQ4.out).lt).trans HQ4.out)
    have HK := Lib.hid (And.intro HK2.out.1 HK2.out.2.1)
    clear hw5 hbQ hb45 hq5 hp5 p0' p1' p2' p3' p4' p5' p6' HK2 hpl
    have hr1 : itemRight (d K1) (⟨L, true, 0, false, 0, sp⟩ : Ent) = true := by rw [HEP.out, HF.out.2.2.2]; exact entP_right x (by omega) (by omega)
    have hi1 : EntIn (⟨L, true, 0, false, 0, sp⟩ : Ent) := by rw [HEP.out]; exact entP_in x (by omega) (by omega) HB.out.1 HB.out.2 HT.out.1 HT.out.2
    have hLL : labRight L = true := by rw [HF.out.1]; exact serN_right _
    have hLn : L.length ≤ 64 := (labRight_ok hLL).1
    have hLz : ∀ z ∈ L, z.2.size ≤ 4611686018427387904 := fun z hz => by
      have h3 := ((labRight_ok hLL).2 z hz).2
      simp only [d, Array.length_toList] at h3
      have h4 : z.2.size ≤ 1024 := h3
      omega
    have hK1 : K1.size ≤ 1000000 := by rw [HF.out.2.2.2]; exact keyS_le x
    have hr2 : itemRight (d K2) e2 = true := by rw [HK.out.1, HK.out.2, entS_P]; exact entP_right y (by omega) (by omega)
    have hi2 : EntIn e2 := by rw [HK.out.2, entS_P]; exact entP_in y (by omega) (by omega) (by have := hy.d0; omega) (by have := hy.d1; omega) (by have := hy.m0; omega) (by have := hy.m1; omega)
    have h2L : labRight e2.lab = true := right_lab hr2
    have h2n : e2.lab.length ≤ 64 := (labRight_ok h2L).1
    have h2z : ∀ z ∈ e2.lab, z.2.size ≤ 4611686018427387904 := fun z hz => by
      have h3 := ((labRight_ok h2L).2 z hz).2
      simp only [d, Array.length_toList] at h3
      have h4 : z.2.size ≤ 1024 := h3
      omega
    have hK2 : K2.size ≤ 1000000 := by rw [HK.out.1]; exact keyS_le y
    have HR := Lib.hid (And.intro hr1 (And.intro hi1 (And.intro hLz (And.intro hr2 (And.intro hi2 (And.intro h2z (And.intro hLL h2L)))))))
    have hcall := text_calls K1 a2 c2 (⟨L, true, 0, false, 0, sp⟩ : Ent) w5 (HE.out.1.below H5.out.2.2.2.2) hi1 (by omega) H5.out.2.2.1.rd (by show L.length ≤ _; omega) hLz
    rw [show textErr (d K1) (⟨L, true, 0, false, 0, sp⟩ : Ent) = 0 by unfold textErr; rw [hr1]; rfl, show textT (d K1) (⟨L, true, 0, false, 0, sp⟩ : Ent) = textR (d K1) (⟨L, true, 0, false, 0, sp⟩ : Ent) by unfold textT; rw [hr1]; rfl] at hcall
    obtain ⟨T1, hT1⟩ : ∃ T : ByteArray, T = ⟨(textR (d K1) (⟨L, true, 0, false, 0, sp⟩ : Ent)).toArray⟩ := ⟨_, rfl⟩
    rw [← hT1] at hcall
    have hd1 : d T1 = textR (d K1) (⟨L, true, 0, false, 0, sp⟩ : Ent) := by rw [hT1]
    clear hT1 hr1 hi1 hLL hLz hr2 hi2 h2L h2z
    refine hcall.mono ?_
    clear hcall
    rintro e w6 ⟨rfl, hb6⟩
    have hq6 := (hb6.block _ (isT_of H5.out.2.1).lt).trans H5.out.2.1
    have hp6 := (hb6.block _ (isT_of H5.out.1).lt).trans H5.out.1
    have q0' := block_cell hq6 0 _ rfl
    have q1' := block_cell hq6 1 _ rfl
    have q2' := block_cell hq6 2 _ rfl
    have q3' := block_cell hq6 3 _ rfl
    have q4' := block_cell hq6 4 _ rfl
    have q5' := block_cell hq6 5 _ rfl
    have q6' := block_cell hq6 6 _ rfl
    have hql := (isT_of hq6).lt
    have H6 := Lib.hid (And.intro hp6 (And.intro hq6 (And.intro (H5.out.2.2.1.below hb6 (Nat.le_refl _)) (And.intro (H5.out.2.2.2.1.below hb6 (Nat.le_refl _)) (Bthen H5.out.2.2.2.2 hb6)))))
    have HQ6 := Lib.hid ((hb6.block _ (isT_of HQ5.out).lt).trans HQ5.out)
    clear hb6 hq6 hp6 H5
    go_wp2_with fail
    go_at_call 51
    have hcall := text_calls K2 a4 c4 e2 w6 (HE.out.1.below H6.out.2.2.2.2) HR.out.2.2.2.2.1 (by omega) H6.out.2.2.2.1.rd (by omega) HR.out.2.2.2.2.2.1
    rw [show textErr (d K2) e2 = 0 by unfold textErr; rw [HR.out.2.2.2.1]; rfl, show textT (d K2) e2 = textR (d K2) e2 by unfold textT; rw [HR.out.2.2.2.1]; rfl] at hcall
    obtain ⟨T2, hT2⟩ : ∃ T : ByteArray, T = ⟨(textR (d K2) e2).toArray⟩ := ⟨_, rfl⟩
    rw [← hT2] at hcall
    have hd2 : d T2 = textR (d K2) e2 := by rw [hT2]
    have HD := Lib.hid (And.intro hd1 hd2)
    clear hT2 hd1 hd2
    refine hcall.mono ?_
    clear hcall
    rintro e w7 ⟨rfl, hb7⟩
    have H7 := Lib.hid (And.intro ((hb7.block _ (isT_of H6.out.1).lt).trans H6.out.1) (And.intro ((hb7.block _ (isT_of H6.out.2.1).lt).trans H6.out.2.1) (And.intro (H6.out.2.2.1.below hb7 (Nat.le_refl _)) (And.intro (H6.out.2.2.2.1.below hb7 (Nat.le_refl _)) (Bthen H6.out.2.2.2.2 hb7)))))
    have HQ7 := Lib.hid ((hb7.block _ (isT_of HQ6.out).lt).trans HQ6.out)
    clear hb7 q0' q1' q2' q3' q4' q5' q6' hql H6
    go_wp2_with fail
    go_at_call 52
    have hT1z : T1.size ≤ 2500 := by
      have h1 : T1.size = (d T1).length := by simp [d]
      rw [h1, HD.out.1]
      exact text_small HR.out.2.1 (by rw [HF.out.2.2.2]; exact keyS_small x) (by rw [show ((⟨L, true, 0, false, 0, sp⟩ : Ent)).lab = L from rfl, HF.out.1]; exact serN_small _)
    refine (read_calls T1 (by omega) w7 (HE.out.1.below H7.out.2.2.2.2) (HE.out.2.1.below H7.out.2.2.2.2)).mono ?_
    rintro e w8 ⟨hrd, hb8⟩
    obtain ⟨a8, c8, rfl, hl8⟩ : ∃ a8 c8, e = .returned (.tuple #[itAgg K1 a8 c8 (⟨L, true, 0, false, 0, sp⟩ : Ent), .int .i64 0]) ∧ Ll w8 a8 c8 L := by
      rcases hrd with ⟨key, la, lc, en, h1, h2, h3, h4, h5, _⟩ | ⟨_, h2⟩
      · obtain ⟨q1, q2⟩ := text_inj h2 HR.out.1 h3 HR.out.2.1 (h4.trans HD.out.1)
        obtain rfl := data_inj q1
        subst q2
        exact ⟨la, lc, h1, h5⟩
      · exact absurd HD.out.1.symm (h2 _ _ HR.out.1 HR.out.2.1)
    have H8 := Lib.hid (And.intro ((hb8.block _ (isT_of H7.out.1).lt).trans H7.out.1) (And.intro ((hb8.block _ (isT_of H7.out.2.1).lt).trans H7.out.2.1) (And.intro (H7.out.2.2.1.below hb8 (Nat.le_refl _)) (And.intro (H7.out.2.2.2.1.below hb8 (Nat.le_refl _)) (And.intro hl8 (Bthen H7.out.2.2.2.2 hb8))))))
    have hq9 := (hb8.block _ (isT_of HQ7.out).lt).trans HQ7.out
    have me1 := block_cell hq9 1 _ rfl
    have mel := (isT_of hq9).lt
    have hp8 := H8.out.1
    have hq8 := H8.out.2.1
    have p0' := block_cell hp8 0 _ rfl
    have p1' := block_cell hp8 1 _ rfl
    have p2' := block_cell hp8 2 _ rfl
    have p3' := block_cell hp8 3 _ rfl
    have p4' := block_cell hp8 4 _ rfl
    have p5' := block_cell hp8 5 _ rfl
    have p6' := block_cell hp8 6 _ rfl
    have q0' := block_cell hq8 0 _ rfl
    have q1' := block_cell hq8 1 _ rfl
    have q2' := block_cell hq8 2 _ rfl
    have q3' := block_cell hq8 3 _ rfl
    have q4' := block_cell hq8 4 _ rfl
    have q5' := block_cell hq8 5 _ rfl
    have q6' := block_cell hq8 6 _ rfl
    have hpl := (isT_of hp8).lt
    have hql := (isT_of hq8).lt
    clear hrd hb8 hl8 H7 hp8 hq8 hq9 HQ3 HQ4 HQ5 HQ6 HQ7
    go_wp2_with fail
    go_at_call 36
    have h8C : Below w8.heap.size w8 (((w8.alloc (.cells #[.string K1, .slice a8 L.length c8, .bool true, .int .u64 0, .bool false, .int .i64 0, .int .i64 sp] 61)).alloc (.cells #[.string K1, .slice a8 L.length c8, .bool true, .int .u64 0, .bool false, .int .i64 0, .int .i64 sp] 61)).alloc (.cells #[.string K1, .slice a2 L.length c2, .bool true, .int .u64 0, .bool false, .int .i64 0, .int .i64 sp] 61)) := (((Below.refl _ _).alloc (Nat.le_refl _) _).alloc (by simp) _).alloc (by simp; omega) _
    have hA := RdI.new (w8.alloc (.cells #[.string K1, .slice a8 L.length c8, .bool true, .int .u64 0, .bool false, .int .i64 0, .int .i64 sp] 61)) [⟨K1, a8, c8, (⟨L, true, 0, false, 0, sp⟩ : Ent)⟩] #[.string K1, .slice a8 L.length c8, .bool true, .int .u64 0, .bool false, .int .i64 0, .int .i64 sp] rfl (fun z hz => by obtain rfl := List.mem_singleton.1 hz; exact H8.out.2.2.2.2.1.below ((Below.refl _ _).alloc (Nat.le_refl _) _) (Nat.le_refl _))
    have hA2 := hA.below ((Below.refl _ _).alloc (Nat.le_refl _) (.cells #[.string K1, .slice a2 L.length c2, .bool true, .int .u64 0, .bool false, .int .i64 0, .int .i64 sp] 61)) (Nat.le_refl _)
    have hC := RdI.new ((w8.alloc (.cells #[.string K1, .slice a8 L.length c8, .bool true, .int .u64 0, .bool false, .int .i64 0, .int .i64 sp] 61)).alloc (.cells #[.string K1, .slice a8 L.length c8, .bool true, .int .u64 0, .bool false, .int .i64 0, .int .i64 sp] 61)) [⟨K1, a2, c2, (⟨L, true, 0, false, 0, sp⟩ : Ent)⟩] #[.string K1, .slice a2 L.length c2, .bool true, .int .u64 0, .bool false, .int .i64 0, .int .i64 sp] rfl (fun z hz => by obtain rfl := List.mem_singleton.1 hz; exact H8.out.2.2.1.below (((Below.refl _ _).alloc (Nat.le_refl _) _).alloc (by simp) _) (Nat.le_refl _))
    simp only [World.size_alloc] at hA2 hC
    have hcall := items_yes _ _ 1 1 _ _ _ hA2 hC (fun z hz => by obtain rfl := List.mem_singleton.1 hz; show L.length ≤ _; omega) (by simp) rfl
    simp only [List.length_cons, List.length_nil, Nat.zero_add] at hcall
    refine hcall.mono ?_
    clear hcall hA hA2 hC p0' p1' p2' p3' p4' p5' p6' q0' q1' q2' q3' q4' q5' q6'
    rintro e w9 ⟨rfl, hb9⟩
    have h89 : Below w8.heap.size w8 w9 := Bthen h8C hb9
    have hp9 := (h89.block _ (isT_of H8.out.1).lt).trans H8.out.1
    have hq9 := (h89.block _ (isT_of H8.out.2.1).lt).trans H8.out.2.1
    have p0' := block_cell hp9 0 _ rfl
    have p1' := block_cell hp9 1 _ rfl
    have p2' := block_cell hp9 2 _ rfl
    have p3' := block_cell hp9 3 _ rfl
    have p4' := block_cell hp9 4 _ rfl
    have p5' := block_cell hp9 5 _ rfl
    have p6' := block_cell hp9 6 _ rfl
    have q0' := block_cell hq9 0 _ rfl
    have q1' := block_cell hq9 1 _ rfl
    have q2' := block_cell hq9 2 _ rfl
    have q3' := block_cell hq9 3 _ rfl
    have q4' := block_cell hq9 4 _ rfl
    have q5' := block_cell hq9 5 _ rfl
    have q6' := block_cell hq9 6 _ rfl
    have hpl := (isT_of hp9).lt
    have hql := (isT_of hq9).lt
    have HP9 := Lib.hid (And.intro hp9 (And.intro (H8.out.2.2.1.below h89 (Nat.le_refl _)) (And.intro (H8.out.2.2.2.1.below h89 (Nat.le_refl _)) (Bthen H8.out.2.2.2.2.2 h89))))
    clear h8C h89 hb9 hp9 hq9 me1 mel H8
    by_cases hpq : K1 = K2 ∧ (⟨L, true, 0, false, 0, sp⟩ : Ent) = e2
    · have hq1 : (T1.toList == T2.toList) = true := beq_iff_eq.2 (by
        rw [ByteArray.toList_eq, ByteArray.toList_eq]
        show d T1 = d T2
        rw [HD.out.1, HD.out.2, hpq.1, hpq.2])
      have HPQ := Lib.hid hpq
      clear hpq
      go_wp2_with fail
      go_at_call 36
      have hA := RdI.new w9 [⟨K1, a2, c2, (⟨L, true, 0, false, 0, sp⟩ : Ent)⟩] #[.string K1, .slice a2 L.length c2, .bool true, .int .u64 0, .bool false, .int .i64 0, .int .i64 sp] rfl (fun z hz => by obtain rfl := List.mem_singleton.1 hz; exact HP9.out.2.1)
      have hA2 := hA.below ((Below.refl _ _).alloc (Nat.le_refl _) (.cells #[.string K2, .slice a4 e2.lab.length c4, .bool e2.mark, .int .u64 e2.bits, .bool e2.st, .int .i64 e2.time, .int .i64 e2.stamp] 61)) (Nat.le_refl _)
      have hC := RdI.new (w9.alloc (.cells #[.string K1, .slice a2 L.length c2, .bool true, .int .u64 0, .bool false, .int .i64 0, .int .i64 sp] 61)) [⟨K2, a4, c4, e2⟩] #[.string K2, .slice a4 e2.lab.length c4, .bool e2.mark, .int .u64 e2.bits, .bool e2.st, .int .i64 e2.time, .int .i64 e2.stamp] rfl (fun z hz => by obtain rfl := List.mem_singleton.1 hz; exact HP9.out.2.2.1.below ((Below.refl _ _).alloc (Nat.le_refl _) _) (Nat.le_refl _))
      simp only [World.size_alloc] at hC
      have hcall := items_yes _ _ 1 1 _ _ _ hA2 hC (fun z hz => by obtain rfl := List.mem_singleton.1 hz; show L.length ≤ _; omega) (by simp) (by simp only [List.map_cons, List.map_nil, List.cons.injEq, and_true]; exact it_of HPQ.out.1 HPQ.out.2)
      simp only [List.length_cons, List.length_nil, Nat.zero_add] at hcall
      refine hcall.mono ?_
      clear hcall hA hA2 hC p0' p1' p2' p3' p4' p5' p6' q0' q1' q2' q3' q4' q5' q6' hpl hql
      rintro e w11 ⟨rfl, hb11⟩
      replace hb11 : Below w9.heap.size w9 w11 := Bthen (((Below.refl _ _).alloc (Nat.le_refl _) _).alloc (by simp) _) hb11
      have hs11 := hb11.size
      have hp11 := (hb11.block _ (isT_of HP9.out.1).lt).trans HP9.out.1
      have p0' := block_cell hp11 0 _ rfl
      have p1' := block_cell hp11 1 _ rfl
      have p2' := block_cell hp11 2 _ rfl
      have p3' := block_cell hp11 3 _ rfl
      have p4' := block_cell hp11 4 _ rfl
      have p5' := block_cell hp11 5 _ rfl
      have p6' := block_cell hp11 6 _ rfl
      have hpl := (isT_of hp11).lt
      have HL11 := Lib.hid (And.intro (HP9.out.2.1.below hb11 (Nat.le_refl _)) (Bthen HP9.out.2.2.2 hb11))
      clear hb11 hp11 hs11
      go_wp2_with fail
      go_at_call 53
      have hcall := Tryz.strings_Fields_laid T1 w11 (by omega) (fun j b hj => text_ascii (d K1) (⟨L, true, 0, false, 0, sp⟩ : Ent) HR.out.2.1.b1 b (by have := List.mem_of_getElem? hj; rw [← HD.out.1]; exact this)) (Lib.tabBelow_of_tabIs HE.out.2.2 w11 HL11.out.2)
      rw [show Go.Lib.fields T1.data.toList = wordsT (d K1) (⟨L, true, 0, false, 0, sp⟩ : Ent) by rw [← fields_text _ _ HR.out.2.1.b1, ← HD.out.1]] at hcall
      rw [show (wordsT (d K1) (⟨L, true, 0, false, 0, sp⟩ : Ent)).length = 4 from words_len _ _] at hcall
      refine hcall.mono ?_
      clear hcall
      rintro e w12 ⟨rfl, hw12⟩
      have hb12 : Below w11.heap.size w11 w12 := by rw [hw12]; exact (Below.refl _ _).alloc (Nat.le_refl _) _
      have p0' := (hb12.cell (p := ⟨bP, 0, none⟩) hpl).trans p0'
      have p1' := (hb12.cell (p := ⟨bP, 1, none⟩) hpl).trans p1'
      have p2' := (hb12.cell (p := ⟨bP, 2, none⟩) hpl).trans p2'
      have p3' := (hb12.cell (p := ⟨bP, 3, none⟩) hpl).trans p3'
      have p4' := (hb12.cell (p := ⟨bP, 4, none⟩) hpl).trans p4'
      have p5' := (hb12.cell (p := ⟨bP, 5, none⟩) hpl).trans p5'
      have p6' := (hb12.cell (p := ⟨bP, 6, none⟩) hpl).trans p6'
      have HL12 := Lib.hid (And.intro (HL11.out.1.below hb12 (Nat.le_refl _)) (Bthen HL11.out.2 hb12))
      clear hw12 hb12
      go_wp2_with fail
      go_at_call 54
      refine (sright_calls K1 a2 c2 (⟨L, true, 0, false, 0, sp⟩ : Ent) w12 (by omega) HL12.out.1.rd (by show L.length ≤ _; omega) HR.out.2.2.1 (HE.out.1.below HL12.out.2).kv).mono ?_
      rintro e w13 ⟨rfl, hb13⟩
      rw [HR.out.1]
      have HF13 := Lib.hid (Bthen HL12.out.2 hb13)
      clear hb13
      go_wp2_with fail
      go_ret
      exact ⟨rfl, HF13.out⟩
    · have hq1 : (T1.toList == T2.toList) = false := beq_eq_false_iff_ne.2 (fun e => by
        rw [ByteArray.toList_eq, ByteArray.toList_eq] at e
        have e2' : d T1 = d T2 := e
        rw [HD.out.1, HD.out.2] at e2'
        obtain ⟨z1, z2⟩ := text_inj HR.out.1 HR.out.2.2.2.1 HR.out.2.1 HR.out.2.2.2.2.1 e2'
        exact hpq ⟨data_inj z1, z2⟩)
      have HPQ := Lib.hid hpq
      clear hpq
      go_wp2_with fail
      go_at_call 36
      have hA := RdI.new w9 [⟨K1, a2, c2, (⟨L, true, 0, false, 0, sp⟩ : Ent)⟩] #[.string K1, .slice a2 L.length c2, .bool true, .int .u64 0, .bool false, .int .i64 0, .int .i64 sp] rfl (fun z hz => by obtain rfl := List.mem_singleton.1 hz; exact HP9.out.2.1)
      have hA2 := hA.below ((Below.refl _ _).alloc (Nat.le_refl _) (.cells #[.string K2, .slice a4 e2.lab.length c4, .bool e2.mark, .int .u64 e2.bits, .bool e2.st, .int .i64 e2.time, .int .i64 e2.stamp] 61)) (Nat.le_refl _)
      have hC := RdI.new (w9.alloc (.cells #[.string K1, .slice a2 L.length c2, .bool true, .int .u64 0, .bool false, .int .i64 0, .int .i64 sp] 61)) [⟨K2, a4, c4, e2⟩] #[.string K2, .slice a4 e2.lab.length c4, .bool e2.mark, .int .u64 e2.bits, .bool e2.st, .int .i64 e2.time, .int .i64 e2.stamp] rfl (fun z hz => by obtain rfl := List.mem_singleton.1 hz; exact HP9.out.2.2.1.below ((Below.refl _ _).alloc (Nat.le_refl _) _) (Nat.le_refl _))
      simp only [World.size_alloc] at hC
      have hcall := items1_no _ _ 1 1 _ _ _ hA2 hC (by show L.length ≤ _; omega) (fun e => by
        simp only [SI.it, It.mk.injEq] at e
        exact HPQ.out ⟨e.1, e.2⟩)
      refine hcall.mono ?_
      clear hcall hA hA2 hC p0' p1' p2' p3' p4' p5' p6' q0' q1' q2' q3' q4' q5' q6' hpl hql
      rintro e w11 ⟨rfl, hb11⟩
      replace hb11 : Below w9.heap.size w9 w11 := Bthen (((Below.refl _ _).alloc (Nat.le_refl _) _).alloc (by simp) _) hb11
      have hs11 := hb11.size
      have hp11 := (hb11.block _ (isT_of HP9.out.1).lt).trans HP9.out.1
      have p0' := block_cell hp11 0 _ rfl
      have p1' := block_cell hp11 1 _ rfl
      have p2' := block_cell hp11 2 _ rfl
      have p3' := block_cell hp11 3 _ rfl
      have p4' := block_cell hp11 4 _ rfl
      have p5' := block_cell hp11 5 _ rfl
      have p6' := block_cell hp11 6 _ rfl
      have hpl := (isT_of hp11).lt
      have HL11 := Lib.hid (And.intro (HP9.out.2.1.below hb11 (Nat.le_refl _)) (Bthen HP9.out.2.2.2 hb11))
      clear hb11 hp11 hs11
      go_wp2_with fail
      go_at_call 53
      have hcall := Tryz.strings_Fields_laid T1 w11 (by omega) (fun j b hj => text_ascii (d K1) (⟨L, true, 0, false, 0, sp⟩ : Ent) HR.out.2.1.b1 b (by have := List.mem_of_getElem? hj; rw [← HD.out.1]; exact this)) (Lib.tabBelow_of_tabIs HE.out.2.2 w11 HL11.out.2)
      rw [show Go.Lib.fields T1.data.toList = wordsT (d K1) (⟨L, true, 0, false, 0, sp⟩ : Ent) by rw [← fields_text _ _ HR.out.2.1.b1, ← HD.out.1]] at hcall
      rw [show (wordsT (d K1) (⟨L, true, 0, false, 0, sp⟩ : Ent)).length = 4 from words_len _ _] at hcall
      refine hcall.mono ?_
      clear hcall
      rintro e w12 ⟨rfl, hw12⟩
      have hb12 : Below w11.heap.size w11 w12 := by rw [hw12]; exact (Below.refl _ _).alloc (Nat.le_refl _) _
      have p0' := (hb12.cell (p := ⟨bP, 0, none⟩) hpl).trans p0'
      have p1' := (hb12.cell (p := ⟨bP, 1, none⟩) hpl).trans p1'
      have p2' := (hb12.cell (p := ⟨bP, 2, none⟩) hpl).trans p2'
      have p3' := (hb12.cell (p := ⟨bP, 3, none⟩) hpl).trans p3'
      have p4' := (hb12.cell (p := ⟨bP, 4, none⟩) hpl).trans p4'
      have p5' := (hb12.cell (p := ⟨bP, 5, none⟩) hpl).trans p5'
      have p6' := (hb12.cell (p := ⟨bP, 6, none⟩) hpl).trans p6'
      have HL12 := Lib.hid (And.intro (HL11.out.1.below hb12 (Nat.le_refl _)) (Bthen HL11.out.2 hb12))
      clear hw12 hb12
      go_wp2_with fail
      go_at_call 54
      refine (sright_calls K1 a2 c2 (⟨L, true, 0, false, 0, sp⟩ : Ent) w12 (by omega) HL12.out.1.rd (by show L.length ≤ _; omega) HR.out.2.2.1 (HE.out.1.below HL12.out.2).kv).mono ?_
      rintro e w13 ⟨rfl, hb13⟩
      rw [HR.out.1]
      have HF13 := Lib.hid (Bthen HL12.out.2 hb13)
      clear hb13
      go_wp2_with fail
      go_ret
      exact ⟨rfl, HF13.out⟩
  | false =>
    clear hms
    cases sd with
    | true =>
      have HEP : Hid ((⟨L, false, bits, true, time, sp⟩ : Ent) = entP x sp bits time) := Lib.hid (by unfold entP; rw [← HF.out.1, ← HF.out.2.1, ← HF.out.2.2.1]; rfl)
      go_wp2_with fail
      go_at_call 34
      obtain ⟨w3, hw3⟩ : ∃ q, q = (w2.alloc (.cells #[.slice a2 L.length c2, .bool false, .int .u64 bits, .bool true, .int .i64 time, .int .i64 sp] 59)).alloc (.cells #[.string K1, .slice a2 L.length c2, .bool false, .int .u64 bits, .bool true, .int .i64 time, .int .i64 sp] 61) := ⟨_, rfl⟩
      rw [← hw3]
      have hb23 : Below w2.heap.size w2 w3 := by rw [hw3]; exact ((Below.refl _ _).alloc (Nat.le_refl _) _).alloc (by simp) _
      obtain ⟨bP, hbP⟩ : ∃ bP, bP = w2.heap.size + 1 := ⟨_, rfl⟩
      have hp3 : w3.heap[bP]? = some (.cells #[.string K1, .slice a2 L.length c2, .bool false, .int .u64 bits, .bool true, .int .i64 time, .int .i64 sp] 61 (0, 0)) := by
        rw [hw3, hbP]
        have h := heap_alloc_new (w2.alloc (.cells #[.slice a2 L.length c2, .bool false, .int .u64 bits, .bool true, .int .i64 time, .int .i64 sp] 59)) (.cells #[.string K1, .slice a2 L.length c2, .bool false, .int .u64 bits, .bool true, .int .i64 time, .int .i64 sp] 61)
        simpa using h
      rw [← hbP]
      have H3 := Lib.hid (And.intro hp3 (And.intro (H2.out.1.below hb23 (Nat.le_refl _)) (Bthen H2.out.2 hb23)))
      have HQ3 : Hid (w3.heap[w2.heap.size]? = some (.cells #[.slice a2 L.length c2, .bool false, .int .u64 bits, .bool true, .int .i64 time, .int .i64 sp] 59 (0, 0))) := Lib.hid (by rw [hw3]; exact (Below.heap_alloc _ _ _ (by simp)).trans (heap_alloc_new w2 _))
      clear hw3 hbP hb23 hp3
      refine (entry_calls y hy sp w3).mono ?_
      rintro e w4 ⟨a4, c4, rfl, hl4, hb4⟩
      obtain ⟨K2, hK2⟩ : ∃ K, K = keyS y := ⟨_, rfl⟩
      obtain ⟨e2, he2⟩ : ∃ e2, e2 = entS y sp := ⟨_, rfl⟩
      rw [← hK2, ← he2]
      rw [← he2] at hl4
      have hp4 := (hb4.block _ (isT_of H3.out.1).lt).trans H3.out.1
      have p0' := block_cell hp4 0 _ rfl
      have p1' := block_cell hp4 1 _ rfl
      have p2' := block_cell hp4 2 _ rfl
      have p3' := block_cell hp4 3 _ rfl
      have p4' := block_cell hp4 4 _ rfl
      have p5' := block_cell hp4 5 _ rfl
      have p6' := block_cell hp4 6 _ rfl
      have hpl := (isT_of hp4).lt
      have HK2 := Lib.hid (And.intro hK2 (And.intro he2 (And.intro hl4 (And.intro hp4 (And.intro (H3.out.2.1.below hb4 (Nat.le_refl _)) (Bthen H3.out.2.2 hb4))))))
      have HQ4 := Lib.hid ((hb4.block _ (isT_of HQ3.out).lt).trans HQ3.out)
      clear hK2 he2 hl4 hb4 hp4 H3
      go_wp2_with fail
      go_at_call 51
      obtain ⟨w5, hw5⟩ : ∃ q, q = (w4.alloc (.cells #[.slice a4 e2.lab.length c4, .bool e2.mark, .int .u64 e2.bits, .bool e2.st, .int .i64 e2.time, .int .i64 e2.stamp] 59)).alloc (.cells #[.string K2, .slice a4 e2.lab.length c4, .bool e2.mark, .int .u64 e2.bits, .bool e2.st, .int .i64 e2.time, .int .i64 e2.stamp] 61) := ⟨_, rfl⟩
      rw [← hw5]
      have hb45 : Below w4.heap.size w4 w5 := by rw [hw5]; exact ((Below.refl _ _).alloc (Nat.le_refl _) _).alloc (by simp) _
      obtain ⟨bQ, hbQ⟩ : ∃ bQ, bQ = w4.heap.size + 1 := ⟨_, rfl⟩
      have hq5 : w5.heap[bQ]? = some (.cells #[.string K2, .slice a4 e2.lab.length c4, .bool e2.mark, .int .u64 e2.bits, .bool e2.st, .int .i64 e2.time, .int .i64 e2.stamp] 61 (0, 0)) := by
        rw [hw5, hbQ]
        have h := heap_alloc_new (w4.alloc (.cells #[.slice a4 e2.lab.length c4, .bool e2.mark, .int .u64 e2.bits, .bool e2.st, .int .i64 e2.time, .int .i64 e2.stamp] 59)) (.cells #[.string K2, .slice a4 e2.lab.length c4, .bool e2.mark, .int .u64 e2.bits, .bool e2.st, .int .i64 e2.time, .int .i64 e2.stamp] 61)
        simpa using h
      rw [← hbQ]
      have hp5 := (hb45.block _ (isT_of HK2.out.2.2.2.1).lt).trans HK2.out.2.2.2.1
      have H5 := Lib.hid (And.intro hp5 (And.intro hq5 (And.intro (HK2.out.2.2.2.2.1.below hb45 (Nat.le_refl _)) (And.intro (HK2.out.2.2.1.below hb45 (Nat.le_refl _)) (Bthen HK2.out.2.2.2.2.2 hb45)))))
      have HQ5 := Lib.hid ((hb45.block _ (isT_of HQ4.out).lt).trans HQ4.out)
      have HK := Lib.hid (And.intro HK2.out.1 HK2.out.2.1)
      clear hw5 hbQ hb45 hq5 hp5 p0' p1' p2' p3' p4' p5' p6' HK2 hpl
      have hr1 : itemRight (d K1) (⟨L, false, bits, true, time, sp⟩ : Ent) = true := by rw [HEP.out, HF.out.2.2.2]; exact entP_right x (by omega) (by omega)
      have hi1 : EntIn (⟨L, false, bits, true, time, sp⟩ : Ent) := by rw [HEP.out]; exact entP_in x (by omega) (by omega) HB.out.1 HB.out.2 HT.out.1 HT.out.2
      have hLL : labRight L = true := by rw [HF.out.1]; exact serN_right _
      have hLn : L.length ≤ 64 := (labRight_ok hLL).1
      have hLz : ∀ z ∈ L, z.2.size ≤ 4611686018427387904 := fun z hz => by
        have h3 := ((labRight_ok hLL).2 z hz).2
        simp only [d, Array.length_toList] at h3
        have h4 : z.2.size ≤ 1024 := h3
        omega
      have hK1 : K1.size ≤ 1000000 := by rw [HF.out.2.2.2]; exact keyS_le x
      have hr2 : itemRight (d K2) e2 = true := by rw [HK.out.1, HK.out.2, entS_P]; exact entP_right y (by omega) (by omega)
      have hi2 : EntIn e2 := by rw [HK.out.2, entS_P]; exact entP_in y (by omega) (by omega) (by have := hy.d0; omega) (by have := hy.d1; omega) (by have := hy.m0; omega) (by have := hy.m1; omega)
      have h2L : labRight e2.lab = true := right_lab hr2
      have h2n : e2.lab.length ≤ 64 := (labRight_ok h2L).1
      have h2z : ∀ z ∈ e2.lab, z.2.size ≤ 4611686018427387904 := fun z hz => by
        have h3 := ((labRight_ok h2L).2 z hz).2
        simp only [d, Array.length_toList] at h3
        have h4 : z.2.size ≤ 1024 := h3
        omega
      have hK2 : K2.size ≤ 1000000 := by rw [HK.out.1]; exact keyS_le y
      have HR := Lib.hid (And.intro hr1 (And.intro hi1 (And.intro hLz (And.intro hr2 (And.intro hi2 (And.intro h2z (And.intro hLL h2L)))))))
      have hcall := text_calls K1 a2 c2 (⟨L, false, bits, true, time, sp⟩ : Ent) w5 (HE.out.1.below H5.out.2.2.2.2) hi1 (by omega) H5.out.2.2.1.rd (by show L.length ≤ _; omega) hLz
      rw [show textErr (d K1) (⟨L, false, bits, true, time, sp⟩ : Ent) = 0 by unfold textErr; rw [hr1]; rfl, show textT (d K1) (⟨L, false, bits, true, time, sp⟩ : Ent) = textR (d K1) (⟨L, false, bits, true, time, sp⟩ : Ent) by unfold textT; rw [hr1]; rfl] at hcall
      obtain ⟨T1, hT1⟩ : ∃ T : ByteArray, T = ⟨(textR (d K1) (⟨L, false, bits, true, time, sp⟩ : Ent)).toArray⟩ := ⟨_, rfl⟩
      rw [← hT1] at hcall
      have hd1 : d T1 = textR (d K1) (⟨L, false, bits, true, time, sp⟩ : Ent) := by rw [hT1]
      clear hT1 hr1 hi1 hLL hLz hr2 hi2 h2L h2z
      refine hcall.mono ?_
      clear hcall
      rintro e w6 ⟨rfl, hb6⟩
      have hq6 := (hb6.block _ (isT_of H5.out.2.1).lt).trans H5.out.2.1
      have hp6 := (hb6.block _ (isT_of H5.out.1).lt).trans H5.out.1
      have q0' := block_cell hq6 0 _ rfl
      have q1' := block_cell hq6 1 _ rfl
      have q2' := block_cell hq6 2 _ rfl
      have q3' := block_cell hq6 3 _ rfl
      have q4' := block_cell hq6 4 _ rfl
      have q5' := block_cell hq6 5 _ rfl
      have q6' := block_cell hq6 6 _ rfl
      have hql := (isT_of hq6).lt
      have H6 := Lib.hid (And.intro hp6 (And.intro hq6 (And.intro (H5.out.2.2.1.below hb6 (Nat.le_refl _)) (And.intro (H5.out.2.2.2.1.below hb6 (Nat.le_refl _)) (Bthen H5.out.2.2.2.2 hb6)))))
      have HQ6 := Lib.hid ((hb6.block _ (isT_of HQ5.out).lt).trans HQ5.out)
      clear hb6 hq6 hp6 H5
      go_wp2_with fail
      go_at_call 51
      have hcall := text_calls K2 a4 c4 e2 w6 (HE.out.1.below H6.out.2.2.2.2) HR.out.2.2.2.2.1 (by omega) H6.out.2.2.2.1.rd (by omega) HR.out.2.2.2.2.2.1
      rw [show textErr (d K2) e2 = 0 by unfold textErr; rw [HR.out.2.2.2.1]; rfl, show textT (d K2) e2 = textR (d K2) e2 by unfold textT; rw [HR.out.2.2.2.1]; rfl] at hcall
      obtain ⟨T2, hT2⟩ : ∃ T : ByteArray, T = ⟨(textR (d K2) e2).toArray⟩ := ⟨_, rfl⟩
      rw [← hT2] at hcall
      have hd2 : d T2 = textR (d K2) e2 := by rw [hT2]
      have HD := Lib.hid (And.intro hd1 hd2)
      clear hT2 hd1 hd2
      refine hcall.mono ?_
      clear hcall
      rintro e w7 ⟨rfl, hb7⟩
      have H7 := Lib.hid (And.intro ((hb7.block _ (isT_of H6.out.1).lt).trans H6.out.1) (And.intro ((hb7.block _ (isT_of H6.out.2.1).lt).trans H6.out.2.1) (And.intro (H6.out.2.2.1.below hb7 (Nat.le_refl _)) (And.intro (H6.out.2.2.2.1.below hb7 (Nat.le_refl _)) (Bthen H6.out.2.2.2.2 hb7)))))
      have HQ7 := Lib.hid ((hb7.block _ (isT_of HQ6.out).lt).trans HQ6.out)
      clear hb7 q0' q1' q2' q3' q4' q5' q6' hql H6
      go_wp2_with fail
      go_at_call 52
      have hT1z : T1.size ≤ 2500 := by
        have h1 : T1.size = (d T1).length := by simp [d]
        rw [h1, HD.out.1]
        exact text_small HR.out.2.1 (by rw [HF.out.2.2.2]; exact keyS_small x) (by rw [show ((⟨L, false, bits, true, time, sp⟩ : Ent)).lab = L from rfl, HF.out.1]; exact serN_small _)
      refine (read_calls T1 (by omega) w7 (HE.out.1.below H7.out.2.2.2.2) (HE.out.2.1.below H7.out.2.2.2.2)).mono ?_
      rintro e w8 ⟨hrd, hb8⟩
      obtain ⟨a8, c8, rfl, hl8⟩ : ∃ a8 c8, e = .returned (.tuple #[itAgg K1 a8 c8 (⟨L, false, bits, true, time, sp⟩ : Ent), .int .i64 0]) ∧ Ll w8 a8 c8 L := by
        rcases hrd with ⟨key, la, lc, en, h1, h2, h3, h4, h5, _⟩ | ⟨_, h2⟩
        · obtain ⟨q1, q2⟩ := text_inj h2 HR.out.1 h3 HR.out.2.1 (h4.trans HD.out.1)
          obtain rfl := data_inj q1
          subst q2
          exact ⟨la, lc, h1, h5⟩
        · exact absurd HD.out.1.symm (h2 _ _ HR.out.1 HR.out.2.1)
      have H8 := Lib.hid (And.intro ((hb8.block _ (isT_of H7.out.1).lt).trans H7.out.1) (And.intro ((hb8.block _ (isT_of H7.out.2.1).lt).trans H7.out.2.1) (And.intro (H7.out.2.2.1.below hb8 (Nat.le_refl _)) (And.intro (H7.out.2.2.2.1.below hb8 (Nat.le_refl _)) (And.intro hl8 (Bthen H7.out.2.2.2.2 hb8))))))
      have hq9 := (hb8.block _ (isT_of HQ7.out).lt).trans HQ7.out
      have me1 := block_cell hq9 1 _ rfl
      have mel := (isT_of hq9).lt
      have hp8 := H8.out.1
      have hq8 := H8.out.2.1
      have p0' := block_cell hp8 0 _ rfl
      have p1' := block_cell hp8 1 _ rfl
      have p2' := block_cell hp8 2 _ rfl
      have p3' := block_cell hp8 3 _ rfl
      have p4' := block_cell hp8 4 _ rfl
      have p5' := block_cell hp8 5 _ rfl
      have p6' := block_cell hp8 6 _ rfl
      have q0' := block_cell hq8 0 _ rfl
      have q1' := block_cell hq8 1 _ rfl
      have q2' := block_cell hq8 2 _ rfl
      have q3' := block_cell hq8 3 _ rfl
      have q4' := block_cell hq8 4 _ rfl
      have q5' := block_cell hq8 5 _ rfl
      have q6' := block_cell hq8 6 _ rfl
      have hpl := (isT_of hp8).lt
      have hql := (isT_of hq8).lt
      clear hrd hb8 hl8 H7 hp8 hq8 hq9 HQ3 HQ4 HQ5 HQ6 HQ7
      go_wp2_with fail
      go_at_call 36
      have h8C : Below w8.heap.size w8 (((w8.alloc (.cells #[.string K1, .slice a8 L.length c8, .bool false, .int .u64 bits, .bool true, .int .i64 time, .int .i64 sp] 61)).alloc (.cells #[.string K1, .slice a8 L.length c8, .bool false, .int .u64 bits, .bool true, .int .i64 time, .int .i64 sp] 61)).alloc (.cells #[.string K1, .slice a2 L.length c2, .bool false, .int .u64 bits, .bool true, .int .i64 time, .int .i64 sp] 61)) := (((Below.refl _ _).alloc (Nat.le_refl _) _).alloc (by simp) _).alloc (by simp; omega) _
      have hA := RdI.new (w8.alloc (.cells #[.string K1, .slice a8 L.length c8, .bool false, .int .u64 bits, .bool true, .int .i64 time, .int .i64 sp] 61)) [⟨K1, a8, c8, (⟨L, false, bits, true, time, sp⟩ : Ent)⟩] #[.string K1, .slice a8 L.length c8, .bool false, .int .u64 bits, .bool true, .int .i64 time, .int .i64 sp] rfl (fun z hz => by obtain rfl := List.mem_singleton.1 hz; exact H8.out.2.2.2.2.1.below ((Below.refl _ _).alloc (Nat.le_refl _) _) (Nat.le_refl _))
      have hA2 := hA.below ((Below.refl _ _).alloc (Nat.le_refl _) (.cells #[.string K1, .slice a2 L.length c2, .bool false, .int .u64 bits, .bool true, .int .i64 time, .int .i64 sp] 61)) (Nat.le_refl _)
      have hC := RdI.new ((w8.alloc (.cells #[.string K1, .slice a8 L.length c8, .bool false, .int .u64 bits, .bool true, .int .i64 time, .int .i64 sp] 61)).alloc (.cells #[.string K1, .slice a8 L.length c8, .bool false, .int .u64 bits, .bool true, .int .i64 time, .int .i64 sp] 61)) [⟨K1, a2, c2, (⟨L, false, bits, true, time, sp⟩ : Ent)⟩] #[.string K1, .slice a2 L.length c2, .bool false, .int .u64 bits, .bool true, .int .i64 time, .int .i64 sp] rfl (fun z hz => by obtain rfl := List.mem_singleton.1 hz; exact H8.out.2.2.1.below (((Below.refl _ _).alloc (Nat.le_refl _) _).alloc (by simp) _) (Nat.le_refl _))
      simp only [World.size_alloc] at hA2 hC
      have hcall := items_yes _ _ 1 1 _ _ _ hA2 hC (fun z hz => by obtain rfl := List.mem_singleton.1 hz; show L.length ≤ _; omega) (by simp) rfl
      simp only [List.length_cons, List.length_nil, Nat.zero_add] at hcall
      refine hcall.mono ?_
      clear hcall hA hA2 hC p0' p1' p2' p3' p4' p5' p6' q0' q1' q2' q3' q4' q5' q6'
      rintro e w9 ⟨rfl, hb9⟩
      have h89 : Below w8.heap.size w8 w9 := Bthen h8C hb9
      have hp9 := (h89.block _ (isT_of H8.out.1).lt).trans H8.out.1
      have hq9 := (h89.block _ (isT_of H8.out.2.1).lt).trans H8.out.2.1
      have p0' := block_cell hp9 0 _ rfl
      have p1' := block_cell hp9 1 _ rfl
      have p2' := block_cell hp9 2 _ rfl
      have p3' := block_cell hp9 3 _ rfl
      have p4' := block_cell hp9 4 _ rfl
      have p5' := block_cell hp9 5 _ rfl
      have p6' := block_cell hp9 6 _ rfl
      have q0' := block_cell hq9 0 _ rfl
      have q1' := block_cell hq9 1 _ rfl
      have q2' := block_cell hq9 2 _ rfl
      have q3' := block_cell hq9 3 _ rfl
      have q4' := block_cell hq9 4 _ rfl
      have q5' := block_cell hq9 5 _ rfl
      have q6' := block_cell hq9 6 _ rfl
      have hpl := (isT_of hp9).lt
      have hql := (isT_of hq9).lt
      have HP9 := Lib.hid (And.intro hp9 (And.intro (H8.out.2.2.1.below h89 (Nat.le_refl _)) (And.intro (H8.out.2.2.2.1.below h89 (Nat.le_refl _)) (Bthen H8.out.2.2.2.2.2 h89))))
      clear h8C h89 hb9 hp9 hq9 me1 mel H8
      by_cases hpq : K1 = K2 ∧ (⟨L, false, bits, true, time, sp⟩ : Ent) = e2
      · have hq1 : (T1.toList == T2.toList) = true := beq_iff_eq.2 (by
          rw [ByteArray.toList_eq, ByteArray.toList_eq]
          show d T1 = d T2
          rw [HD.out.1, HD.out.2, hpq.1, hpq.2])
        have HPQ := Lib.hid hpq
        clear hpq
        go_wp2_with fail
        go_at_call 36
        have hA := RdI.new w9 [⟨K1, a2, c2, (⟨L, false, bits, true, time, sp⟩ : Ent)⟩] #[.string K1, .slice a2 L.length c2, .bool false, .int .u64 bits, .bool true, .int .i64 time, .int .i64 sp] rfl (fun z hz => by obtain rfl := List.mem_singleton.1 hz; exact HP9.out.2.1)
        have hA2 := hA.below ((Below.refl _ _).alloc (Nat.le_refl _) (.cells #[.string K2, .slice a4 e2.lab.length c4, .bool e2.mark, .int .u64 e2.bits, .bool e2.st, .int .i64 e2.time, .int .i64 e2.stamp] 61)) (Nat.le_refl _)
        have hC := RdI.new (w9.alloc (.cells #[.string K1, .slice a2 L.length c2, .bool false, .int .u64 bits, .bool true, .int .i64 time, .int .i64 sp] 61)) [⟨K2, a4, c4, e2⟩] #[.string K2, .slice a4 e2.lab.length c4, .bool e2.mark, .int .u64 e2.bits, .bool e2.st, .int .i64 e2.time, .int .i64 e2.stamp] rfl (fun z hz => by obtain rfl := List.mem_singleton.1 hz; exact HP9.out.2.2.1.below ((Below.refl _ _).alloc (Nat.le_refl _) _) (Nat.le_refl _))
        simp only [World.size_alloc] at hC
        have hcall := items_yes _ _ 1 1 _ _ _ hA2 hC (fun z hz => by obtain rfl := List.mem_singleton.1 hz; show L.length ≤ _; omega) (by simp) (by simp only [List.map_cons, List.map_nil, List.cons.injEq, and_true]; exact it_of HPQ.out.1 HPQ.out.2)
        simp only [List.length_cons, List.length_nil, Nat.zero_add] at hcall
        refine hcall.mono ?_
        clear hcall hA hA2 hC p0' p1' p2' p3' p4' p5' p6' q0' q1' q2' q3' q4' q5' q6' hpl hql
        rintro e w11 ⟨rfl, hb11⟩
        replace hb11 : Below w9.heap.size w9 w11 := Bthen (((Below.refl _ _).alloc (Nat.le_refl _) _).alloc (by simp) _) hb11
        have hs11 := hb11.size
        have hp11 := (hb11.block _ (isT_of HP9.out.1).lt).trans HP9.out.1
        have p0' := block_cell hp11 0 _ rfl
        have p1' := block_cell hp11 1 _ rfl
        have p2' := block_cell hp11 2 _ rfl
        have p3' := block_cell hp11 3 _ rfl
        have p4' := block_cell hp11 4 _ rfl
        have p5' := block_cell hp11 5 _ rfl
        have p6' := block_cell hp11 6 _ rfl
        have hpl := (isT_of hp11).lt
        have HL11 := Lib.hid (And.intro (HP9.out.2.1.below hb11 (Nat.le_refl _)) (Bthen HP9.out.2.2.2 hb11))
        clear hb11 hp11 hs11
        go_wp2_with fail
        go_at_call 53
        have hcall := Tryz.strings_Fields_laid T1 w11 (by omega) (fun j b hj => text_ascii (d K1) (⟨L, false, bits, true, time, sp⟩ : Ent) HR.out.2.1.b1 b (by have := List.mem_of_getElem? hj; rw [← HD.out.1]; exact this)) (Lib.tabBelow_of_tabIs HE.out.2.2 w11 HL11.out.2)
        rw [show Go.Lib.fields T1.data.toList = wordsT (d K1) (⟨L, false, bits, true, time, sp⟩ : Ent) by rw [← fields_text _ _ HR.out.2.1.b1, ← HD.out.1]] at hcall
        rw [show (wordsT (d K1) (⟨L, false, bits, true, time, sp⟩ : Ent)).length = 6 from words_len _ _] at hcall
        refine hcall.mono ?_
        clear hcall
        rintro e w12 ⟨rfl, hw12⟩
        have hb12 : Below w11.heap.size w11 w12 := by rw [hw12]; exact (Below.refl _ _).alloc (Nat.le_refl _) _
        have p0' := (hb12.cell (p := ⟨bP, 0, none⟩) hpl).trans p0'
        have p1' := (hb12.cell (p := ⟨bP, 1, none⟩) hpl).trans p1'
        have p2' := (hb12.cell (p := ⟨bP, 2, none⟩) hpl).trans p2'
        have p3' := (hb12.cell (p := ⟨bP, 3, none⟩) hpl).trans p3'
        have p4' := (hb12.cell (p := ⟨bP, 4, none⟩) hpl).trans p4'
        have p5' := (hb12.cell (p := ⟨bP, 5, none⟩) hpl).trans p5'
        have p6' := (hb12.cell (p := ⟨bP, 6, none⟩) hpl).trans p6'
        have HL12 := Lib.hid (And.intro (HL11.out.1.below hb12 (Nat.le_refl _)) (Bthen HL11.out.2 hb12))
        clear hw12 hb12
        go_wp2_with fail
        go_at_call 54
        refine (sright_calls K1 a2 c2 (⟨L, false, bits, true, time, sp⟩ : Ent) w12 (by omega) HL12.out.1.rd (by show L.length ≤ _; omega) HR.out.2.2.1 (HE.out.1.below HL12.out.2).kv).mono ?_
        rintro e w13 ⟨rfl, hb13⟩
        rw [HR.out.1]
        have HF13 := Lib.hid (Bthen HL12.out.2 hb13)
        clear hb13
        go_wp2_with fail
        go_ret
        exact ⟨rfl, HF13.out⟩
      · have hq1 : (T1.toList == T2.toList) = false := beq_eq_false_iff_ne.2 (fun e => by
          rw [ByteArray.toList_eq, ByteArray.toList_eq] at e
          have e2' : d T1 = d T2 := e
          rw [HD.out.1, HD.out.2] at e2'
          obtain ⟨z1, z2⟩ := text_inj HR.out.1 HR.out.2.2.2.1 HR.out.2.1 HR.out.2.2.2.2.1 e2'
          exact hpq ⟨data_inj z1, z2⟩)
        have HPQ := Lib.hid hpq
        clear hpq
        go_wp2_with fail
        go_at_call 36
        have hA := RdI.new w9 [⟨K1, a2, c2, (⟨L, false, bits, true, time, sp⟩ : Ent)⟩] #[.string K1, .slice a2 L.length c2, .bool false, .int .u64 bits, .bool true, .int .i64 time, .int .i64 sp] rfl (fun z hz => by obtain rfl := List.mem_singleton.1 hz; exact HP9.out.2.1)
        have hA2 := hA.below ((Below.refl _ _).alloc (Nat.le_refl _) (.cells #[.string K2, .slice a4 e2.lab.length c4, .bool e2.mark, .int .u64 e2.bits, .bool e2.st, .int .i64 e2.time, .int .i64 e2.stamp] 61)) (Nat.le_refl _)
        have hC := RdI.new (w9.alloc (.cells #[.string K1, .slice a2 L.length c2, .bool false, .int .u64 bits, .bool true, .int .i64 time, .int .i64 sp] 61)) [⟨K2, a4, c4, e2⟩] #[.string K2, .slice a4 e2.lab.length c4, .bool e2.mark, .int .u64 e2.bits, .bool e2.st, .int .i64 e2.time, .int .i64 e2.stamp] rfl (fun z hz => by obtain rfl := List.mem_singleton.1 hz; exact HP9.out.2.2.1.below ((Below.refl _ _).alloc (Nat.le_refl _) _) (Nat.le_refl _))
        simp only [World.size_alloc] at hC
        have hcall := items1_no _ _ 1 1 _ _ _ hA2 hC (by show L.length ≤ _; omega) (fun e => by
          simp only [SI.it, It.mk.injEq] at e
          exact HPQ.out ⟨e.1, e.2⟩)
        refine hcall.mono ?_
        clear hcall hA hA2 hC p0' p1' p2' p3' p4' p5' p6' q0' q1' q2' q3' q4' q5' q6' hpl hql
        rintro e w11 ⟨rfl, hb11⟩
        replace hb11 : Below w9.heap.size w9 w11 := Bthen (((Below.refl _ _).alloc (Nat.le_refl _) _).alloc (by simp) _) hb11
        have hs11 := hb11.size
        have hp11 := (hb11.block _ (isT_of HP9.out.1).lt).trans HP9.out.1
        have p0' := block_cell hp11 0 _ rfl
        have p1' := block_cell hp11 1 _ rfl
        have p2' := block_cell hp11 2 _ rfl
        have p3' := block_cell hp11 3 _ rfl
        have p4' := block_cell hp11 4 _ rfl
        have p5' := block_cell hp11 5 _ rfl
        have p6' := block_cell hp11 6 _ rfl
        have hpl := (isT_of hp11).lt
        have HL11 := Lib.hid (And.intro (HP9.out.2.1.below hb11 (Nat.le_refl _)) (Bthen HP9.out.2.2.2 hb11))
        clear hb11 hp11 hs11
        go_wp2_with fail
        go_at_call 53
        have hcall := Tryz.strings_Fields_laid T1 w11 (by omega) (fun j b hj => text_ascii (d K1) (⟨L, false, bits, true, time, sp⟩ : Ent) HR.out.2.1.b1 b (by have := List.mem_of_getElem? hj; rw [← HD.out.1]; exact this)) (Lib.tabBelow_of_tabIs HE.out.2.2 w11 HL11.out.2)
        rw [show Go.Lib.fields T1.data.toList = wordsT (d K1) (⟨L, false, bits, true, time, sp⟩ : Ent) by rw [← fields_text _ _ HR.out.2.1.b1, ← HD.out.1]] at hcall
        rw [show (wordsT (d K1) (⟨L, false, bits, true, time, sp⟩ : Ent)).length = 6 from words_len _ _] at hcall
        refine hcall.mono ?_
        clear hcall
        rintro e w12 ⟨rfl, hw12⟩
        have hb12 : Below w11.heap.size w11 w12 := by rw [hw12]; exact (Below.refl _ _).alloc (Nat.le_refl _) _
        have p0' := (hb12.cell (p := ⟨bP, 0, none⟩) hpl).trans p0'
        have p1' := (hb12.cell (p := ⟨bP, 1, none⟩) hpl).trans p1'
        have p2' := (hb12.cell (p := ⟨bP, 2, none⟩) hpl).trans p2'
        have p3' := (hb12.cell (p := ⟨bP, 3, none⟩) hpl).trans p3'
        have p4' := (hb12.cell (p := ⟨bP, 4, none⟩) hpl).trans p4'
        have p5' := (hb12.cell (p := ⟨bP, 5, none⟩) hpl).trans p5'
        have p6' := (hb12.cell (p := ⟨bP, 6, none⟩) hpl).trans p6'
        have HL12 := Lib.hid (And.intro (HL11.out.1.below hb12 (Nat.le_refl _)) (Bthen HL11.out.2 hb12))
        clear hw12 hb12
        go_wp2_with fail
        go_at_call 54
        refine (sright_calls K1 a2 c2 (⟨L, false, bits, true, time, sp⟩ : Ent) w12 (by omega) HL12.out.1.rd (by show L.length ≤ _; omega) HR.out.2.2.1 (HE.out.1.below HL12.out.2).kv).mono ?_
        rintro e w13 ⟨rfl, hb13⟩
        rw [HR.out.1]
        have HF13 := Lib.hid (Bthen HL12.out.2 hb13)
        clear hb13
        go_wp2_with fail
        go_ret
        exact ⟨rfl, HF13.out⟩
    | false =>
      have HEP : Hid ((⟨L, false, bits, false, 0, sp⟩ : Ent) = entP x sp bits time) := Lib.hid (by unfold entP; rw [← HF.out.1, ← HF.out.2.1, ← HF.out.2.2.1]; rfl)
      go_wp2_with fail
      go_at_call 34
      obtain ⟨w3, hw3⟩ : ∃ q, q = (w2.alloc (.cells #[.slice a2 L.length c2, .bool false, .int .u64 bits, .bool false, .int .i64 0, .int .i64 sp] 59)).alloc (.cells #[.string K1, .slice a2 L.length c2, .bool false, .int .u64 bits, .bool false, .int .i64 0, .int .i64 sp] 61) := ⟨_, rfl⟩
      rw [← hw3]
      have hb23 : Below w2.heap.size w2 w3 := by rw [hw3]; exact ((Below.refl _ _).alloc (Nat.le_refl _) _).alloc (by simp) _
      obtain ⟨bP, hbP⟩ : ∃ bP, bP = w2.heap.size + 1 := ⟨_, rfl⟩
      have hp3 : w3.heap[bP]? = some (.cells #[.string K1, .slice a2 L.length c2, .bool false, .int .u64 bits, .bool false, .int .i64 0, .int .i64 sp] 61 (0, 0)) := by
        rw [hw3, hbP]
        have h := heap_alloc_new (w2.alloc (.cells #[.slice a2 L.length c2, .bool false, .int .u64 bits, .bool false, .int .i64 0, .int .i64 sp] 59)) (.cells #[.string K1, .slice a2 L.length c2, .bool false, .int .u64 bits, .bool false, .int .i64 0, .int .i64 sp] 61)
        simpa using h
      rw [← hbP]
      have H3 := Lib.hid (And.intro hp3 (And.intro (H2.out.1.below hb23 (Nat.le_refl _)) (Bthen H2.out.2 hb23)))
      have HQ3 : Hid (w3.heap[w2.heap.size]? = some (.cells #[.slice a2 L.length c2, .bool false, .int .u64 bits, .bool false, .int .i64 0, .int .i64 sp] 59 (0, 0))) := Lib.hid (by rw [hw3]; exact (Below.heap_alloc _ _ _ (by simp)).trans (heap_alloc_new w2 _))
      clear hw3 hbP hb23 hp3
      refine (entry_calls y hy sp w3).mono ?_
      rintro e w4 ⟨a4, c4, rfl, hl4, hb4⟩
      obtain ⟨K2, hK2⟩ : ∃ K, K = keyS y := ⟨_, rfl⟩
      obtain ⟨e2, he2⟩ : ∃ e2, e2 = entS y sp := ⟨_, rfl⟩
      rw [← hK2, ← he2]
      rw [← he2] at hl4
      have hp4 := (hb4.block _ (isT_of H3.out.1).lt).trans H3.out.1
      have p0' := block_cell hp4 0 _ rfl
      have p1' := block_cell hp4 1 _ rfl
      have p2' := block_cell hp4 2 _ rfl
      have p3' := block_cell hp4 3 _ rfl
      have p4' := block_cell hp4 4 _ rfl
      have p5' := block_cell hp4 5 _ rfl
      have p6' := block_cell hp4 6 _ rfl
      have hpl := (isT_of hp4).lt
      have HK2 := Lib.hid (And.intro hK2 (And.intro he2 (And.intro hl4 (And.intro hp4 (And.intro (H3.out.2.1.below hb4 (Nat.le_refl _)) (Bthen H3.out.2.2 hb4))))))
      have HQ4 := Lib.hid ((hb4.block _ (isT_of HQ3.out).lt).trans HQ3.out)
      clear hK2 he2 hl4 hb4 hp4 H3
      go_wp2_with fail
      go_at_call 51
      obtain ⟨w5, hw5⟩ : ∃ q, q = (w4.alloc (.cells #[.slice a4 e2.lab.length c4, .bool e2.mark, .int .u64 e2.bits, .bool e2.st, .int .i64 e2.time, .int .i64 e2.stamp] 59)).alloc (.cells #[.string K2, .slice a4 e2.lab.length c4, .bool e2.mark, .int .u64 e2.bits, .bool e2.st, .int .i64 e2.time, .int .i64 e2.stamp] 61) := ⟨_, rfl⟩
      rw [← hw5]
      have hb45 : Below w4.heap.size w4 w5 := by rw [hw5]; exact ((Below.refl _ _).alloc (Nat.le_refl _) _).alloc (by simp) _
      obtain ⟨bQ, hbQ⟩ : ∃ bQ, bQ = w4.heap.size + 1 := ⟨_, rfl⟩
      have hq5 : w5.heap[bQ]? = some (.cells #[.string K2, .slice a4 e2.lab.length c4, .bool e2.mark, .int .u64 e2.bits, .bool e2.st, .int .i64 e2.time, .int .i64 e2.stamp] 61 (0, 0)) := by
        rw [hw5, hbQ]
        have h := heap_alloc_new (w4.alloc (.cells #[.slice a4 e2.lab.length c4, .bool e2.mark, .int .u64 e2.bits, .bool e2.st, .int .i64 e2.time, .int .i64 e2.stamp] 59)) (.cells #[.string K2, .slice a4 e2.lab.length c4, .bool e2.mark, .int .u64 e2.bits, .bool e2.st, .int .i64 e2.time, .int .i64 e2.stamp] 61)
        simpa using h
      rw [← hbQ]
      have hp5 := (hb45.block _ (isT_of HK2.out.2.2.2.1).lt).trans HK2.out.2.2.2.1
      have H5 := Lib.hid (And.intro hp5 (And.intro hq5 (And.intro (HK2.out.2.2.2.2.1.below hb45 (Nat.le_refl _)) (And.intro (HK2.out.2.2.1.below hb45 (Nat.le_refl _)) (Bthen HK2.out.2.2.2.2.2 hb45)))))
      have HQ5 := Lib.hid ((hb45.block _ (isT_of HQ4.out).lt).trans HQ4.out)
      have HK := Lib.hid (And.intro HK2.out.1 HK2.out.2.1)
      clear hw5 hbQ hb45 hq5 hp5 p0' p1' p2' p3' p4' p5' p6' HK2 hpl
      have hr1 : itemRight (d K1) (⟨L, false, bits, false, 0, sp⟩ : Ent) = true := by rw [HEP.out, HF.out.2.2.2]; exact entP_right x (by omega) (by omega)
      have hi1 : EntIn (⟨L, false, bits, false, 0, sp⟩ : Ent) := by rw [HEP.out]; exact entP_in x (by omega) (by omega) HB.out.1 HB.out.2 HT.out.1 HT.out.2
      have hLL : labRight L = true := by rw [HF.out.1]; exact serN_right _
      have hLn : L.length ≤ 64 := (labRight_ok hLL).1
      have hLz : ∀ z ∈ L, z.2.size ≤ 4611686018427387904 := fun z hz => by
        have h3 := ((labRight_ok hLL).2 z hz).2
        simp only [d, Array.length_toList] at h3
        have h4 : z.2.size ≤ 1024 := h3
        omega
      have hK1 : K1.size ≤ 1000000 := by rw [HF.out.2.2.2]; exact keyS_le x
      have hr2 : itemRight (d K2) e2 = true := by rw [HK.out.1, HK.out.2, entS_P]; exact entP_right y (by omega) (by omega)
      have hi2 : EntIn e2 := by rw [HK.out.2, entS_P]; exact entP_in y (by omega) (by omega) (by have := hy.d0; omega) (by have := hy.d1; omega) (by have := hy.m0; omega) (by have := hy.m1; omega)
      have h2L : labRight e2.lab = true := right_lab hr2
      have h2n : e2.lab.length ≤ 64 := (labRight_ok h2L).1
      have h2z : ∀ z ∈ e2.lab, z.2.size ≤ 4611686018427387904 := fun z hz => by
        have h3 := ((labRight_ok h2L).2 z hz).2
        simp only [d, Array.length_toList] at h3
        have h4 : z.2.size ≤ 1024 := h3
        omega
      have hK2 : K2.size ≤ 1000000 := by rw [HK.out.1]; exact keyS_le y
      have HR := Lib.hid (And.intro hr1 (And.intro hi1 (And.intro hLz (And.intro hr2 (And.intro hi2 (And.intro h2z (And.intro hLL h2L)))))))
      have hcall := text_calls K1 a2 c2 (⟨L, false, bits, false, 0, sp⟩ : Ent) w5 (HE.out.1.below H5.out.2.2.2.2) hi1 (by omega) H5.out.2.2.1.rd (by show L.length ≤ _; omega) hLz
      rw [show textErr (d K1) (⟨L, false, bits, false, 0, sp⟩ : Ent) = 0 by unfold textErr; rw [hr1]; rfl, show textT (d K1) (⟨L, false, bits, false, 0, sp⟩ : Ent) = textR (d K1) (⟨L, false, bits, false, 0, sp⟩ : Ent) by unfold textT; rw [hr1]; rfl] at hcall
      obtain ⟨T1, hT1⟩ : ∃ T : ByteArray, T = ⟨(textR (d K1) (⟨L, false, bits, false, 0, sp⟩ : Ent)).toArray⟩ := ⟨_, rfl⟩
      rw [← hT1] at hcall
      have hd1 : d T1 = textR (d K1) (⟨L, false, bits, false, 0, sp⟩ : Ent) := by rw [hT1]
      clear hT1 hr1 hi1 hLL hLz hr2 hi2 h2L h2z
      refine hcall.mono ?_
      clear hcall
      rintro e w6 ⟨rfl, hb6⟩
      have hq6 := (hb6.block _ (isT_of H5.out.2.1).lt).trans H5.out.2.1
      have hp6 := (hb6.block _ (isT_of H5.out.1).lt).trans H5.out.1
      have q0' := block_cell hq6 0 _ rfl
      have q1' := block_cell hq6 1 _ rfl
      have q2' := block_cell hq6 2 _ rfl
      have q3' := block_cell hq6 3 _ rfl
      have q4' := block_cell hq6 4 _ rfl
      have q5' := block_cell hq6 5 _ rfl
      have q6' := block_cell hq6 6 _ rfl
      have hql := (isT_of hq6).lt
      have H6 := Lib.hid (And.intro hp6 (And.intro hq6 (And.intro (H5.out.2.2.1.below hb6 (Nat.le_refl _)) (And.intro (H5.out.2.2.2.1.below hb6 (Nat.le_refl _)) (Bthen H5.out.2.2.2.2 hb6)))))
      have HQ6 := Lib.hid ((hb6.block _ (isT_of HQ5.out).lt).trans HQ5.out)
      clear hb6 hq6 hp6 H5
      go_wp2_with fail
      go_at_call 51
      have hcall := text_calls K2 a4 c4 e2 w6 (HE.out.1.below H6.out.2.2.2.2) HR.out.2.2.2.2.1 (by omega) H6.out.2.2.2.1.rd (by omega) HR.out.2.2.2.2.2.1
      rw [show textErr (d K2) e2 = 0 by unfold textErr; rw [HR.out.2.2.2.1]; rfl, show textT (d K2) e2 = textR (d K2) e2 by unfold textT; rw [HR.out.2.2.2.1]; rfl] at hcall
      obtain ⟨T2, hT2⟩ : ∃ T : ByteArray, T = ⟨(textR (d K2) e2).toArray⟩ := ⟨_, rfl⟩
      rw [← hT2] at hcall
      have hd2 : d T2 = textR (d K2) e2 := by rw [hT2]
      have HD := Lib.hid (And.intro hd1 hd2)
      clear hT2 hd1 hd2
      refine hcall.mono ?_
      clear hcall
      rintro e w7 ⟨rfl, hb7⟩
      have H7 := Lib.hid (And.intro ((hb7.block _ (isT_of H6.out.1).lt).trans H6.out.1) (And.intro ((hb7.block _ (isT_of H6.out.2.1).lt).trans H6.out.2.1) (And.intro (H6.out.2.2.1.below hb7 (Nat.le_refl _)) (And.intro (H6.out.2.2.2.1.below hb7 (Nat.le_refl _)) (Bthen H6.out.2.2.2.2 hb7)))))
      have HQ7 := Lib.hid ((hb7.block _ (isT_of HQ6.out).lt).trans HQ6.out)
      clear hb7 q0' q1' q2' q3' q4' q5' q6' hql H6
      go_wp2_with fail
      go_at_call 52
      have hT1z : T1.size ≤ 2500 := by
        have h1 : T1.size = (d T1).length := by simp [d]
        rw [h1, HD.out.1]
        exact text_small HR.out.2.1 (by rw [HF.out.2.2.2]; exact keyS_small x) (by rw [show ((⟨L, false, bits, false, 0, sp⟩ : Ent)).lab = L from rfl, HF.out.1]; exact serN_small _)
      refine (read_calls T1 (by omega) w7 (HE.out.1.below H7.out.2.2.2.2) (HE.out.2.1.below H7.out.2.2.2.2)).mono ?_
      rintro e w8 ⟨hrd, hb8⟩
      obtain ⟨a8, c8, rfl, hl8⟩ : ∃ a8 c8, e = .returned (.tuple #[itAgg K1 a8 c8 (⟨L, false, bits, false, 0, sp⟩ : Ent), .int .i64 0]) ∧ Ll w8 a8 c8 L := by
        rcases hrd with ⟨key, la, lc, en, h1, h2, h3, h4, h5, _⟩ | ⟨_, h2⟩
        · obtain ⟨q1, q2⟩ := text_inj h2 HR.out.1 h3 HR.out.2.1 (h4.trans HD.out.1)
          obtain rfl := data_inj q1
          subst q2
          exact ⟨la, lc, h1, h5⟩
        · exact absurd HD.out.1.symm (h2 _ _ HR.out.1 HR.out.2.1)
      have H8 := Lib.hid (And.intro ((hb8.block _ (isT_of H7.out.1).lt).trans H7.out.1) (And.intro ((hb8.block _ (isT_of H7.out.2.1).lt).trans H7.out.2.1) (And.intro (H7.out.2.2.1.below hb8 (Nat.le_refl _)) (And.intro (H7.out.2.2.2.1.below hb8 (Nat.le_refl _)) (And.intro hl8 (Bthen H7.out.2.2.2.2 hb8))))))
      have hq9 := (hb8.block _ (isT_of HQ7.out).lt).trans HQ7.out
      have me1 := block_cell hq9 1 _ rfl
      have mel := (isT_of hq9).lt
      have hp8 := H8.out.1
      have hq8 := H8.out.2.1
      have p0' := block_cell hp8 0 _ rfl
      have p1' := block_cell hp8 1 _ rfl
      have p2' := block_cell hp8 2 _ rfl
      have p3' := block_cell hp8 3 _ rfl
      have p4' := block_cell hp8 4 _ rfl
      have p5' := block_cell hp8 5 _ rfl
      have p6' := block_cell hp8 6 _ rfl
      have q0' := block_cell hq8 0 _ rfl
      have q1' := block_cell hq8 1 _ rfl
      have q2' := block_cell hq8 2 _ rfl
      have q3' := block_cell hq8 3 _ rfl
      have q4' := block_cell hq8 4 _ rfl
      have q5' := block_cell hq8 5 _ rfl
      have q6' := block_cell hq8 6 _ rfl
      have hpl := (isT_of hp8).lt
      have hql := (isT_of hq8).lt
      clear hrd hb8 hl8 H7 hp8 hq8 hq9 HQ3 HQ4 HQ5 HQ6 HQ7
      go_wp2_with fail
      go_at_call 36
      have h8C : Below w8.heap.size w8 (((w8.alloc (.cells #[.string K1, .slice a8 L.length c8, .bool false, .int .u64 bits, .bool false, .int .i64 0, .int .i64 sp] 61)).alloc (.cells #[.string K1, .slice a8 L.length c8, .bool false, .int .u64 bits, .bool false, .int .i64 0, .int .i64 sp] 61)).alloc (.cells #[.string K1, .slice a2 L.length c2, .bool false, .int .u64 bits, .bool false, .int .i64 0, .int .i64 sp] 61)) := (((Below.refl _ _).alloc (Nat.le_refl _) _).alloc (by simp) _).alloc (by simp; omega) _
      have hA := RdI.new (w8.alloc (.cells #[.string K1, .slice a8 L.length c8, .bool false, .int .u64 bits, .bool false, .int .i64 0, .int .i64 sp] 61)) [⟨K1, a8, c8, (⟨L, false, bits, false, 0, sp⟩ : Ent)⟩] #[.string K1, .slice a8 L.length c8, .bool false, .int .u64 bits, .bool false, .int .i64 0, .int .i64 sp] rfl (fun z hz => by obtain rfl := List.mem_singleton.1 hz; exact H8.out.2.2.2.2.1.below ((Below.refl _ _).alloc (Nat.le_refl _) _) (Nat.le_refl _))
      have hA2 := hA.below ((Below.refl _ _).alloc (Nat.le_refl _) (.cells #[.string K1, .slice a2 L.length c2, .bool false, .int .u64 bits, .bool false, .int .i64 0, .int .i64 sp] 61)) (Nat.le_refl _)
      have hC := RdI.new ((w8.alloc (.cells #[.string K1, .slice a8 L.length c8, .bool false, .int .u64 bits, .bool false, .int .i64 0, .int .i64 sp] 61)).alloc (.cells #[.string K1, .slice a8 L.length c8, .bool false, .int .u64 bits, .bool false, .int .i64 0, .int .i64 sp] 61)) [⟨K1, a2, c2, (⟨L, false, bits, false, 0, sp⟩ : Ent)⟩] #[.string K1, .slice a2 L.length c2, .bool false, .int .u64 bits, .bool false, .int .i64 0, .int .i64 sp] rfl (fun z hz => by obtain rfl := List.mem_singleton.1 hz; exact H8.out.2.2.1.below (((Below.refl _ _).alloc (Nat.le_refl _) _).alloc (by simp) _) (Nat.le_refl _))
      simp only [World.size_alloc] at hA2 hC
      have hcall := items_yes _ _ 1 1 _ _ _ hA2 hC (fun z hz => by obtain rfl := List.mem_singleton.1 hz; show L.length ≤ _; omega) (by simp) rfl
      simp only [List.length_cons, List.length_nil, Nat.zero_add] at hcall
      refine hcall.mono ?_
      clear hcall hA hA2 hC p0' p1' p2' p3' p4' p5' p6' q0' q1' q2' q3' q4' q5' q6'
      rintro e w9 ⟨rfl, hb9⟩
      have h89 : Below w8.heap.size w8 w9 := Bthen h8C hb9
      have hp9 := (h89.block _ (isT_of H8.out.1).lt).trans H8.out.1
      have hq9 := (h89.block _ (isT_of H8.out.2.1).lt).trans H8.out.2.1
      have p0' := block_cell hp9 0 _ rfl
      have p1' := block_cell hp9 1 _ rfl
      have p2' := block_cell hp9 2 _ rfl
      have p3' := block_cell hp9 3 _ rfl
      have p4' := block_cell hp9 4 _ rfl
      have p5' := block_cell hp9 5 _ rfl
      have p6' := block_cell hp9 6 _ rfl
      have q0' := block_cell hq9 0 _ rfl
      have q1' := block_cell hq9 1 _ rfl
      have q2' := block_cell hq9 2 _ rfl
      have q3' := block_cell hq9 3 _ rfl
      have q4' := block_cell hq9 4 _ rfl
      have q5' := block_cell hq9 5 _ rfl
      have q6' := block_cell hq9 6 _ rfl
      have hpl := (isT_of hp9).lt
      have hql := (isT_of hq9).lt
      have HP9 := Lib.hid (And.intro hp9 (And.intro (H8.out.2.2.1.below h89 (Nat.le_refl _)) (And.intro (H8.out.2.2.2.1.below h89 (Nat.le_refl _)) (Bthen H8.out.2.2.2.2.2 h89))))
      clear h8C h89 hb9 hp9 hq9 me1 mel H8
      by_cases hpq : K1 = K2 ∧ (⟨L, false, bits, false, 0, sp⟩ : Ent) = e2
      · have hq1 : (T1.toList == T2.toList) = true := beq_iff_eq.2 (by
          rw [ByteArray.toList_eq, ByteArray.toList_eq]
          show d T1 = d T2
          rw [HD.out.1, HD.out.2, hpq.1, hpq.2])
        have HPQ := Lib.hid hpq
        clear hpq
        go_wp2_with fail
        go_at_call 36
        have hA := RdI.new w9 [⟨K1, a2, c2, (⟨L, false, bits, false, 0, sp⟩ : Ent)⟩] #[.string K1, .slice a2 L.length c2, .bool false, .int .u64 bits, .bool false, .int .i64 0, .int .i64 sp] rfl (fun z hz => by obtain rfl := List.mem_singleton.1 hz; exact HP9.out.2.1)
        have hA2 := hA.below ((Below.refl _ _).alloc (Nat.le_refl _) (.cells #[.string K2, .slice a4 e2.lab.length c4, .bool e2.mark, .int .u64 e2.bits, .bool e2.st, .int .i64 e2.time, .int .i64 e2.stamp] 61)) (Nat.le_refl _)
        have hC := RdI.new (w9.alloc (.cells #[.string K1, .slice a2 L.length c2, .bool false, .int .u64 bits, .bool false, .int .i64 0, .int .i64 sp] 61)) [⟨K2, a4, c4, e2⟩] #[.string K2, .slice a4 e2.lab.length c4, .bool e2.mark, .int .u64 e2.bits, .bool e2.st, .int .i64 e2.time, .int .i64 e2.stamp] rfl (fun z hz => by obtain rfl := List.mem_singleton.1 hz; exact HP9.out.2.2.1.below ((Below.refl _ _).alloc (Nat.le_refl _) _) (Nat.le_refl _))
        simp only [World.size_alloc] at hC
        have hcall := items_yes _ _ 1 1 _ _ _ hA2 hC (fun z hz => by obtain rfl := List.mem_singleton.1 hz; show L.length ≤ _; omega) (by simp) (by simp only [List.map_cons, List.map_nil, List.cons.injEq, and_true]; exact it_of HPQ.out.1 HPQ.out.2)
        simp only [List.length_cons, List.length_nil, Nat.zero_add] at hcall
        refine hcall.mono ?_
        clear hcall hA hA2 hC p0' p1' p2' p3' p4' p5' p6' q0' q1' q2' q3' q4' q5' q6' hpl hql
        rintro e w11 ⟨rfl, hb11⟩
        replace hb11 : Below w9.heap.size w9 w11 := Bthen (((Below.refl _ _).alloc (Nat.le_refl _) _).alloc (by simp) _) hb11
        have hs11 := hb11.size
        have hp11 := (hb11.block _ (isT_of HP9.out.1).lt).trans HP9.out.1
        have p0' := block_cell hp11 0 _ rfl
        have p1' := block_cell hp11 1 _ rfl
        have p2' := block_cell hp11 2 _ rfl
        have p3' := block_cell hp11 3 _ rfl
        have p4' := block_cell hp11 4 _ rfl
        have p5' := block_cell hp11 5 _ rfl
        have p6' := block_cell hp11 6 _ rfl
        have hpl := (isT_of hp11).lt
        have HL11 := Lib.hid (And.intro (HP9.out.2.1.below hb11 (Nat.le_refl _)) (Bthen HP9.out.2.2.2 hb11))
        clear hb11 hp11 hs11
        go_wp2_with fail
        go_at_call 53
        have hcall := Tryz.strings_Fields_laid T1 w11 (by omega) (fun j b hj => text_ascii (d K1) (⟨L, false, bits, false, 0, sp⟩ : Ent) HR.out.2.1.b1 b (by have := List.mem_of_getElem? hj; rw [← HD.out.1]; exact this)) (Lib.tabBelow_of_tabIs HE.out.2.2 w11 HL11.out.2)
        rw [show Go.Lib.fields T1.data.toList = wordsT (d K1) (⟨L, false, bits, false, 0, sp⟩ : Ent) by rw [← fields_text _ _ HR.out.2.1.b1, ← HD.out.1]] at hcall
        rw [show (wordsT (d K1) (⟨L, false, bits, false, 0, sp⟩ : Ent)).length = 6 from words_len _ _] at hcall
        refine hcall.mono ?_
        clear hcall
        rintro e w12 ⟨rfl, hw12⟩
        have hb12 : Below w11.heap.size w11 w12 := by rw [hw12]; exact (Below.refl _ _).alloc (Nat.le_refl _) _
        have p0' := (hb12.cell (p := ⟨bP, 0, none⟩) hpl).trans p0'
        have p1' := (hb12.cell (p := ⟨bP, 1, none⟩) hpl).trans p1'
        have p2' := (hb12.cell (p := ⟨bP, 2, none⟩) hpl).trans p2'
        have p3' := (hb12.cell (p := ⟨bP, 3, none⟩) hpl).trans p3'
        have p4' := (hb12.cell (p := ⟨bP, 4, none⟩) hpl).trans p4'
        have p5' := (hb12.cell (p := ⟨bP, 5, none⟩) hpl).trans p5'
        have p6' := (hb12.cell (p := ⟨bP, 6, none⟩) hpl).trans p6'
        have HL12 := Lib.hid (And.intro (HL11.out.1.below hb12 (Nat.le_refl _)) (Bthen HL11.out.2 hb12))
        clear hw12 hb12
        go_wp2_with fail
        go_at_call 54
        refine (sright_calls K1 a2 c2 (⟨L, false, bits, false, 0, sp⟩ : Ent) w12 (by omega) HL12.out.1.rd (by show L.length ≤ _; omega) HR.out.2.2.1 (HE.out.1.below HL12.out.2).kv).mono ?_
        rintro e w13 ⟨rfl, hb13⟩
        rw [HR.out.1]
        have HF13 := Lib.hid (Bthen HL12.out.2 hb13)
        clear hb13
        go_wp2_with fail
        go_ret
        exact ⟨rfl, HF13.out⟩
      · have hq1 : (T1.toList == T2.toList) = false := beq_eq_false_iff_ne.2 (fun e => by
          rw [ByteArray.toList_eq, ByteArray.toList_eq] at e
          have e2' : d T1 = d T2 := e
          rw [HD.out.1, HD.out.2] at e2'
          obtain ⟨z1, z2⟩ := text_inj HR.out.1 HR.out.2.2.2.1 HR.out.2.1 HR.out.2.2.2.2.1 e2'
          exact hpq ⟨data_inj z1, z2⟩)
        have HPQ := Lib.hid hpq
        clear hpq
        go_wp2_with fail
        go_at_call 36
        have hA := RdI.new w9 [⟨K1, a2, c2, (⟨L, false, bits, false, 0, sp⟩ : Ent)⟩] #[.string K1, .slice a2 L.length c2, .bool false, .int .u64 bits, .bool false, .int .i64 0, .int .i64 sp] rfl (fun z hz => by obtain rfl := List.mem_singleton.1 hz; exact HP9.out.2.1)
        have hA2 := hA.below ((Below.refl _ _).alloc (Nat.le_refl _) (.cells #[.string K2, .slice a4 e2.lab.length c4, .bool e2.mark, .int .u64 e2.bits, .bool e2.st, .int .i64 e2.time, .int .i64 e2.stamp] 61)) (Nat.le_refl _)
        have hC := RdI.new (w9.alloc (.cells #[.string K1, .slice a2 L.length c2, .bool false, .int .u64 bits, .bool false, .int .i64 0, .int .i64 sp] 61)) [⟨K2, a4, c4, e2⟩] #[.string K2, .slice a4 e2.lab.length c4, .bool e2.mark, .int .u64 e2.bits, .bool e2.st, .int .i64 e2.time, .int .i64 e2.stamp] rfl (fun z hz => by obtain rfl := List.mem_singleton.1 hz; exact HP9.out.2.2.1.below ((Below.refl _ _).alloc (Nat.le_refl _) _) (Nat.le_refl _))
        simp only [World.size_alloc] at hC
        have hcall := items1_no _ _ 1 1 _ _ _ hA2 hC (by show L.length ≤ _; omega) (fun e => by
          simp only [SI.it, It.mk.injEq] at e
          exact HPQ.out ⟨e.1, e.2⟩)
        refine hcall.mono ?_
        clear hcall hA hA2 hC p0' p1' p2' p3' p4' p5' p6' q0' q1' q2' q3' q4' q5' q6' hpl hql
        rintro e w11 ⟨rfl, hb11⟩
        replace hb11 : Below w9.heap.size w9 w11 := Bthen (((Below.refl _ _).alloc (Nat.le_refl _) _).alloc (by simp) _) hb11
        have hs11 := hb11.size
        have hp11 := (hb11.block _ (isT_of HP9.out.1).lt).trans HP9.out.1
        have p0' := block_cell hp11 0 _ rfl
        have p1' := block_cell hp11 1 _ rfl
        have p2' := block_cell hp11 2 _ rfl
        have p3' := block_cell hp11 3 _ rfl
        have p4' := block_cell hp11 4 _ rfl
        have p5' := block_cell hp11 5 _ rfl
        have p6' := block_cell hp11 6 _ rfl
        have hpl := (isT_of hp11).lt
        have HL11 := Lib.hid (And.intro (HP9.out.2.1.below hb11 (Nat.le_refl _)) (Bthen HP9.out.2.2.2 hb11))
        clear hb11 hp11 hs11
        go_wp2_with fail
        go_at_call 53
        have hcall := Tryz.strings_Fields_laid T1 w11 (by omega) (fun j b hj => text_ascii (d K1) (⟨L, false, bits, false, 0, sp⟩ : Ent) HR.out.2.1.b1 b (by have := List.mem_of_getElem? hj; rw [← HD.out.1]; exact this)) (Lib.tabBelow_of_tabIs HE.out.2.2 w11 HL11.out.2)
        rw [show Go.Lib.fields T1.data.toList = wordsT (d K1) (⟨L, false, bits, false, 0, sp⟩ : Ent) by rw [← fields_text _ _ HR.out.2.1.b1, ← HD.out.1]] at hcall
        rw [show (wordsT (d K1) (⟨L, false, bits, false, 0, sp⟩ : Ent)).length = 6 from words_len _ _] at hcall
        refine hcall.mono ?_
        clear hcall
        rintro e w12 ⟨rfl, hw12⟩
        have hb12 : Below w11.heap.size w11 w12 := by rw [hw12]; exact (Below.refl _ _).alloc (Nat.le_refl _) _
        have p0' := (hb12.cell (p := ⟨bP, 0, none⟩) hpl).trans p0'
        have p1' := (hb12.cell (p := ⟨bP, 1, none⟩) hpl).trans p1'
        have p2' := (hb12.cell (p := ⟨bP, 2, none⟩) hpl).trans p2'
        have p3' := (hb12.cell (p := ⟨bP, 3, none⟩) hpl).trans p3'
        have p4' := (hb12.cell (p := ⟨bP, 4, none⟩) hpl).trans p4'
        have p5' := (hb12.cell (p := ⟨bP, 5, none⟩) hpl).trans p5'
        have p6' := (hb12.cell (p := ⟨bP, 6, none⟩) hpl).trans p6'
        have HL12 := Lib.hid (And.intro (HL11.out.1.below hb12 (Nat.le_refl _)) (Bthen HL11.out.2 hb12))
        clear hw12 hb12
        go_wp2_with fail
        go_at_call 54
        refine (sright_calls K1 a2 c2 (⟨L, false, bits, false, 0, sp⟩ : Ent) w12 (by omega) HL12.out.1.rd (by show L.length ≤ _; omega) HR.out.2.2.1 (HE.out.1.below HL12.out.2).kv).mono ?_
        rintro e w13 ⟨rfl, hb13⟩
        rw [HR.out.1]
        have HF13 := Lib.hid (Bthen HL12.out.2 hb13)
        clear hb13
        go_wp2_with fail
        go_ret
        exact ⟨rfl, HF13.out⟩
end Go.Proofs.YtiooimdncocfdaaGreatDoor.Sk
