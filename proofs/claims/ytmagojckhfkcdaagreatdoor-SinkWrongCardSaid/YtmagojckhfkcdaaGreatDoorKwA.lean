/- Several parts in one text: KwP, KwA. -/
import Derived.Test.YtmagojckhfkcdaaGreatDoorKxC
import Derived.Test.YtmagojckhfkcdaaGreatDoorKtD
import Derived.Test.YtmagojckhfkcdaaGreatDoorKsE
import Derived.Deep.RegionLaw
/- Chapter 38: the values of the chapter's example. -/
namespace Go.Proofs.YtmagojckhfkcdaaGreatDoor.Sk
open Go Go.RowKit
def kJ : ByteArray := ⟨#[106]⟩ ++ ⟨#[254]⟩ ++ ⟨#[97, 255, 49, 255]⟩
def aw1 : List It := [⟨kJ, entX false 4607182418800017408 20⟩, ⟨kJ, entX true 0 21⟩]
theorem aw1_ok : appErr [] aw1 = 0 := by kernel_rfl
theorem aw2_err : appErr aw1 [⟨kJ, entX true 0 22⟩] = 382 := by kernel_rfl
theorem aw3_err : appErr aw1 [⟨kJ, entX false 5 21⟩] = 381 := by kernel_rfl
theorem aw4_right : itemRight (d kJ) (entX false 4607182418800017408 20) = true := by kernel_rfl
def aw4T : B := [115, 97, 109, 112, 108, 101, 32, 50, 48, 32, 51, 102, 102, 48, 48, 48, 48, 48, 48, 48, 48, 48, 48, 48, 48, 48, 32, 45, 32, 106, 37, 70, 69, 97, 37, 70, 70, 49, 37, 70, 70, 32, 120, 37, 70, 70, 49, 37, 70, 70]
theorem aw4_text : textR (d kJ) (entX false 4607182418800017408 20) = aw4T := by kernel_rfl
end Go.Proofs.YtmagojckhfkcdaaGreatDoor.Sk
/- Chapter 38: awake. -/
namespace Go.Proofs.YtmagojckhfkcdaaGreatDoor.Sk
open Go Go.RowKit
theorem two_ll {w : World} {a b : Option Addr} {c c' : Nat} {e e' : Ent} {l : List Lab} (h : Ll w a c l) (k : Ll w b c' l) (he : e.lab = l := by rfl) (hk : e'.lab = l := by rfl) : ∀ x ∈ [(⟨a, c, e⟩ : SE), ⟨b, c', e'⟩], Ll w x.la x.lc x.e.lab := by
  intro x hx
  rcases List.mem_cons.1 hx with rfl | hx
  · rw [he]; exact h
  · obtain rfl := List.mem_singleton.1 hx
    rw [hk]; exact k
theorem esOk_lab {w : World} {es : List SE} (h : (es.map fun x => x.e.lab).all (fun l => decide (l.length ≤ 1) && l.all fun y => decide (y.2.size ≤ 1)) = true) : EsOk w es := by
  have h1 : ∀ x ∈ es, x.e.lab.length ≤ 1 ∧ ∀ y ∈ x.e.lab, y.2.size ≤ 1 := fun x hx => by
    have := List.all_eq_true.1 h x.e.lab (List.mem_map_of_mem hx)
    simpa using this
  exact ⟨fun x hx => by have := (h1 x hx).1; omega, fun x hx y hy => by have := (h1 x hx).2 y hy; omega⟩
/-- where awake's walk stands: the sink's items; the entry that is named first -/
structure Aw (w wX : World) (b : Nat) (a3 : Option Addr) (its : List It) : Prop where
  sink : ∃ n v l, SinkAt wX (w.heap.size + 1) (w.heap.size + 2) w.heap.size n v l ∧ l.map SI.it = its
  blk : wX.heap[b]? = some (.cells #[.slice a3 1 1, .bool false, .int .u64 4607182418800017408, .bool false, .int .i64 0, .int .i64 20] 34 (0, 0))
  ll : Ll wX a3 1 [(xB, oneB)]
  bel : Below w.heap.size w wX
theorem Aw.below {w wX wY : World} {b : Nat} {a3 : Option Addr} {its : List It} (h : Aw w wX b a3 its) (hb : Below wX.heap.size wX wY) : Aw w wY b a3 its := by
  obtain ⟨n, v, l, hS, hm⟩ := h.sink
  exact ⟨⟨n, v, l, hS.below hb, hm⟩, (hb.block b (isT_of h.blk).lt).trans h.blk, h.ll.below hb (Nat.le_refl _), Bthen h.bel hb⟩
theorem Aw.app {w wX w' : World} {b : Nat} {a3 : Option Addr} {its its' : List It} {n n' : Nat} {v v' : Value} {l l' : List SI} (h : Aw w wX b a3 its) (hS : SinkAt wX (w.heap.size + 1) (w.heap.size + 2) w.heap.size n v l)
    (hS' : SinkAt w' (w.heap.size + 1) (w.heap.size + 2) w.heap.size n' v' l') (hf : Fr (fun k => k = w.heap.size + 1 ∨ k = w.heap.size ∨ v.ownBlock = some k) wX w') (hm : l'.map SI.it = its') : Aw w w' b a3 its' :=
  ⟨⟨n', v', l', hS', hm⟩, hS.keep hf h.blk (by decide) (by decide), hS.ll hf h.ll, h.bel.trans (hS.app_below hf (by omega) (by omega) (by omega))⟩
theorem aw_one {K : ByteArray} (hK : K = kJ) {a b : Option Addr} {l : List SI} (hl : l = []) : appErr (l.map SI.it) (([⟨a, 1, entX false 4607182418800017408 20⟩, ⟨b, 1, entX true 0 21⟩] : List SE).map (toIt K)) = 0 ∧ app (l.map SI.it) (([⟨a, 1, entX false 4607182418800017408 20⟩, ⟨b, 1, entX true 0 21⟩] : List SE).map (toIt K)) = aw1 := by
  rw [hK, hl]
  exact ⟨aw1_ok, by kernel_rfl⟩
theorem aw_two {K : ByteArray} (hK : K = kJ) {a : Option Addr} {its : List It} (hl : its = aw1) : appErr its (([⟨a, 1, entX true 0 22⟩] : List SE).map (toIt K)) = 382 ∧ app its (([⟨a, 1, entX true 0 22⟩] : List SE).map (toIt K)) = aw1 := by
  rw [hK, hl]
  exact ⟨aw2_err, by kernel_rfl⟩
theorem aw_three {K : ByteArray} (hK : K = kJ) {a : Option Addr} {its : List It} (hl : its = aw1) : appErr its (([⟨a, 1, entX false 5 21⟩] : List SE).map (toIt K)) = 381 ∧ app its (([⟨a, 1, entX false 5 21⟩] : List SE).map (toIt K)) = aw1 := by
  rw [hK, hl]
  exact ⟨aw3_err, by kernel_rfl⟩
theorem one_ll {w : World} {a : Option Addr} {c : Nat} {e : Ent} {l : List Lab} (h : Ll w a c l) (he : e.lab = l := by rfl) : ∀ x ∈ [(⟨a, c, e⟩ : SE)], Ll w x.la x.lc x.e.lab := by
  intro x hx
  obtain rfl := List.mem_singleton.1 hx
  rw [he]; exact h
theorem entX_in {m : Bool} {b s : Int} (h0 : 0 ≤ b) (h1 : b < 18446744073709551616) (h2 : 0 ≤ s) (h3 : s ≤ 1000) : EntIn (entX m b s) := by
  refine ⟨h0, h1, by show (-9223372036854775808 : Int) ≤ 0; decide, by show (0 : Int) ≤ _; decide, ?_, ?_⟩
  · show (-9223372036854775808 : Int) ≤ s
    omega
  · show s ≤ 9223372036854775807
    omega
theorem aw_text {K : ByteArray} (hK : K = kJ) : (⟨(textT (d K) (entX false 4607182418800017408 20)).toArray⟩ : ByteArray) = ⟨aw4T.toArray⟩ ∧ textErr (d K) (entX false 4607182418800017408 20) = 0 := by
  rw [hK]
  unfold textT textErr
  rw [if_pos aw4_right, if_pos aw4_right, aw4_text]
  exact ⟨rfl, rfl⟩
set_option maxRecDepth 100000 in
set_option maxHeartbeats 4000000 in
theorem awake_calls (w : World) (hE : Ev w) : Calls Tryz.prog 4 #[] w fun e w' => e = .returned (.bool true) ∧ Below w.heap.size w w' := by
  have HE := Lib.hid hE
  clear hE
  go_enter Tryz.func4, Tryz.ntmps4
  go_wp2_with fail
  go_at_call 5
  refine (new_calls w).mono ?_
  rintro e w1 ⟨rfl, hS1, hb1, hs1⟩
  have HS1 := Lib.hid hS1
  have HB1 := Lib.hid hb1
  clear hS1 hb1
  go_wp2_with fail
  go_at_call 19
  refine (key_calls ⟨#[106]⟩ ⟨#[49]⟩ 106 49 (Sb.of 106 (by decide)) (Sb.of 49 (by decide)) w1).mono ?_
  rintro e w2 ⟨rfl, hb2⟩
  obtain ⟨K, hK⟩ : ∃ K, K = kJ := ⟨_, rfl⟩
  rw [show (⟨#[106]⟩ : ByteArray) ++ ⟨#[254]⟩ ++ ⟨#[97, 255, 49, 255]⟩ = K from hK.symm]
  have HK := Lib.hid hK
  have HS2 := Lib.hid (HS1.out.below hb2)
  have HB2 := Lib.hid (Bthen HB1.out hb2)
  clear hb2 hK
  go_wp2_with fail
  go_at_call 20
  refine (sample_calls 20 4607182418800017408 w2).mono ?_
  rintro e w3 ⟨a3, rfl, hl3, hb3⟩
  have HS3 := Lib.hid (HS2.out.below hb3)
  have HB3 := Lib.hid (Bthen HB2.out hb3)
  have HL3 := Lib.hid hl3
  clear hb3 hl3
  go_wp2_with fail
  obtain ⟨W4, hW4⟩ : ∃ W, W = w3.alloc (.cells #[.slice a3 1 1, .bool false, .int .u64 4607182418800017408, .bool false, .int .i64 0, .int .i64 20] 34) := ⟨_, rfl⟩
  rw [← hW4]
  have hbk4 : W4.heap[w3.heap.size]? = some (.cells #[.slice a3 1 1, .bool false, .int .u64 4607182418800017408, .bool false, .int .i64 0, .int .i64 20] 34 (0, 0)) := by rw [hW4]; exact heap_alloc_new w3 _
  have hlt4 : w3.heap.size < W4.heap.size := (isT_of hbk4).lt
  have hb34 : Below w3.heap.size w3 W4 := by rw [hW4]; exact (Below.refl _ _).alloc (Nat.le_refl _) _
  have HB4 := Lib.hid (Bthen HB3.out hb34)
  have HA4 : Hid (Aw w W4 w3.heap.size a3 []) := Lib.hid ⟨⟨_, _, _, HS3.out.below hb34, rfl⟩, hbk4, HL3.out.below hb34 (Nat.le_refl _), HB4.out⟩
  have HS4 := Lib.hid (HS3.out.below hb34)
  have HE4 := Lib.hid (HE.out.below HB4.out)
  have HK4 := Lib.hid hbk4
  have e0 := block_cell hbk4 0 _ rfl
  have e1 := block_cell hbk4 1 _ rfl
  have e2 := block_cell hbk4 2 _ rfl
  have e3 := block_cell hbk4 3 _ rfl
  have e4 := block_cell hbk4 4 _ rfl
  have e5 := block_cell hbk4 5 _ rfl
  obtain ⟨b, hb⟩ : ∃ b, b = w3.heap.size := ⟨_, rfl⟩
  rw [← hb] at HA4 HK4 hlt4 e0 e1 e2 e3 e4 e5 ⊢
  clear hW4 hbk4 hb34 hb
  go_region_law (first
    | (go_simp; go_at_call 21; refine (marker_calls 21 _).mono ?_; rintro e w5 ⟨a5, rfl, hl5, hb5⟩
       have hbk5 := (hb5.block b (by simpa using hlt4)).trans HK4.out
       have q0 := block_cell hbk5 0 _ rfl
       have q1 := block_cell hbk5 1 _ rfl
       have q2 := block_cell hbk5 2 _ rfl
       have q3 := block_cell hbk5 3 _ rfl
       have q4 := block_cell hbk5 4 _ rfl
       have q5 := block_cell hbk5 5 _ rfl
       have HK5 := Lib.hid hbk5
       clear hbk5)
    | (go_simp; go_at_call 11
       have hb45 : Below W4.heap.size W4 w5 := (Below.refl _ _).drew.trans (hb5.mono (by simp))
       refine (append_calls _ K (some ⟨w5.heap.size, 0, none⟩) 2 [⟨a3, 1, entX false 4607182418800017408 20⟩, ⟨a5, 1, entX true 0 21⟩] (by exact HS4.out.below (hb45.alloc hb45.size _)) (by exact HE4.out.kv.below (hb45.alloc hb45.size _) (Nat.le_refl _)) (by rw [HK.out]; decide) (by exact RdE.new w5 _ _ rfl (two_ll (HA4.out.ll.below hb45 (Nat.le_refl _)) hl5)) (esOk_lab (by rfl)) (by simp)).mono ?_
       rintro e w6 ⟨rfl, n1, v1, l1, hS1, hm1, hf1, -⟩
       rw [(aw_one HK.out rfl).1]
       have HA6 := Lib.hid ((HA4.out.below (hb45.alloc hb45.size _)).app (HS4.out.below (hb45.alloc hb45.size _)) hS1 hf1 (hm1.trans (aw_one HK.out rfl).2))
       clear hS1 hm1 hf1 hb45))
  all_goals
    clear e0 e1 e2 e3 e4 e5 q0 q1 q2 q3 q4 q5 hb5 hl5 HK5 hlt4
    go_wp2_with fail
    go_at_call 21
    refine (marker_calls 22 _).mono ?_
    rintro e w7 ⟨a7, rfl, hl7, hb7⟩
    have HA7 := Lib.hid (HA6.out.below hb7)
    have HL7 := Lib.hid hl7
    clear hl7 hb7
    go_wp2_with fail
    go_at_call 11
    have ha8 : Below w7.heap.size w7 (w7.alloc (.cells #[.slice a7 1 1, .bool true, .int .u64 0, .bool false, .int .i64 0, .int .i64 22] 34)) := (Below.refl _ _).alloc (Nat.le_refl _) _
    obtain ⟨n7, v7, l7, hS7, hm7⟩ := (HA7.out.below ha8).sink
    refine (append_calls _ K (some ⟨w7.heap.size, 0, none⟩) 1 [⟨a7, 1, entX true 0 22⟩] hS7 (HE.out.below (HA7.out.below ha8).bel).kv (by rw [HK.out]; decide) (RdE.new w7 _ _ rfl (one_ll HL7.out)) (esOk_lab (by rfl)) (by simp)).mono ?_
    rintro e w8 ⟨rfl, n8, v8, l8, hS8, hm8, hf8, -⟩
    rw [(aw_two HK.out hm7).1]
    have HA8 := Lib.hid ((HA7.out.below ha8).app hS7 hS8 hf8 (hm8.trans (aw_two HK.out hm7).2))
    clear hS7 hm7 hS8 hm8 hf8 ha8
    go_wp2_with fail
    go_at_call 20
    refine (sample_calls 21 5 _).mono ?_
    rintro e w9 ⟨a9, rfl, hl9, hb9⟩
    have HA9 := Lib.hid (HA8.out.below hb9)
    have HL9 := Lib.hid hl9
    clear hl9 hb9
    go_wp2_with fail
    go_at_call 11
    have ha10 : Below w9.heap.size w9 (w9.alloc (.cells #[.slice a9 1 1, .bool false, .int .u64 5, .bool false, .int .i64 0, .int .i64 21] 34)) := (Below.refl _ _).alloc (Nat.le_refl _) _
    obtain ⟨n9, v9, l9, hS9, hm9⟩ := (HA9.out.below ha10).sink
    refine (append_calls _ K (some ⟨w9.heap.size, 0, none⟩) 1 [⟨a9, 1, entX false 5 21⟩] hS9 (HE.out.below (HA9.out.below ha10).bel).kv (by rw [HK.out]; decide) (RdE.new w9 _ _ rfl (one_ll HL9.out)) (esOk_lab (by rfl)) (by simp)).mono ?_
    rintro e w10 ⟨rfl, n10, v10, l10, hS10, hm10, hf10, -⟩
    rw [(aw_three HK.out hm9).1]
    have HA10 := Lib.hid ((HA9.out.below ha10).app hS9 hS10 hf10 (hm10.trans (aw_three HK.out hm9).2))
    clear hS9 hm9 hS10 hm10 hf10 ha10
    have hbk := HA10.out.blk
    have e0 := block_cell hbk 0 _ rfl
    have e1 := block_cell hbk 1 _ rfl
    have e2 := block_cell hbk 2 _ rfl
    have e3 := block_cell hbk 3 _ rfl
    have e4 := block_cell hbk 4 _ rfl
    have e5 := block_cell hbk 5 _ rfl
    clear hbk
    go_wp2_with fail
    go_at_call 9
    refine (text_calls K a3 1 (entX false 4607182418800017408 20) _ (HE.out.below HA10.out.bel) (entX_in (by decide) (by decide) (by decide) (by decide)) (by rw [HK.out]; decide) HA10.out.ll.rd (by decide) (by decide)).mono ?_
    rintro e w11 ⟨rfl, hb11⟩
    rw [(aw_text HK.out).1, (aw_text HK.out).2]
    have HA11 := Lib.hid (HA10.out.below hb11)
    clear hb11 e0 e1 e2 e3 e4 e5
    obtain ⟨n11, v11, l11, hS11, hm11⟩ := HA11.out.sink
    have hlen : l11.length = 2 := by have := congrArg List.length hm11; simpa [aw1] using this
    have hcall := len_calls w11 hS11
    rw [hlen] at hcall
    have HC := Lib.hid hcall
    clear hcall hlen hm11 hS11
    unfold aw4T
    go_wp2_with (go_at_call 22; refine HC.out.mono ?_; rintro e w12 ⟨rfl, rfl⟩)
    go_ret
    exact ⟨rfl, HA11.out.bel⟩
end Go.Proofs.YtmagojckhfkcdaaGreatDoor.Sk
