/- Chapter 38: the law's entry. -/
import Derived.Test.YtmagojckhfkcdaaGreatDoorKiA
import Derived.Test.YtmagojckhfkcdaaGreatDoorKTl
import Derived.Test.YtmagojckhfkcdaaGreatDoorKwA
import Derived.Deep.RegionHeld3
import Derived.Deep.RegionLaw
import Derived.Deep.DeepCutAuto
import Derived.Outline
namespace Go.Proofs.YtmagojckhfkcdaaGreatDoor.Sk
open Go Go.RowKit
/-- what entry gives -/
def EntPost (x : Sm) (st : Int) (w : World) (e : Ending) (w' : World) : Prop :=
  ∃ a c, e = .returned (.tuple #[.string (keyS x), .agg #[.slice a (entS x st).lab.length c, .bool (entS x st).mark, .int .u64 (entS x st).bits, .bool (entS x st).st, .int .i64 (entS x st).time, .int .i64 (entS x st).stamp]]) ∧ Ll w' a c (entS x st).lab ∧ Below w.heap.size w w'
theorem blk_new {w w' : World} {cs : Array Value} {T : TypeId} (hb : Below (w.alloc (.cells cs T)).heap.size (w.alloc (.cells cs T)) w') : w'.heap[w.heap.size]? = some (.cells cs T (0, 0)) :=
  (hb.block _ (by simp)).trans (heap_alloc_new w _)
theorem Bthen' {B : Nat} {a b c : World} (h : Below B a b) (k : Below b.heap.size b c) (hB : B ≤ a.heap.size := by omega) : Below B a c := h.trans (k.mono (Nat.le_trans hB h.size))
theorem lone_b (nm vl : ByteArray) (w : World) : Calls Tryz.prog 8 #[.string nm, .string vl] w fun e w' => ∃ a, e = .returned (.slice a 1 1) ∧ Ll w' a 1 [(nm, vl)] ∧ Below w.heap.size w w' :=
  (lone_calls nm vl w).mono fun e w' ⟨h1, h2⟩ => ⟨_, h1, by rw [h2]; exact oneW_ll w nm vl, by rw [h2]; exact oneW_below w nm vl⟩
/-- behind its second -/
def E2Rel (g : Nat) (cs : Array Value) (wc wx : World) : Prop := wx.heap[g]? = some (.cells cs 34 (0, 0)) ∧ Fr (fun k => k = g) wc wx
/-- behind the entry's first statement -/
def E1Rel (L : List Lab) (st : Int) (m : Bool) (W1 : World) (s6 : Value) (wx : World) : Prop :=
  ∃ g a c, s6 = .pointer (some ⟨g, 0, none⟩) ∧ wx.heap[g]? = some (.cells #[.slice a L.length c, .bool m, .int .u64 0, .bool false, .int .i64 0, .int .i64 st] 34 (0, 0)) ∧ Ll wx a c L ∧ W1.heap.size ≤ g ∧ Below W1.heap.size W1 wx
theorem setCell_six {w : World} {p : Nat} {a0 a1 a2 a3 a4 a5 b0 b1 b2 b3 b4 b5 : Value} {T : TypeId} (h : w.heap[p]? = some (.cells #[a0, a1, a2, a3, a4, a5] T (0, 0))) :
    ((((((w.setCell ⟨p, 0, none⟩ b0).setCell ⟨p, 1, none⟩ b1).setCell ⟨p, 2, none⟩ b2).setCell ⟨p, 3, none⟩ b3).setCell ⟨p, 4, none⟩ b4).setCell ⟨p, 5, none⟩ b5).heap[p]? = some (.cells #[b0, b1, b2, b3, b4, b5] T (0, 0)) := by
  unfold World.setCell
  simp only [Array.getElem?_modify, h]
  rfl
theorem Fr.alloc {X : Nat → Prop} {w w' : World} (h : Fr X w w') (o : Obj) : Fr X w (w'.alloc o) := ⟨h.os, h.tape, h.output, by have := h.size; simp; omega, fun k hk hx => (Below.heap_alloc w' o k (Nat.lt_of_lt_of_le hk h.size)).trans (h.block k hk hx)⟩
theorem Fr.drew {X : Nat → Prop} {w w' : World} (h : Fr X w w') : Fr X w w'.drew := ⟨h.os, h.tape, h.output, h.size, h.block⟩
theorem e2_set {g : Nat} {w : World} {a0 a1 a2 a3 a4 a5 b2 b3 : Value} (hg : w.heap[g]? = some (.cells #[a0, a1, a2, a3, a4, a5] 34 (0, 0))) : E2Rel g #[a0, a1, b2, b3, a4, a5] w ((w.setCell ⟨g, 2, none⟩ b2).setCell ⟨g, 3, none⟩ b3).drew := by
  refine ⟨?_, Fr.drew ?_⟩
  · show ((w.setCell ⟨g, 2, none⟩ b2).setCell ⟨g, 3, none⟩ b3).heap[g]? = _
    unfold World.setCell
    simp only [Array.getElem?_modify, hg]
    rfl
  · iterate 2 (refine Fr.setCell ?_ (by exact rfl) _)
    exact Fr.refl _ _
theorem e3_set {g : Nat} {w : World} {a0 a1 a2 a3 a4 a5 b4 : Value} (hg : w.heap[g]? = some (.cells #[a0, a1, a2, a3, a4, a5] 34 (0, 0))) : E2Rel g #[a0, a1, a2, a3, b4, a5] w (w.setCell ⟨g, 4, none⟩ b4) := by
  refine ⟨?_, Fr.setCell (X := fun k => k = g) (Fr.refl _ _) rfl _⟩
  unfold World.setCell
  simp only [Array.getElem?_modify, hg]
  rfl
section
variable {L : List Lab} {st : Int} {m : Bool} {W1 w6 : World} {a : Option Addr} {c : Nat} {A : Obj}
theorem e1_last (hB : Below W1.heap.size W1 w6) (hl : Ll w6 a c L) : E1Rel L st m W1 (.pointer (some ⟨w6.heap.size + 1, 0, none⟩)) ((w6.alloc A).alloc (.cells #[.slice a L.length c, .bool m, .int .u64 0, .bool false, .int .i64 0, .int .i64 st] 34)) := by
  have hb : Below w6.heap.size w6 ((w6.alloc A).alloc (.cells #[.slice a L.length c, .bool m, .int .u64 0, .bool false, .int .i64 0, .int .i64 st] 34)) := ((Below.refl _ _).alloc (Nat.le_refl _) _).alloc (by simp) _
  refine ⟨_, a, c, rfl, ?_, hl.below hb (Nat.le_refl _), by have := hB.size; omega, Bthen' hB hb⟩
  have := heap_alloc_new (w6.alloc A) (.cells #[.slice a L.length c, .bool m, .int .u64 0, .bool false, .int .i64 0, .int .i64 st] 34)
  simpa using this
theorem e1_first (hB : Below W1.heap.size W1 w6) (hl : Ll w6 a c L) : E1Rel L st m W1 (.pointer (some ⟨w6.heap.size, 0, none⟩)) ((w6.alloc (.cells #[.slice a L.length c, .bool m, .int .u64 0, .bool false, .int .i64 0, .int .i64 st] 34)).alloc A) := by
  have hb : Below w6.heap.size w6 ((w6.alloc (.cells #[.slice a L.length c, .bool m, .int .u64 0, .bool false, .int .i64 0, .int .i64 st] 34)).alloc A) := ((Below.refl _ _).alloc (Nat.le_refl _) _).alloc (by simp) _
  refine ⟨_, a, c, rfl, ?_, hl.below hb (Nat.le_refl _), hB.size, Bthen' hB hb⟩
  rw [Below.heap_alloc _ _ _ (by simp)]
  exact heap_alloc_new w6 _
theorem e1_set {g : Nat} {a0 a1 a2 a3 a4 a5 : Value} (hB : Below W1.heap.size W1 w6) (hl : Ll w6 a c L) (hg : w6.heap[g]? = some (.cells #[a0, a1, a2, a3, a4, a5] 34 (0, 0))) (hW : W1.heap.size ≤ g) :
    E1Rel L st m W1 (.pointer (some ⟨g, 0, none⟩)) (((((((w6.setCell ⟨g, 0, none⟩ (.slice a L.length c)).setCell ⟨g, 1, none⟩ (.bool m)).setCell ⟨g, 2, none⟩ (.int .u64 0)).setCell ⟨g, 3, none⟩ (.bool false)).setCell ⟨g, 4, none⟩ (.int .i64 0)).setCell ⟨g, 5, none⟩ (.int .i64 st)).alloc A) := by
  have h6 := setCell_six (b0 := .slice a L.length c) (b1 := .bool m) (b2 := .int .u64 0) (b3 := .bool false) (b4 := .int .i64 0) (b5 := .int .i64 st) hg
  have hf : Fr (fun k => k = g) w6 ((((((w6.setCell ⟨g, 0, none⟩ (.slice a L.length c)).setCell ⟨g, 1, none⟩ (.bool m)).setCell ⟨g, 2, none⟩ (.int .u64 0)).setCell ⟨g, 3, none⟩ (.bool false)).setCell ⟨g, 4, none⟩ (.int .i64 0)).setCell ⟨g, 5, none⟩ (.int .i64 st)) := by
    iterate 6 (refine Fr.setCell ?_ (by exact rfl) _)
    exact Fr.refl _ _
  have hB2 := hB.trans (hf.below (B := W1.heap.size) (fun k hk e => by omega) hB.size)
  refine ⟨g, a, c, rfl, ?_, (hl.fr hf (fun b hb e => hb.ne (isT_of hg) (by decide) e)).below ((Below.refl _ _).alloc (Nat.le_refl _) A) (Nat.le_refl _), hW, hB2.alloc hB2.size A⟩
  rw [Below.heap_alloc _ _ _ (isT_of h6).lt]
  exact h6
end
theorem entPost_mk {x : Sm} {st : Int} {w w9 : World} {a : Option Addr} {c : Nat} {L : List Lab} {m sv : Bool} {bv tv : Int} {K : ByteArray} (hL : L = serN (x.ser % 3)) (hm : m = markS x) (hb : bv = (entS x st).bits) (hs : sv = stS x) (ht : tv = (entS x st).time) (hK : K = keyS x) (hl : Ll w9 a c L) (hB : Below w.heap.size w w9) :
    EntPost x st w (.returned (.tuple #[.string K, .agg #[.slice a L.length c, .bool m, .int .u64 bv, .bool sv, .int .i64 tv, .int .i64 st]])) w9 := by
  subst hL hm hb hs ht hK
  exact ⟨a, c, rfl, hl, hB⟩
theorem nil_ll (w : World) : Ll w none 0 [] := ⟨RdL.nil _ _, fun _ => ⟨rfl, rfl⟩, fun h => absurd rfl h⟩
set_option maxRecDepth 100000 in
set_option maxHeartbeats 8000000 in
theorem entry_calls (x : Sm) (hx : SmOk x) (st : Int) (w : World) :
    Calls Tryz.prog 7 #[.agg #[.int .u8 x.key, .int .u8 x.ser, .int .u8 x.kind, .int .u8 x.more], .int .i64 st] w (EntPost x st w) := by
  obtain ⟨hk0, hk1, hs0, hs1, hd0, hd1, hm0, hm1⟩ := hx
  obtain ⟨L, hL⟩ : ∃ L, L = serN (x.ser % 3) := ⟨_, rfl⟩
  obtain ⟨m, hm⟩ : ∃ m, m = markS x := ⟨_, rfl⟩
  have hkt : (x.kind.tmod 3 == 0) = m := by rw [hm, Int.tmod_eq_emod_of_nonneg hd0]; unfold markS; rw [Bool.eq_iff_iff]; simp
  have HL := Lib.hid (And.intro hL hm)
  clear hL hm
  go_enter Tryz.func7, Tryz.ntmps7
  go_upto_region 1 with fail
  obtain ⟨W1, hW1⟩ : ∃ W, W = (w.alloc (.cells #[.int .u8 x.key, .int .u8 x.ser, .int .u8 x.kind, .int .u8 x.more] 24)).alloc (.cells #[.slice none 0 0, .bool false, .int .u64 0, .bool false, .int .i64 0, .int .i64 0] 34) := ⟨_, rfl⟩
  rw [← hW1]
  have hS : W1.heap[w.heap.size]? = some (.cells #[.int .u8 x.key, .int .u8 x.ser, .int .u8 x.kind, .int .u8 x.more] 24 (0, 0)) := by
    rw [hW1, Below.heap_alloc _ _ _ (by simp)]; exact heap_alloc_new w _
  have hR : W1.heap[w.heap.size + 1]? = some (.cells #[.slice none 0 0, .bool false, .int .u64 0, .bool false, .int .i64 0, .int .i64 0] 34 (0, 0)) := by
    rw [hW1]; have := heap_alloc_new (w.alloc (.cells #[.int .u8 x.key, .int .u8 x.ser, .int .u8 x.kind, .int .u8 x.more] 24)) (.cells #[.slice none 0 0, .bool false, .int .u64 0, .bool false, .int .i64 0, .int .i64 0] 34); simpa using this
  have hz1 : W1.heap.size = w.heap.size + 2 := by rw [hW1]; simp
  have HP : Hid (∀ w', Below W1.heap.size W1 w' → w'.cell? ⟨w.heap.size, 1, none⟩ = some (.int .u8 x.ser) ∧ w'.cell? ⟨w.heap.size, 2, none⟩ = some (.int .u8 x.kind)) := Lib.hid (fun w' hb => by
    have := (hb.block w.heap.size (by omega)).trans hS
    exact ⟨block_cell this 1 _ rfl, block_cell this 2 _ rfl⟩)
  have HSR := Lib.hid (And.intro hS hR)
  have HB1 : Hid (Below w.heap.size w W1) := Lib.hid (by rw [hW1]; exact ((Below.refl _ _).alloc (Nat.le_refl _) _).alloc (by simp) _)
  clear hW1 hS hR
  go_cut [6] (fun s6 wx => E1Rel L st m W1 s6 wx)
  case first =>
    rcases (show x.ser % 3 = 0 ∨ x.ser % 3 = 1 ∨ x.ser % 3 = 2 by omega) with hs | hs | hs
    all_goals
      have hst := Int.tmod_eq_emod_of_nonneg (b := 3) hs0
      rw [hs] at hst
      have HS := Lib.hid hs
      clear hs
      refine wp_region_held_drew (S := fun w' : World => w'.cell? ⟨w.heap.size, 1, none⟩ = some (.int .u8 x.ser) ∧ w'.cell? ⟨w.heap.size, 2, none⟩ = some (.int .u8 x.kind)) (by kernel_rfl) ?_ (fun hHeld => ?_)
      · exact HP.out _ (Below.refl _ _).drew
      refine wpAnyH_take (i := 3) (oi := ⟨_, _, _, _, _, _⟩) (v := _) rfl (by kernel_rfl) (by kernel_rfl) (by kernel_rfl) (fun _ _ _ h => h) (Or.inl ⟨by rfl, by intro wq hSw; (try dsimp only at hSw); go_simp; (try with_reducible rfl)⟩) (by assumption) ?_
      try simp only [Act.put, List.setIfInBounds_toArray, List.set_cons_zero, List.set_cons_succ]
      refine wpAnyH_take (i := 4) (oi := ⟨_, _, _, _, _, _⟩) (v := _) rfl (by kernel_rfl) (by kernel_rfl) (by kernel_rfl) (fun _ _ _ h => h) (Or.inl ⟨by rfl, by intro wq hSw; (try dsimp only at hSw); go_simp; (try with_reducible rfl)⟩) (by assumption) ?_
      try simp only [Act.put, List.setIfInBounds_toArray, List.set_cons_zero, List.set_cons_succ]
      refine wpAnyH_take (i := 5) (oi := ⟨_, _, _, _, _, _⟩) (v := _) rfl (by kernel_rfl) (by kernel_rfl) (by kernel_rfl) (fun _ _ _ h => h) (Or.inl ⟨by rfl, by intro wq hSw; (try dsimp only at hSw); go_simp; (try with_reducible rfl)⟩) (by assumption) ?_
      try simp only [Act.put, List.setIfInBounds_toArray, List.set_cons_zero, List.set_cons_succ]
      refine wpAnyH_take (i := 8) (oi := ⟨_, _, _, _, _, _⟩) (v := _) rfl (by kernel_rfl) (by kernel_rfl) (by kernel_rfl) (fun _ _ _ h => h) (Or.inl ⟨by rfl, by intro wq hSw; (try dsimp only at hSw); go_simp; (try with_reducible rfl)⟩) (by assumption) ?_
      try simp only [Act.put, List.setIfInBounds_toArray, List.set_cons_zero, List.set_cons_succ]
      refine wpAnyH_take (i := 9) (oi := ⟨_, _, _, _, _, _⟩) (v := _) rfl (by kernel_rfl) (by kernel_rfl) (by kernel_rfl) (fun _ _ _ h => h) (Or.inl ⟨by rfl, by intro wq hSw; (try dsimp only at hSw); go_simp; (try with_reducible rfl)⟩) (by assumption) ?_
      try simp only [Act.put, List.setIfInBounds_toArray, List.set_cons_zero, List.set_cons_succ]
      refine wpAnyH_take (i := 10) (oi := ⟨_, _, _, _, _, _⟩) (v := _) rfl (by kernel_rfl) (by kernel_rfl) (by kernel_rfl) (fun _ _ _ h => h) (Or.inl ⟨by rfl, by intro wq hSw; (try dsimp only at hSw); go_simp; (try with_reducible rfl)⟩) (by assumption) ?_
      try simp only [Act.put, List.setIfInBounds_toArray, List.set_cons_zero, List.set_cons_succ]
      refine wpAnyH_take (i := 11) (oi := ⟨_, _, _, _, _, _⟩) (v := _) rfl (by kernel_rfl) (by kernel_rfl) (by kernel_rfl) (fun _ _ _ h => h) (Or.inl ⟨by rfl, by intro wq hSw; (try dsimp only at hSw); go_simp; (try with_reducible rfl)⟩) (by assumption) ?_
      try simp only [Act.put, List.setIfInBounds_toArray, List.set_cons_zero, List.set_cons_succ]
      refine wpAnyH_take (i := 12) (oi := ⟨_, _, _, _, _, _⟩) (v := _) rfl (by kernel_rfl) (by kernel_rfl) (by kernel_rfl) (fun _ _ _ h => h) (Or.inl ⟨by rfl, by intro wq hSw; (try dsimp only at hSw); go_simp; (try with_reducible rfl)⟩) (by assumption) ?_
      try simp only [Act.put, List.setIfInBounds_toArray, List.set_cons_zero, List.set_cons_succ]
      refine wpAnyH_ready (rs := [0, 14]) (by kernel_rfl) (by simp) ?_
      refine AllReadyH.cons (o := ⟨_, _, _, _, _, _⟩) rfl (fun K hK => ?_) (AllReadyH.cons (o := ⟨_, _, _, _, _, _⟩) rfl (fun K hK => ?_) (AllReadyH.nil))
      · go_simp
        go_at_call 8
        refine (lone_b ⟨#[120]⟩ ⟨#[49]⟩ _).mono ?_
        rintro e w5 ⟨a5, rfl, hl5, hb5⟩
        have hB5 : Below W1.heap.size W1 w5 := (Below.refl _ _).drew.trans (hb5.mono (by simp))
        have hs5 := hB5.size
        go_wp2_with fail
        refine hK.out _ _ ?_ (fun hHeld => ?_)
        · exact HP.out _ hB5
        clear hK K
        try simp only [Act.put, List.setIfInBounds_toArray, List.set_cons_zero, List.set_cons_succ]
        refine wpAnyH_ready (rs := [1, 14]) (by kernel_rfl) (by simp) ?_
        refine AllReadyH.cons (o := ⟨_, _, _, _, _, _⟩) rfl (fun K hK => ?_) (AllReadyH.cons (o := ⟨_, _, _, _, _, _⟩) rfl (fun K hK => ?_) (AllReadyH.nil))
        · go_simp
          go_at_call 8
          refine (lone_b ⟨#[120]⟩ ⟨#[50]⟩ _).mono ?_
          rintro e w6 ⟨a6, rfl, hl6, hb6⟩
          have hB6 : Below W1.heap.size W1 w6 := Bthen' hB5 hb6
          have hl5' : Ll w6 a5 1 _ := hl5.below hb6 (Nat.le_refl _)
          have hs6 := hB6.size
          go_wp2_with fail
          refine hK.out _ _ ?_ (fun hHeld => ?_)
          · exact HP.out _ hB6
          clear hK K
          try simp only [Act.put, List.setIfInBounds_toArray, List.set_cons_zero, List.set_cons_succ]
          refine wpAnyH_ready (rs := [2, 14]) (by kernel_rfl) (by simp) ?_
          refine AllReadyH.cons (o := ⟨_, _, _, _, _, _⟩) rfl (fun K hK => ?_) (AllReadyH.cons (o := ⟨_, _, _, _, _, _⟩) rfl (fun K hK => ?_) (AllReadyH.nil))
          · go_simp
            refine hK.out _ _ ?_ (fun hHeld => ?_)
            · go_keep
            clear hK K
            try simp only [Act.put, List.setIfInBounds_toArray, List.set_cons_zero, List.set_cons_succ]
            refine wpAnyH_take (i := 6) (oi := ⟨_, _, _, _, _, _⟩) (v := _) rfl (by kernel_rfl) (by kernel_rfl) (by kernel_rfl) (fun _ _ _ h => h) (Or.inl ⟨by rfl, by intro wq hSw; (try dsimp only at hSw); go_simp; (try with_reducible rfl)⟩) (by assumption) ?_
            try simp only [Act.put, List.setIfInBounds_toArray, List.set_cons_zero, List.set_cons_succ]
            refine wpAnyH_ready (rs := [7, 14]) (by kernel_rfl) (by simp) ?_
            refine AllReadyH.cons (o := ⟨_, _, _, _, _, _⟩) rfl (fun K hK => ?_) (AllReadyH.cons (o := ⟨_, _, _, _, _, _⟩) rfl (fun K hK => ?_) (AllReadyH.nil))
            · go_simp
              refine hK.out _ _ ?_ (fun hHeld => ?_)
              · go_keep
              clear hK K
              try simp only [Act.put, List.setIfInBounds_toArray, List.set_cons_zero, List.set_cons_succ]
              refine wpAnyH_take (i := 13) (oi := ⟨_, _, _, _, _, _⟩) (v := _) rfl (by kernel_rfl) (by kernel_rfl) (by kernel_rfl) (fun _ _ _ h => h) (Or.inl ⟨by rfl, by intro wq hSw; (try dsimp only at hSw); go_simp; (try with_reducible rfl)⟩) (by assumption) ?_
              try simp only [Act.put, List.setIfInBounds_toArray, List.set_cons_zero, List.set_cons_succ]
              refine wpAnyH_ready (rs := [14]) (by kernel_rfl) (by simp) ?_
              refine AllReadyH.cons (o := ⟨_, _, _, _, _, _⟩) rfl (fun K hK => ?_) AllReadyH.nil
              go_simp
              refine hK.out _ _ ?_ (fun hHeld => ?_)
              · go_keep
              clear hK K
              try simp only [Act.put, List.setIfInBounds_toArray, List.set_cons_zero, List.set_cons_succ]
              refine wpAnyH_ready (rs := [15]) (by kernel_rfl) (by simp) ?_
              refine AllReadyH.cons (o := ⟨_, _, _, _, _, _⟩) rfl (fun K hK => ?_) AllReadyH.nil
              go_simp
              refine hK.out _ _ ?_ (fun hHeld => ?_)
              · exact HP.out _ ((hB6.alloc hB6.size _).alloc (by simp; omega) _)
              clear hK K
              try simp only [Act.put, List.setIfInBounds_toArray, List.set_cons_zero, List.set_cons_succ]
              refine wpAnyH_done (by kernel_rfl) ?_ _
              go_wp2_with fail
              go_meet
              first | (rw [show L = [(xB, oneB)] by rw [HL.out.1, HS.out]; rfl]; exact e1_last (L := [(xB, oneB)]) (a := a5) (c := 1) hB6 hl5') | (rw [show L = [(xB, sB2)] by rw [HL.out.1, HS.out]; rfl]; exact e1_last (L := [(xB, sB2)]) (a := a6) (c := 1) hB6 hl6) | (rw [show L = [] by rw [HL.out.1, HS.out]; rfl]; exact e1_last (L := []) (a := none) (c := 0) hB6 (nil_ll _))
            · go_simp
              refine hK.out _ _ ?_ (fun hHeld => ?_)
              · go_keep
              clear hK K
              try simp only [Act.put, List.setIfInBounds_toArray, List.set_cons_zero, List.set_cons_succ]
              refine wpAnyH_ready (rs := [7]) (by kernel_rfl) (by simp) ?_
              refine AllReadyH.cons (o := ⟨_, _, _, _, _, _⟩) rfl (fun K hK => ?_) AllReadyH.nil
              go_simp
              refine hK.out _ _ ?_ (fun hHeld => ?_)
              · go_keep
              clear hK K
              try simp only [Act.put, List.setIfInBounds_toArray, List.set_cons_zero, List.set_cons_succ]
              refine wpAnyH_take (i := 13) (oi := ⟨_, _, _, _, _, _⟩) (v := _) rfl (by kernel_rfl) (by kernel_rfl) (by kernel_rfl) (fun _ _ _ h => h) (Or.inl ⟨by rfl, by intro wq hSw; (try dsimp only at hSw); go_simp; (try with_reducible rfl)⟩) (by assumption) ?_
              try simp only [Act.put, List.setIfInBounds_toArray, List.set_cons_zero, List.set_cons_succ]
              refine wpAnyH_ready (rs := [15]) (by kernel_rfl) (by simp) ?_
              refine AllReadyH.cons (o := ⟨_, _, _, _, _, _⟩) rfl (fun K hK => ?_) AllReadyH.nil
              go_simp
              refine hK.out _ _ ?_ (fun hHeld => ?_)
              · exact HP.out _ ((hB6.alloc hB6.size _).alloc (by simp; omega) _)
              clear hK K
              try simp only [Act.put, List.setIfInBounds_toArray, List.set_cons_zero, List.set_cons_succ]
              refine wpAnyH_done (by kernel_rfl) ?_ _
              go_wp2_with fail
              go_meet
              first | (rw [show L = [(xB, oneB)] by rw [HL.out.1, HS.out]; rfl]; exact e1_last (L := [(xB, oneB)]) (a := a5) (c := 1) hB6 hl5') | (rw [show L = [(xB, sB2)] by rw [HL.out.1, HS.out]; rfl]; exact e1_last (L := [(xB, sB2)]) (a := a6) (c := 1) hB6 hl6) | (rw [show L = [] by rw [HL.out.1, HS.out]; rfl]; exact e1_last (L := []) (a := none) (c := 0) hB6 (nil_ll _))
          · go_simp
            refine hK.out _ _ ?_ (fun hHeld => ?_)
            · go_keep
            clear hK K
            try simp only [Act.put, List.setIfInBounds_toArray, List.set_cons_zero, List.set_cons_succ]
            refine wpAnyH_ready (rs := [2]) (by kernel_rfl) (by simp) ?_
            refine AllReadyH.cons (o := ⟨_, _, _, _, _, _⟩) rfl (fun K hK => ?_) AllReadyH.nil
            go_simp
            refine hK.out _ _ ?_ (fun hHeld => ?_)
            · go_keep
            clear hK K
            try simp only [Act.put, List.setIfInBounds_toArray, List.set_cons_zero, List.set_cons_succ]
            refine wpAnyH_take (i := 6) (oi := ⟨_, _, _, _, _, _⟩) (v := _) rfl (by kernel_rfl) (by kernel_rfl) (by kernel_rfl) (fun _ _ _ h => h) (Or.inl ⟨by rfl, by intro wq hSw; (try dsimp only at hSw); go_simp; (try with_reducible rfl)⟩) (by assumption) ?_
            try simp only [Act.put, List.setIfInBounds_toArray, List.set_cons_zero, List.set_cons_succ]
            refine wpAnyH_ready (rs := [7]) (by kernel_rfl) (by simp) ?_
            refine AllReadyH.cons (o := ⟨_, _, _, _, _, _⟩) rfl (fun K hK => ?_) AllReadyH.nil
            go_simp
            refine hK.out _ _ ?_ (fun hHeld => ?_)
            · go_keep
            clear hK K
            try simp only [Act.put, List.setIfInBounds_toArray, List.set_cons_zero, List.set_cons_succ]
            refine wpAnyH_take (i := 13) (oi := ⟨_, _, _, _, _, _⟩) (v := _) rfl (by kernel_rfl) (by kernel_rfl) (by kernel_rfl) (fun _ _ _ h => h) (Or.inl ⟨by rfl, by intro wq hSw; (try dsimp only at hSw); go_simp; (try with_reducible rfl)⟩) (by assumption) ?_
            try simp only [Act.put, List.setIfInBounds_toArray, List.set_cons_zero, List.set_cons_succ]
            refine wpAnyH_ready (rs := [15]) (by kernel_rfl) (by simp) ?_
            refine AllReadyH.cons (o := ⟨_, _, _, _, _, _⟩) rfl (fun K hK => ?_) AllReadyH.nil
            go_simp
            refine hK.out _ _ ?_ (fun hHeld => ?_)
            · exact HP.out _ ((hB6.alloc hB6.size _).alloc (by simp; omega) _)
            clear hK K
            try simp only [Act.put, List.setIfInBounds_toArray, List.set_cons_zero, List.set_cons_succ]
            refine wpAnyH_done (by kernel_rfl) ?_ _
            go_wp2_with fail
            go_meet
            first | (rw [show L = [(xB, oneB)] by rw [HL.out.1, HS.out]; rfl]; exact e1_first (L := [(xB, oneB)]) (a := a5) (c := 1) hB6 hl5') | (rw [show L = [(xB, sB2)] by rw [HL.out.1, HS.out]; rfl]; exact e1_first (L := [(xB, sB2)]) (a := a6) (c := 1) hB6 hl6) | (rw [show L = [] by rw [HL.out.1, HS.out]; rfl]; exact e1_first (L := []) (a := none) (c := 0) hB6 (nil_ll _))
        · go_simp
          refine hK.out _ _ ?_ (fun hHeld => ?_)
          · go_keep
          clear hK K
          try simp only [Act.put, List.setIfInBounds_toArray, List.set_cons_zero, List.set_cons_succ]
          refine wpAnyH_ready (rs := [1]) (by kernel_rfl) (by simp) ?_
          refine AllReadyH.cons (o := ⟨_, _, _, _, _, _⟩) rfl (fun K hK => ?_) AllReadyH.nil
          go_simp
          go_at_call 8
          refine (lone_b ⟨#[120]⟩ ⟨#[50]⟩ _).mono ?_
          rintro e w6 ⟨a6, rfl, hl6, hb6⟩
          have hB6 : Below W1.heap.size W1 w6 := (hB5.alloc hB5.size _).trans (hb6.mono (by have := hB5.size; simp; omega))
          have hl5' : Ll w6 a5 1 _ := hl5.below (((Below.refl _ _).alloc (Nat.le_refl _) _).trans (hb6.mono (by simp))) (Nat.le_refl _)
          have g6 : w6.heap[w5.heap.size]? = some (.cells #[.slice none 0 0, .bool false, .int .u64 0, .bool false, .int .i64 0, .int .i64 0] 34 (0, 0)) := blk_new hb6
          have z0 := block_cell g6 0 _ rfl
          have z1 := block_cell g6 1 _ rfl
          have z2 := block_cell g6 2 _ rfl
          have z3 := block_cell g6 3 _ rfl
          have z4 := block_cell g6 4 _ rfl
          have z5 := block_cell g6 5 _ rfl
          have y0 := block_froz g6 0
          have y1 := block_froz g6 1
          have y2 := block_froz g6 2
          have y3 := block_froz g6 3
          have y4 := block_froz g6 4
          have y5 := block_froz g6 5
          have hl6b := (isT_of g6).lt
          have hs6 := hB6.size
          go_wp2_with fail
          refine hK.out _ _ ?_ (fun hHeld => ?_)
          · exact HP.out _ hB6
          clear hK K
          try simp only [Act.put, List.setIfInBounds_toArray, List.set_cons_zero, List.set_cons_succ]
          refine wpAnyH_ready (rs := [2]) (by kernel_rfl) (by simp) ?_
          refine AllReadyH.cons (o := ⟨_, _, _, _, _, _⟩) rfl (fun K hK => ?_) AllReadyH.nil
          go_simp
          refine hK.out _ _ ?_ (fun hHeld => ?_)
          · go_keep
          clear hK K
          try simp only [Act.put, List.setIfInBounds_toArray, List.set_cons_zero, List.set_cons_succ]
          refine wpAnyH_take (i := 6) (oi := ⟨_, _, _, _, _, _⟩) (v := _) rfl (by kernel_rfl) (by kernel_rfl) (by kernel_rfl) (fun _ _ _ h => h) (Or.inl ⟨by rfl, by intro wq hSw; (try dsimp only at hSw); go_simp; (try with_reducible rfl)⟩) (by assumption) ?_
          try simp only [Act.put, List.setIfInBounds_toArray, List.set_cons_zero, List.set_cons_succ]
          refine wpAnyH_ready (rs := [7]) (by kernel_rfl) (by simp) ?_
          refine AllReadyH.cons (o := ⟨_, _, _, _, _, _⟩) rfl (fun K hK => ?_) AllReadyH.nil
          go_simp
          refine hK.out _ _ ?_ (fun hHeld => ?_)
          · go_keep
          clear hK K
          try simp only [Act.put, List.setIfInBounds_toArray, List.set_cons_zero, List.set_cons_succ]
          refine wpAnyH_take (i := 13) (oi := ⟨_, _, _, _, _, _⟩) (v := _) rfl (by kernel_rfl) (by kernel_rfl) (by kernel_rfl) (fun _ _ _ h => h) (Or.inl ⟨by rfl, by intro wq hSw; (try dsimp only at hSw); go_simp; (try with_reducible rfl)⟩) (by assumption) ?_
          try simp only [Act.put, List.setIfInBounds_toArray, List.set_cons_zero, List.set_cons_succ]
          refine wpAnyH_ready (rs := [15]) (by kernel_rfl) (by simp) ?_
          refine AllReadyH.cons (o := ⟨_, _, _, _, _, _⟩) rfl (fun K hK => ?_) AllReadyH.nil
          go_simp
          refine hK.out _ _ ?_ (fun hHeld => ?_)
          · exact HP.out _ (Below.alloc (Below.setCell (Below.setCell (Below.setCell (Below.setCell (Below.setCell (Below.setCell hB6 (by simp only; omega) _) (by simp only; omega) _) (by simp only; omega) _) (by simp only; omega) _) (by simp only; omega) _) (by simp only; omega) _) (by simp; omega) _)
          clear hK K
          try simp only [Act.put, List.setIfInBounds_toArray, List.set_cons_zero, List.set_cons_succ]
          refine wpAnyH_done (by kernel_rfl) ?_ _
          go_wp2_with fail
          go_meet
          first | (rw [show L = [(xB, oneB)] by rw [HL.out.1, HS.out]; rfl]; exact e1_set (L := [(xB, oneB)]) (a := a5) (c := 1) hB6 hl5' g6 (by omega)) | (rw [show L = [(xB, sB2)] by rw [HL.out.1, HS.out]; rfl]; exact e1_set (L := [(xB, sB2)]) (a := a6) (c := 1) hB6 hl6 g6 (by omega)) | (rw [show L = [] by rw [HL.out.1, HS.out]; rfl]; exact e1_set (L := []) (a := none) (c := 0) hB6 (nil_ll _) g6 (by omega))
      · go_simp
        refine hK.out _ _ ?_ (fun hHeld => ?_)
        · exact HP.out _ (((Below.refl _ _).alloc (Nat.le_refl _) _).drew)
        clear hK K
        try simp only [Act.put, List.setIfInBounds_toArray, List.set_cons_zero, List.set_cons_succ]
        refine wpAnyH_ready (rs := [0]) (by kernel_rfl) (by simp) ?_
        refine AllReadyH.cons (o := ⟨_, _, _, _, _, _⟩) rfl (fun K hK => ?_) AllReadyH.nil
        go_simp
        go_at_call 8
        refine (lone_b ⟨#[120]⟩ ⟨#[49]⟩ _).mono ?_
        rintro e w5 ⟨a5, rfl, hl5, hb5⟩
        have hB5 : Below W1.heap.size W1 w5 := ((Below.refl _ _).alloc (Nat.le_refl _) _).drew.trans (hb5.mono (by simp))
        have g5 : w5.heap[W1.heap.size]? = some (.cells #[.slice none 0 0, .bool false, .int .u64 0, .bool false, .int .i64 0, .int .i64 0] 34 (0, 0)) := blk_new ((Below.refl _ _).drew.trans (hb5.mono (by simp)))
        rw [hz1] at g5
        have hs5 := hB5.size
        go_wp2_with fail
        refine hK.out _ _ ?_ (fun hHeld => ?_)
        · exact HP.out _ hB5
        clear hK K
        try simp only [Act.put, List.setIfInBounds_toArray, List.set_cons_zero, List.set_cons_succ]
        refine wpAnyH_ready (rs := [1]) (by kernel_rfl) (by simp) ?_
        refine AllReadyH.cons (o := ⟨_, _, _, _, _, _⟩) rfl (fun K hK => ?_) AllReadyH.nil
        go_simp
        go_at_call 8
        refine (lone_b ⟨#[120]⟩ ⟨#[50]⟩ _).mono ?_
        rintro e w6 ⟨a6, rfl, hl6, hb6⟩
        have hB6 : Below W1.heap.size W1 w6 := Bthen' hB5 hb6
        have hl5' : Ll w6 a5 1 _ := hl5.below hb6 (Nat.le_refl _)
        have g6 : w6.heap[w.heap.size + 2]? = some (.cells #[.slice none 0 0, .bool false, .int .u64 0, .bool false, .int .i64 0, .int .i64 0] 34 (0, 0)) := (hb6.block _ (isT_of g5).lt).trans g5
        have z0 := block_cell g6 0 _ rfl
        have z1 := block_cell g6 1 _ rfl
        have z2 := block_cell g6 2 _ rfl
        have z3 := block_cell g6 3 _ rfl
        have z4 := block_cell g6 4 _ rfl
        have z5 := block_cell g6 5 _ rfl
        have y0 := block_froz g6 0
        have y1 := block_froz g6 1
        have y2 := block_froz g6 2
        have y3 := block_froz g6 3
        have y4 := block_froz g6 4
        have y5 := block_froz g6 5
        have hl6b := (isT_of g6).lt
        have hs6 := hB6.size
        go_wp2_with fail
        refine hK.out _ _ ?_ (fun hHeld => ?_)
        · exact HP.out _ hB6
        clear hK K
        try simp only [Act.put, List.setIfInBounds_toArray, List.set_cons_zero, List.set_cons_succ]
        refine wpAnyH_ready (rs := [2]) (by kernel_rfl) (by simp) ?_
        refine AllReadyH.cons (o := ⟨_, _, _, _, _, _⟩) rfl (fun K hK => ?_) AllReadyH.nil
        go_simp
        refine hK.out _ _ ?_ (fun hHeld => ?_)
        · go_keep
        clear hK K
        try simp only [Act.put, List.setIfInBounds_toArray, List.set_cons_zero, List.set_cons_succ]
        refine wpAnyH_take (i := 6) (oi := ⟨_, _, _, _, _, _⟩) (v := _) rfl (by kernel_rfl) (by kernel_rfl) (by kernel_rfl) (fun _ _ _ h => h) (Or.inl ⟨by rfl, by intro wq hSw; (try dsimp only at hSw); go_simp; (try with_reducible rfl)⟩) (by assumption) ?_
        try simp only [Act.put, List.setIfInBounds_toArray, List.set_cons_zero, List.set_cons_succ]
        refine wpAnyH_ready (rs := [7]) (by kernel_rfl) (by simp) ?_
        refine AllReadyH.cons (o := ⟨_, _, _, _, _, _⟩) rfl (fun K hK => ?_) AllReadyH.nil
        go_simp
        refine hK.out _ _ ?_ (fun hHeld => ?_)
        · go_keep
        clear hK K
        try simp only [Act.put, List.setIfInBounds_toArray, List.set_cons_zero, List.set_cons_succ]
        refine wpAnyH_take (i := 13) (oi := ⟨_, _, _, _, _, _⟩) (v := _) rfl (by kernel_rfl) (by kernel_rfl) (by kernel_rfl) (fun _ _ _ h => h) (Or.inl ⟨by rfl, by intro wq hSw; (try dsimp only at hSw); go_simp; (try with_reducible rfl)⟩) (by assumption) ?_
        try simp only [Act.put, List.setIfInBounds_toArray, List.set_cons_zero, List.set_cons_succ]
        refine wpAnyH_ready (rs := [15]) (by kernel_rfl) (by simp) ?_
        refine AllReadyH.cons (o := ⟨_, _, _, _, _, _⟩) rfl (fun K hK => ?_) AllReadyH.nil
        go_simp
        refine hK.out _ _ ?_ (fun hHeld => ?_)
        · exact HP.out _ (Below.alloc (Below.setCell (Below.setCell (Below.setCell (Below.setCell (Below.setCell (Below.setCell hB6 (by simp only; omega) _) (by simp only; omega) _) (by simp only; omega) _) (by simp only; omega) _) (by simp only; omega) _) (by simp only; omega) _) (by simp; omega) _)
        clear hK K
        try simp only [Act.put, List.setIfInBounds_toArray, List.set_cons_zero, List.set_cons_succ]
        refine wpAnyH_done (by kernel_rfl) ?_ _
        go_wp2_with fail
        go_meet
        first | (rw [show L = [(xB, oneB)] by rw [HL.out.1, HS.out]; rfl]; exact e1_set (L := [(xB, oneB)]) (a := a5) (c := 1) hB6 hl5' g6 (by omega)) | (rw [show L = [(xB, sB2)] by rw [HL.out.1, HS.out]; rfl]; exact e1_set (L := [(xB, sB2)]) (a := a6) (c := 1) hB6 hl6 g6 (by omega)) | (rw [show L = [] by rw [HL.out.1, HS.out]; rfl]; exact e1_set (L := []) (a := none) (c := 0) hB6 (nil_ll _) g6 (by omega))
  case rest =>
    obtain ⟨g, a, c, rfl, hg, hl, hgW, hB⟩ := hcut
    have hxS := (hB.block w.heap.size (by omega)).trans HSR.out.1
    have hxR := (hB.block (w.heap.size + 1) (by omega)).trans HSR.out.2
    have p2 := block_cell hxS 2 _ rfl
    have p3 := block_cell hxS 3 _ rfl
    have z0 := block_cell hg 0 _ rfl
    have z1 := block_cell hg 1 _ rfl
    have z2 := block_cell hg 2 _ rfl
    have z3 := block_cell hg 3 _ rfl
    have z4 := block_cell hg 4 _ rfl
    have z5 := block_cell hg 5 _ rfl
    have y2 := block_froz hg 2
    have y3 := block_froz hg 3
    have y4 := block_froz hg 4
    have HG := Lib.hid (And.intro hg (And.intro hl (And.intro hB (And.intro hxS hxR))))
    have hng : ¬ g = w.heap.size := by omega
    have hng2 : ¬ w.heap.size = g := by omega
    clear hg hl hxS hxR
    go_upto_if 23 with fail
    obtain ⟨bv, hbv⟩ : ∃ b, b = (entS x st).bits := ⟨_, rfl⟩
    obtain ⟨sv, hsv⟩ : ∃ b, b = stS x := ⟨_, rfl⟩
    obtain ⟨tv, htv⟩ : ∃ b, b = (entS x st).time := ⟨_, rfl⟩
    obtain ⟨q, hq⟩ : ∃ q, q = (x.kind.tmod 2 == 0) := ⟨_, rfl⟩
    have HV : Hid (bv = (if m then 0 else x.kind) ∧ sv = (!m && q) ∧ tv = (if sv then x.more - 99 else 0)) := Lib.hid (by
      refine ⟨by rw [hbv, HL.out.2]; rfl, ?_, by rw [htv, hsv]; rfl⟩
      rw [hsv, HL.out.2, hq, Int.tmod_eq_emod_of_nonneg hd0]
      unfold stS
      congr 1)
    have HQ : Hid (bv = (entS x st).bits ∧ sv = stS x ∧ tv = (entS x st).time) := Lib.hid ⟨hbv, hsv, htv⟩
    clear hbv hsv htv
    go_cut [] (fun wx => E2Rel g #[.slice a L.length c, .bool m, .int .u64 bv, .bool sv, .int .i64 0, .int .i64 st] wc wx)
    case first =>
      cases m with
      | true =>
        have hv := HV.out
        simp only [if_true, Bool.not_true, Bool.false_and] at hv
        obtain ⟨rfl, rfl, -⟩ := hv
        clear hq
        go_wp2_with fail
        go_meet
        exact ⟨HG.out.1, Fr.refl _ _⟩
      | false =>
        have hv := HV.out
        simp only [Bool.not_false, Bool.true_and] at hv
        obtain ⟨hv1, rfl, -⟩ := hv
        rw [if_neg (by decide)] at hv1
        subst hv1
        have hq2 : (x.kind.tmod 2 == 0) = sv := hq.symm
        clear hq
        have hwr : IntKind.u64.wrap x.kind = x.kind := by rw [IntKind.wrap_u64]; omega
        go_wp2_with fail
        go_region_held3 (fun w' : World => w'.cell? ⟨w.heap.size, 2, none⟩ = some (.int .u8 x.kind)) (go_keep) (fail)
        go_wp2_with fail
        go_meet
        exact e2_set HG.out.1
    case rest =>
      obtain ⟨hg, hf⟩ := hcut
      have hxS := (hf.block w.heap.size (isT_of HG.out.2.2.2.1).lt (by omega)).trans HG.out.2.2.2.1
      have hxR := (hf.block (w.heap.size + 1) (isT_of HG.out.2.2.2.2).lt (by omega)).trans HG.out.2.2.2.2
      have hB2 := HG.out.2.2.1.trans (hf.below (B := W1.heap.size) (fun k hk e => by omega) HG.out.2.2.1.size)
      have hl2 := HG.out.2.1.fr hf (fun b hb e => hb.ne (isT_of HG.out.1) (by decide) e)
      have p3' := block_cell hxS 3 _ rfl
      have x0 := block_cell hg 0 _ rfl
      have x3 := block_cell hg 3 _ rfl
      have x4 := block_cell hg 4 _ rfl
      have v4 := block_froz hg 4
      have HG2 := Lib.hid (And.intro hg (And.intro hl2 (And.intro hB2 (And.intro hxS hxR))))
      clear hg hf hxS hxR hB2 hl2 p2 p3 z0 z1 z2 z3 z4 z5 y2 y3 y4
      go_upto_if 34 with fail
      go_cut [] (fun wx => E2Rel g #[.slice a L.length c, .bool m, .int .u64 bv, .bool sv, .int .i64 tv, .int .i64 st] wc wx)
      case first =>
        cases sv with
        | false =>
          have hv := HV.out.2.2
          rw [if_neg (by decide)] at hv
          subst hv
          go_wp2_with fail
          go_meet
          exact ⟨HG2.out.1, Fr.refl _ _⟩
        | true =>
          have hv := HV.out.2.2
          rw [if_pos rfl] at hv
          subst hv
          go_wp2_with fail
          go_meet
          exact e3_set HG2.out.1
      case rest =>
        obtain ⟨hg, hf⟩ := hcut
        have hxS := (hf.block w.heap.size (isT_of HG2.out.2.2.2.1).lt (by omega)).trans HG2.out.2.2.2.1
        have hxR := (hf.block (w.heap.size + 1) (isT_of HG2.out.2.2.2.2).lt (by omega)).trans HG2.out.2.2.2.2
        have hB2 := HG2.out.2.2.1.trans (hf.below (B := W1.heap.size) (fun k hk e => by omega) HG2.out.2.2.1.size)
        have hl2 := HG2.out.2.1.fr hf (fun b hb e => hb.ne (isT_of HG2.out.1) (by decide) e)
        have HG3 := Lib.hid (And.intro hg (And.intro hl2 (And.intro hB2 (And.intro hxS hxR))))
        clear hg hf hxS hxR hB2 hl2 p3' x0 x3 x4 v4 hq HV HG HG2 HP
        go_upto_region 6 with fail
        obtain ⟨W3, hW3⟩ : ∃ W, W = wc := ⟨_, rfl⟩
        rw [← hW3] at HG3 ⊢
        clear hW3
        obtain ⟨K1, hK1⟩ : ∃ K, K = kJ := ⟨_, rfl⟩
        obtain ⟨K2, hK2⟩ : ∃ K, K = kJ2 := ⟨_, rfl⟩
        obtain ⟨K3, hK3⟩ : ∃ K, K = kK1 := ⟨_, rfl⟩
        have HK := Lib.hid (And.intro hK1 (And.intro hK2 hK3))
        clear hK1 hK2 hK3
        have HP : Hid (∀ w', Fr (fun k => k = w.heap.size + 1 ∨ W3.heap.size ≤ k) W3 w' → w'.cell? ⟨w.heap.size, 0, none⟩ = some (.int .u8 x.key) ∧ w'.cell? ⟨g, 0, none⟩ = some (.slice a L.length c) ∧ w'.cell? ⟨g, 1, none⟩ = some (.bool m) ∧ w'.cell? ⟨g, 2, none⟩ = some (.int .u64 bv) ∧ w'.cell? ⟨g, 3, none⟩ = some (.bool sv) ∧ w'.cell? ⟨g, 4, none⟩ = some (.int .i64 tv) ∧ w'.cell? ⟨g, 5, none⟩ = some (.int .i64 st)) := Lib.hid (fun w' hf => by
          have h1 := HG3.out.1
          have h2 := HG3.out.2.2.2.1
          have k1 := (isT_of h1).lt
          have k2 := (isT_of h2).lt
          have k3 := HG3.out.2.2.1.size
          have g1 := (hf.block g k1 (by omega)).trans h1
          have g2 := (hf.block w.heap.size k2 (by omega)).trans h2
          exact ⟨block_cell g2 0 _ rfl, block_cell g1 0 _ rfl, block_cell g1 1 _ rfl, block_cell g1 2 _ rfl, block_cell g1 3 _ rfl, block_cell g1 4 _ rfl, block_cell g1 5 _ rfl⟩)
        rcases (show x.key % 3 = 0 ∨ x.key % 3 = 1 ∨ x.key % 3 = 2 by omega) with hs | hs | hs
        all_goals
          have hst := Int.tmod_eq_emod_of_nonneg (b := 3) hk0
          rw [hs] at hst
          have HS := Lib.hid hs
          clear hs
          refine wp_region_held_drew (S := fun w' : World => w'.cell? ⟨w.heap.size, 0, none⟩ = some (.int .u8 x.key) ∧ w'.cell? ⟨g, 0, none⟩ = some (.slice a L.length c) ∧ w'.cell? ⟨g, 1, none⟩ = some (.bool m) ∧ w'.cell? ⟨g, 2, none⟩ = some (.int .u64 bv) ∧ w'.cell? ⟨g, 3, none⟩ = some (.bool sv) ∧ w'.cell? ⟨g, 4, none⟩ = some (.int .i64 tv) ∧ w'.cell? ⟨g, 5, none⟩ = some (.int .i64 st)) (by kernel_rfl) ?_ (fun hHeld => ?_)
          · exact HP.out _ (Fr.refl _ _).drew
          refine wpAnyH_take (i := 4) (oi := ⟨_, _, _, _, _, _⟩) (v := _) rfl (by kernel_rfl) (by kernel_rfl) (by kernel_rfl) (fun _ _ _ h => h) (Or.inl ⟨by rfl, by intro wq hSw; (try dsimp only at hSw); go_simp; (try with_reducible rfl)⟩) (by assumption) ?_
          try simp only [Act.put, List.setIfInBounds_toArray, List.set_cons_zero, List.set_cons_succ]
          refine wpAnyH_take (i := 5) (oi := ⟨_, _, _, _, _, _⟩) (v := _) rfl (by kernel_rfl) (by kernel_rfl) (by kernel_rfl) (fun _ _ _ h => h) (Or.inl ⟨by rfl, by intro wq hSw; (try dsimp only at hSw); go_simp; (try with_reducible rfl)⟩) (by assumption) ?_
          try simp only [Act.put, List.setIfInBounds_toArray, List.set_cons_zero, List.set_cons_succ]
          refine wpAnyH_take (i := 6) (oi := ⟨_, _, _, _, _, _⟩) (v := _) rfl (by kernel_rfl) (by kernel_rfl) (by kernel_rfl) (fun _ _ _ h => h) (Or.inl ⟨by rfl, by intro wq hSw; (try dsimp only at hSw); go_simp; (try with_reducible rfl)⟩) (by assumption) ?_
          try simp only [Act.put, List.setIfInBounds_toArray, List.set_cons_zero, List.set_cons_succ]
          refine wpAnyH_take (i := 9) (oi := ⟨_, _, _, _, _, _⟩) (v := _) rfl (by kernel_rfl) (by kernel_rfl) (by kernel_rfl) (fun _ _ _ h => h) (Or.inl ⟨by rfl, by intro wq hSw; (try dsimp only at hSw); go_simp; (try with_reducible rfl)⟩) (by assumption) ?_
          try simp only [Act.put, List.setIfInBounds_toArray, List.set_cons_zero, List.set_cons_succ]
          refine wpAnyH_ready (rs := [0]) (by kernel_rfl) (by simp) ?_
          refine AllReadyH.cons (o := ⟨_, _, _, _, _, _⟩) rfl (fun K hK => ?_) AllReadyH.nil
          go_simp
          go_at_call 19
          refine (key_calls ⟨#[106]⟩ ⟨#[49]⟩ 106 49 (Sb.of 106 (by decide)) (Sb.of 49 (by decide)) _).mono ?_
          rintro e w5 ⟨rfl, hb5⟩
          rw [show (⟨#[106]⟩ : ByteArray) ++ ⟨#[254]⟩ ++ ⟨#[97, 255, 49, 255]⟩ = K1 from HK.out.1.symm]
          have hB5 : Below W3.heap.size W3 w5 := (Below.refl _ _).drew.trans (hb5.mono (by simp))
          go_wp2_with fail
          refine hK.out _ _ ?_ (fun hHeld => ?_)
          · exact HP.out _ ((Fr.of_below hB5).mono (fun _ _ h => .inr h))
          clear hK K
          try simp only [Act.put, List.setIfInBounds_toArray, List.set_cons_zero, List.set_cons_succ]
          refine wpAnyH_ready (rs := [1]) (by kernel_rfl) (by simp) ?_
          refine AllReadyH.cons (o := ⟨_, _, _, _, _, _⟩) rfl (fun K hK => ?_) AllReadyH.nil
          go_simp
          go_at_call 19
          refine (key_calls ⟨#[106]⟩ ⟨#[50]⟩ 106 50 (Sb.of 106 (by decide)) (Sb.of 50 (by decide)) _).mono ?_
          rintro e w6 ⟨rfl, hb6⟩
          rw [show (⟨#[106]⟩ : ByteArray) ++ ⟨#[254]⟩ ++ ⟨#[97, 255, 50, 255]⟩ = K2 from HK.out.2.1.symm]
          have hB6 := Bthen' hB5 hb6 (Nat.le_refl _)
          go_wp2_with fail
          refine hK.out _ _ ?_ (fun hHeld => ?_)
          · exact HP.out _ ((Fr.of_below hB6).mono (fun _ _ h => .inr h))
          clear hK K
          try simp only [Act.put, List.setIfInBounds_toArray, List.set_cons_zero, List.set_cons_succ]
          refine wpAnyH_ready (rs := [2]) (by kernel_rfl) (by simp) ?_
          refine AllReadyH.cons (o := ⟨_, _, _, _, _, _⟩) rfl (fun K hK => ?_) AllReadyH.nil
          go_simp
          go_at_call 19
          refine (key_calls ⟨#[107]⟩ ⟨#[49]⟩ 107 49 (Sb.of 107 (by decide)) (Sb.of 49 (by decide)) _).mono ?_
          rintro e w7 ⟨rfl, hb7⟩
          rw [show (⟨#[107]⟩ : ByteArray) ++ ⟨#[254]⟩ ++ ⟨#[97, 255, 49, 255]⟩ = K3 from HK.out.2.2.symm]
          have hB7 := Bthen' hB6 hb7 (Nat.le_refl _)
          have hs7 := hB7.size
          have gR := (hB7.block (w.heap.size + 1) (isT_of HG3.out.2.2.2.2).lt).trans HG3.out.2.2.2.2
          have hlR := (isT_of gR).lt
          have hl7 := HG3.out.2.1.below hB7 (Nat.le_refl _)
          have z0 := block_cell gR 0 _ rfl
          have z1 := block_cell gR 1 _ rfl
          have z2 := block_cell gR 2 _ rfl
          have z3 := block_cell gR 3 _ rfl
          have z4 := block_cell gR 4 _ rfl
          have z5 := block_cell gR 5 _ rfl
          have y0 := block_froz gR 0
          have y1 := block_froz gR 1
          have y2 := block_froz gR 2
          have y3 := block_froz gR 3
          have y4 := block_froz gR 4
          have y5 := block_froz gR 5
          go_wp2_with fail
          refine hK.out _ _ ?_ (fun hHeld => ?_)
          · exact HP.out _ ((Fr.of_below hB7).mono (fun _ _ h => .inr h))
          clear hK K
          try simp only [Act.put, List.setIfInBounds_toArray, List.set_cons_zero, List.set_cons_succ]
          refine wpAnyH_ready (rs := [3]) (by kernel_rfl) (by simp) ?_
          refine AllReadyH.cons (o := ⟨_, _, _, _, _, _⟩) rfl (fun K hK => ?_) AllReadyH.nil
          go_simp
          refine hK.out _ _ ?_ (fun hHeld => ?_)
          · exact HP.out _ (Fr.alloc ((Fr.of_below hB7).mono (fun _ _ h => .inr h)) _)
          clear hK K
          try simp only [Act.put, List.setIfInBounds_toArray, List.set_cons_zero, List.set_cons_succ]
          refine wpAnyH_take (i := 7) (oi := ⟨_, _, _, _, _, _⟩) (v := _) rfl (by kernel_rfl) (by kernel_rfl) (by kernel_rfl) (fun _ _ _ h => h) (Or.inl ⟨by rfl, by intro wq hSw; (try dsimp only at hSw); go_simp; (try with_reducible rfl)⟩) (by assumption) ?_
          try simp only [Act.put, List.setIfInBounds_toArray, List.set_cons_zero, List.set_cons_succ]
          refine wpAnyH_ready (rs := [8]) (by kernel_rfl) (by simp) ?_
          refine AllReadyH.cons (o := ⟨_, _, _, _, _, _⟩) rfl (fun K hK => ?_) AllReadyH.nil
          go_simp
          refine hK.out _ _ ?_ (fun hHeld => ?_)
          · exact HP.out _ (Fr.alloc ((Fr.of_below hB7).mono (fun _ _ h => .inr h)) _)
          clear hK K
          try simp only [Act.put, List.setIfInBounds_toArray, List.set_cons_zero, List.set_cons_succ]
          refine wpAnyH_take (i := 10) (oi := ⟨_, _, _, _, _, _⟩) (v := _) rfl (by kernel_rfl) (by kernel_rfl) (by kernel_rfl) (fun _ _ _ h => h) (Or.inl ⟨by rfl, by intro wq hSw; (try dsimp only at hSw); go_simp; (try with_reducible rfl)⟩) (by assumption) ?_
          try simp only [Act.put, List.setIfInBounds_toArray, List.set_cons_zero, List.set_cons_succ]
          refine wpAnyH_ready (rs := [11]) (by kernel_rfl) (by simp) ?_
          refine AllReadyH.cons (o := ⟨_, _, _, _, _, _⟩) rfl (fun K hK => ?_) AllReadyH.nil
          go_simp
          refine hK.out _ _ ?_ (fun hHeld => ?_)
          · exact HP.out _ (Fr.alloc (Fr.setCell (Fr.setCell (Fr.setCell (Fr.setCell (Fr.setCell (Fr.setCell ((Fr.of_below hB7).mono (fun _ _ h => .inr h)) (.inl rfl) _) (.inl rfl) _) (.inl rfl) _) (.inl rfl) _) (.inl rfl) _) (.inl rfl) _) _)
          clear hK K
          try simp only [Act.put, List.setIfInBounds_toArray, List.set_cons_zero, List.set_cons_succ]
          refine wpAnyH_done (by kernel_rfl) ?_ _
          have hs13 := HG3.out.2.2.1.size
          obtain ⟨w9, hw9⟩ : ∃ w9, w9 = ((((((w7.setCell ⟨w.heap.size + 1, 0, none⟩ (.slice a L.length c)).setCell ⟨w.heap.size + 1, 1, none⟩ (.bool m)).setCell ⟨w.heap.size + 1, 2, none⟩ (.int .u64 bv)).setCell ⟨w.heap.size + 1, 3, none⟩ (.bool sv)).setCell ⟨w.heap.size + 1, 4, none⟩ (.int .i64 tv)).setCell ⟨w.heap.size + 1, 5, none⟩ (.int .i64 st)).alloc (.cells #[.string K1, .string K2, .string K3] 9) := ⟨_, rfl⟩
          rw [← hw9]
          have hf9 : Fr (fun k => k = w.heap.size + 1 ∨ W3.heap.size ≤ k) W3 w9 := by rw [hw9]; exact Fr.alloc (Fr.setCell (Fr.setCell (Fr.setCell (Fr.setCell (Fr.setCell (Fr.setCell ((Fr.of_below hB7).mono (fun _ _ h => .inr h)) (.inl rfl) _) (.inl rfl) _) (.inl rfl) _) (.inl rfl) _) (.inl rfl) _) (.inl rfl) _) _
          have h9 : w9.heap[w.heap.size + 1]? = some (.cells #[.slice a L.length c, .bool m, .int .u64 bv, .bool sv, .int .i64 tv, .int .i64 st] 34 (0, 0)) := by rw [hw9, Below.heap_alloc _ _ _ (isT_of (setCell_six gR)).lt]; exact setCell_six gR
          have hl9 : Ll w9 a c L := HG3.out.2.1.fr hf9 (fun b hb e => by rcases e with e | e; exact hb.ne (isT_of HG3.out.2.2.2.2) (by decide) e; exact absurd hb.lt (by omega))
          have hB9 : Below w.heap.size w w9 := (HB1.out.trans (HG3.out.2.2.1.mono (by omega))).trans (hf9.below (B := w.heap.size) (fun k hk e => by rcases e with e | e; omega; omega) (by omega))
          have HF := Lib.hid (And.intro hl9 hB9)
          have d0 := block_cell h9 0 _ rfl
          have d1 := block_cell h9 1 _ rfl
          have d2 := block_cell h9 2 _ rfl
          have d3 := block_cell h9 3 _ rfl
          have d4 := block_cell h9 4 _ rfl
          have d5 := block_cell h9 5 _ rfl
          have hlt9 := (isT_of h9).lt
          clear hw9 hf9 hl9 hB9 h9 z0 z1 z2 z3 z4 z5 y0 y1 y2 y3 y4 y5 hb5 hb6 hb7 hB5 hB6 hB7 gR hl7
          go_wp2_with fail
          first | (exact bodyPost_ret (v := .tuple #[.string K1, .agg #[.slice a L.length c, .bool m, .int .u64 bv, .bool sv, .int .i64 tv, .int .i64 st]]) (by simp [results, Tryz.results7, go_sem, d0, d1, d2, d3, d4, d5]) rfl (entPost_mk HL.out.1 HL.out.2 HQ.out.1 HQ.out.2.1 HQ.out.2.2 (by unfold keyS; rw [HS.out, HK.out.1]; rfl) HF.out.1 HF.out.2)) | (exact bodyPost_ret (v := .tuple #[.string K2, .agg #[.slice a L.length c, .bool m, .int .u64 bv, .bool sv, .int .i64 tv, .int .i64 st]]) (by simp [results, Tryz.results7, go_sem, d0, d1, d2, d3, d4, d5]) rfl (entPost_mk HL.out.1 HL.out.2 HQ.out.1 HQ.out.2.1 HQ.out.2.2 (by unfold keyS; rw [HS.out, HK.out.2.1]; rfl) HF.out.1 HF.out.2)) | (exact bodyPost_ret (v := .tuple #[.string K3, .agg #[.slice a L.length c, .bool m, .int .u64 bv, .bool sv, .int .i64 tv, .int .i64 st]]) (by simp [results, Tryz.results7, go_sem, d0, d1, d2, d3, d4, d5]) rfl (entPost_mk HL.out.1 HL.out.2 HQ.out.1 HQ.out.2.1 HQ.out.2.2 (by unfold keyS; rw [HS.out, HK.out.2.2]; rfl) HF.out.1 HF.out.2))
end Go.Proofs.YtmagojckhfkcdaaGreatDoor.Sk
