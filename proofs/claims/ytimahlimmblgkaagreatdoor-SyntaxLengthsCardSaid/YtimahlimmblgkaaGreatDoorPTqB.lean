/- Texts of the claim, put together: TqB. -/
import Derived.Test.YtimahlimmblgkaaGreatDoorPTqA
import Derived.Deep.RegionHeld3
import Derived.Deep.RegionHeldLaw
import Derived.RegionTactic
import Derived.ChangeAlike
import Derived.BigRegion
import Derived.StillTailTactics
import Derived.WalkLawsBesides
namespace Go.Proofs.YtimahlimmblgkaaGreatDoor.Sy
open Go Go.RowKit
/-- behind the first statement of a visit -/
def LookA (w : World) (N Z A : Array Value) (s2 s3 s4 : Value) (wx : World) : Prop :=
  ∃ g, s2 = .pointer (some ⟨w.heap.size, 0, none⟩) ∧ s3 = .pointer (some ⟨w.heap.size + 1, 0, none⟩) ∧ s4 = .pointer (some ⟨g, 0, none⟩) ∧ w.heap.size + 1 < g ∧ wx.heap[w.heap.size]? = some (.cells N 27 (0, 0)) ∧
    wx.heap[w.heap.size + 1]? = some (.cells Z 91 (0, 0)) ∧ wx.heap[g]? = some (.cells A 91 (0, 0)) ∧ Below w.heap.size w wx
section
variable {w w3 : World} {N Z A : Array Value} {g : Nat} {a0 a1 a2 a3 a4 b0 b1 b2 b3 b4 : Value}
theorem leafA (h2 : w3.heap[w.heap.size]? = some (.cells N 27 (0, 0))) (h3 : w3.heap[w.heap.size + 1]? = some (.cells Z 91 (0, 0))) (hb : Below w.heap.size w w3) (hs : w.heap.size + 1 < w3.heap.size) :
    LookA w N Z A (.pointer (some ⟨w.heap.size, 0, none⟩)) (.pointer (some ⟨w.heap.size + 1, 0, none⟩)) (.pointer (some ⟨w3.heap.size, 0, none⟩)) (w3.alloc (.cells A 91)) :=
  ⟨_, rfl, rfl, rfl, hs, (Below.heap_alloc _ _ _ (isT_of h2).lt).trans h2, (Below.heap_alloc _ _ _ (isT_of h3).lt).trans h3, heap_alloc_new w3 _, hb.alloc hb.size _⟩
theorem setCell_five {T : TypeId} (h : w3.heap[g]? = some (.cells #[a0, a1, a2, a3, a4] T (0, 0))) :
    (((((w3.setCell ⟨g, 0, none⟩ b0).setCell ⟨g, 1, none⟩ b1).setCell ⟨g, 2, none⟩ b2).setCell ⟨g, 3, none⟩ b3).setCell ⟨g, 4, none⟩ b4).heap[g]? = some (.cells #[b0, b1, b2, b3, b4] T (0, 0)) := by
  unfold World.setCell
  simp only [Array.getElem?_modify, h]
  rfl
theorem setFr_five : Fr (fun k => k = g) w3 (((((w3.setCell ⟨g, 0, none⟩ b0).setCell ⟨g, 1, none⟩ b1).setCell ⟨g, 2, none⟩ b2).setCell ⟨g, 3, none⟩ b3).setCell ⟨g, 4, none⟩ b4) := by
  iterate 5 (refine Fr.setCell ?_ (by exact rfl) _)
  exact Fr.refl _ _
theorem set5b {B : Nat} (hb : Below B w w3) (hg : B ≤ g) : Below B w (((((w3.setCell ⟨g, 0, none⟩ b0).setCell ⟨g, 1, none⟩ b1).setCell ⟨g, 2, none⟩ b2).setCell ⟨g, 3, none⟩ b3).setCell ⟨g, 4, none⟩ b4) :=
  ((((hb.setCell (p := ⟨g, 0, none⟩) hg _).setCell (p := ⟨g, 1, none⟩) hg _).setCell (p := ⟨g, 2, none⟩) hg _).setCell (p := ⟨g, 3, none⟩) hg _).setCell (p := ⟨g, 4, none⟩) hg _
theorem leafB (h2 : w3.heap[w.heap.size]? = some (.cells N 27 (0, 0))) (h3 : w3.heap[w.heap.size + 1]? = some (.cells Z 91 (0, 0))) (hb : Below w.heap.size w w3)
    (hg : w3.heap[g]? = some (.cells #[a0, a1, a2, a3, a4] 91 (0, 0))) (hs : w.heap.size + 1 < g) :
    LookA w N Z #[b0, b1, b2, b3, b4] (.pointer (some ⟨w.heap.size, 0, none⟩)) (.pointer (some ⟨w.heap.size + 1, 0, none⟩)) (.pointer (some ⟨g, 0, none⟩))
      (((((w3.setCell ⟨g, 0, none⟩ b0).setCell ⟨g, 1, none⟩ b1).setCell ⟨g, 2, none⟩ b2).setCell ⟨g, 3, none⟩ b3).setCell ⟨g, 4, none⟩ b4) :=
  ⟨g, rfl, rfl, rfl, hs, (setFr_five.block _ (isT_of h2).lt (by omega)).trans h2, (setFr_five.block _ (isT_of h3).lt (by omega)).trans h3, setCell_five hg, set5b hb (by omega)⟩
end
theorem set01 {w : World} {g : Nat} {a0 a1 a2 a3 a4 b0 b1 : Value} {T : TypeId} (h : w.heap[g]? = some (.cells #[a0, a1, a2, a3, a4] T (0, 0))) :
    ((w.setCell ⟨g, 0, none⟩ b0).setCell ⟨g, 1, none⟩ b1).drew.heap[g]? = some (.cells #[b0, b1, a2, a3, a4] T (0, 0)) := by
  show ((w.setCell ⟨g, 0, none⟩ b0).setCell ⟨g, 1, none⟩ b1).heap[g]? = _
  unfold World.setCell
  simp only [Array.getElem?_modify, h]
  rfl
theorem set34 {w : World} {g : Nat} {a0 a1 a2 a3 a4 b3 b4 : Value} {T : TypeId} (h : w.heap[g]? = some (.cells #[a0, a1, a2, a3, a4] T (0, 0))) :
    ((w.setCell ⟨g, 3, none⟩ b3).setCell ⟨g, 4, none⟩ b4).drew.heap[g]? = some (.cells #[a0, a1, a2, b3, b4] T (0, 0)) := by
  show ((w.setCell ⟨g, 3, none⟩ b3).setCell ⟨g, 4, none⟩ b4).heap[g]? = _
  unfold World.setCell
  simp only [Array.getElem?_modify, h]
  rfl
theorem set2 {w : World} {g : Nat} {a0 a1 a2 a3 a4 b2 : Value} {T : TypeId} (h : w.heap[g]? = some (.cells #[a0, a1, a2, a3, a4] T (0, 0))) :
    (w.setCell ⟨g, 2, none⟩ b2).heap[g]? = some (.cells #[a0, a1, b2, a3, a4] T (0, 0)) := by
  unfold World.setCell
  simp only [Array.getElem?_modify, h]
  rfl
theorem Fr.drw {X : Nat → Prop} {w w' : World} (h : Fr X w w') : Fr X w w'.drew := ⟨h.os, h.tape, h.output, h.size, h.block⟩
theorem fr2 {w : World} {g : Nat} (i j : Nat) (u v : Value) : Fr (fun k => k = g) w ((w.setCell ⟨g, i, none⟩ u).setCell ⟨g, j, none⟩ v).drew := by
  refine Fr.drw (Fr.setCell (Fr.setCell (Fr.refl _ _) ?_ _) ?_ _)
  · exact rfl
  · exact rfl
theorem fr1 {w : World} {g : Nat} (i : Nat) (u : Value) : Fr (fun k => k = g) w (w.setCell ⟨g, i, none⟩ u) := by
  refine Fr.setCell (Fr.refl _ _) ?_ _
  exact rfl
/-- behind a statement that writes the facts of block g -/
def FAt (w : World) (g : Nat) (cs : Array Value) (wx : World) : Prop := wx.heap[g]? = some (.cells cs 91 (0, 0)) ∧ Fr (fun k => k = g) w wx
def fC (f : F) : Array Value := #[.int .i64 f.depth, .int .i64 f.groups, .bool f.nul, .bool f.shaped, .bool f.firm]
/-- what holds at the head of the loop over a node's parts -/
def VRel (w : World) (k : Int) (s : Rs.S) (mn mx : Int) (lz : Bool) (l : List L) (N : Array Value) (b2 b3 g n : Nat) (i : Value) (wr : World) : Prop :=
  ∃ (j : Nat) (f : F), j ≤ n ∧ i = .int .i64 j ∧ lookL k (treeL (l.drop j)) f = lookL k (treeL l) (startF k (shapedN k s mn mx lz l.length)) ∧ wr.heap[b2]? = some (.cells N 27 (0, 0)) ∧
    wr.heap[b3]? = some (.cells #[.int .i64 0, .int .i64 0, .bool false, .bool false, .bool false] 91 (0, 0)) ∧ wr.heap[g]? = some (.cells (fC f) 91 (0, 0)) ∧ Below w.heap.size w wr
set_option maxRecDepth 100000 in
set_option maxHeartbeats 8000000 in
theorem visit_calls {P : Nat → Prop} {w0 : World} {x : L} (h : RdT P w0 x) : ∀ (c : Nat) (w : World), Below w0.heap.size w0 w → w.cell? ⟨c, 0, none⟩ = some (.func (.func 73) #[] #[.pointer (some ⟨c, 0, none⟩)]) →
    Calls Tryz.prog 73 #[x.val, .pointer (some ⟨c, 0, none⟩)] w fun e w' => e = .returned (fV (look x.tree)) ∧ Below w.heap.size w w' := by
  induction h with
  | @mk k sa sc s mn mx lz na nc l hk hmn hmx hs hsl hn hnl hnb hP sub ih =>
    intro c w hbw hc
    have HI := Lib.hid ih
    have HN := Lib.hid hn
    have HS := Lib.hid hs
    have HB := Lib.hid hbw
    obtain ⟨m, hm⟩ : ∃ m, m = s.length := ⟨_, rfl⟩
    obtain ⟨n, hn⟩ : ∃ n, n = l.length := ⟨_, rfl⟩
    have HM := Lib.hid (And.intro hm hn)
    show Calls Tryz.prog 73 #[.agg #[.int .u8 k, .slice sa s.length sc, .int .i64 mn, .int .i64 mx, .bool lz, .slice na l.length nc], .pointer (some ⟨c, 0, none⟩)] w _
    rw [← hm, ← hn]
    rw [← hm] at hsl
    rw [← hn] at hnl
    clear ih hs hbw hm hn sub hP hnb
    have hclt := cell_lt hc
    go_enter Tryz.func73, Tryz.ntmps73
    obtain ⟨nu, hnu⟩ : ∃ b : Bool, b = (decide (k = 1) || decide (k = 3)) := ⟨_, rfl⟩
    have HNU := Lib.hid hnu
    have hsh : Hid (∀ W, Below w0.heap.size w0 W → Calls Tryz.prog 74 #[.agg #[.int .u8 k, .slice sa m sc, .int .i64 mn, .int .i64 mx, .bool lz, .slice na n nc]] W fun e w' => e = .returned (.bool (shapedN k s mn mx lz n)) ∧ Below W.heap.size W w') := Lib.hid (fun W hb => by
      have h1 := shaped_calls k sa sc s mn mx lz na nc n W (HS.out.below hb) (by rw [← HM.out.1]; exact hsl) hnl
      rw [← HM.out.1] at h1
      exact h1)
    obtain ⟨sh, hshv⟩ : ∃ b : Bool, b = shapedN k s mn mx lz n := ⟨_, rfl⟩
    rw [← hshv] at hsh
    have HSH := Lib.hid hshv
    clear hshv
    go_upto_region 1 with fail
    go_cut [2, 3, 4] (fun s2 s3 s4 wx => LookA w #[.int .u8 k, .slice sa m sc, .int .i64 mn, .int .i64 mx, .bool lz, .slice na n nc] #[.int .i64 0, .int .i64 0, .bool false, .bool false, .bool false] #[.int .i64 0, .int .i64 0, .bool nu, .bool sh, .bool true] s2 s3 s4 wx)
    case first =>
      go_wp2_with fail
      obtain ⟨wq, hwq⟩ : ∃ q, q = (w.alloc (.cells #[.int .u8 k, .slice sa m sc, .int .i64 mn, .int .i64 mx, .bool lz, .slice na n nc] 27)).alloc (.cells #[.int .i64 0, .int .i64 0, .bool false, .bool false, .bool false] 91) := ⟨_, rfl⟩
      rw [← hwq]
      have e3 : wq.heap[w.heap.size + 1]? = some (.cells #[.int .i64 0, .int .i64 0, .bool false, .bool false, .bool false] 91 (0, 0)) := by
        rw [hwq]
        have := heap_alloc_new (w.alloc (.cells #[.int .u8 k, .slice sa m sc, .int .i64 mn, .int .i64 mx, .bool lz, .slice na n nc] 27)) (.cells #[.int .i64 0, .int .i64 0, .bool false, .bool false, .bool false] 91)
        simpa using this
      have e2 : wq.heap[w.heap.size]? = some (.cells #[.int .u8 k, .slice sa m sc, .int .i64 mn, .int .i64 mx, .bool lz, .slice na n nc] 27 (0, 0)) := by
        rw [hwq]
        exact (Below.heap_alloc _ _ _ (by simp)).trans (heap_alloc_new w _)
      have hbq : Below w.heap.size w wq := by rw [hwq]; exact ((Below.refl _ _).alloc (Nat.le_refl _) _).alloc (by simp) _
      have hsz : wq.heap.size = w.heap.size + 2 := by rw [hwq]; simp
      have HQ := Lib.hid (And.intro e2 (And.intro e3 (And.intro hbq hsz)))
      have hlt : w.heap.size < wq.heap.size := by omega
      have c0 := block_cell e2 0 _ rfl
      have c1 := block_cell e2 1 _ rfl
      have c2 := block_cell e2 2 _ rfl
      have c3 := block_cell e2 3 _ rfl
      have c4 := block_cell e2 4 _ rfl
      have c5 := block_cell e2 5 _ rfl
      have HC := Lib.hid (show ∀ W, Below wq.heap.size wq W → W.cell? ⟨w.heap.size, 0, none⟩ = some (.int .u8 k) ∧ W.cell? ⟨w.heap.size, 1, none⟩ = some (.slice sa m sc) ∧ W.cell? ⟨w.heap.size, 2, none⟩ = some (.int .i64 mn) ∧ W.cell? ⟨w.heap.size, 3, none⟩ = some (.int .i64 mx) ∧ W.cell? ⟨w.heap.size, 4, none⟩ = some (.bool lz) ∧ W.cell? ⟨w.heap.size, 5, none⟩ = some (.slice na n nc) from fun W hb => by
        have e := (hb.block _ hlt).trans e2
        exact ⟨block_cell e 0 _ rfl, block_cell e 1 _ rfl, block_cell e 2 _ rfl, block_cell e 3 _ rfl, block_cell e 4 _ rfl, block_cell e 5 _ rfl⟩)
      clear hwq e2 e3 hbq hsz
      rcases (show k = 1 ∨ ((k == 1) = false ∧ (k == 3) = nu) by
        rw [HNU.out]
        by_cases h1 : k = 1
        · exact .inl h1
        · by_cases h3 : k = 3
          · subst h3; exact .inr ⟨by decide, by decide⟩
          · exact .inr ⟨beq_eq_false_iff_ne.2 h1, by simp [h1, h3]⟩) with rfl | ⟨h1, h3⟩
      · obtain rfl : nu = true := HNU.out
        clear hnu
        refine wp_region_held_drew (S := fun w' : World => w'.cell? ⟨w.heap.size, 0, none⟩ = some (.int .u8 1) ∧ w'.cell? ⟨w.heap.size, 1, none⟩ = some (.slice sa m sc) ∧ w'.cell? ⟨w.heap.size, 2, none⟩ = some (.int .i64 mn) ∧ w'.cell? ⟨w.heap.size, 3, none⟩ = some (.int .i64 mx) ∧ w'.cell? ⟨w.heap.size, 4, none⟩ = some (.bool lz) ∧ w'.cell? ⟨w.heap.size, 5, none⟩ = some (.slice na n nc)) (by kernel_rfl) ?_ (fun hHeld => ?_)
        · exact HC.out _ (Below.refl _ _).drew
        refine wpAnyH_take (i := 0) (oi := ⟨_, _, _, _, _, _⟩) (v := _) rfl (by kernel_rfl) (by kernel_rfl) (by kernel_rfl) (fun _ _ _ h => h) (Or.inl ⟨by rfl, by intro wq hSw; (try dsimp only at hSw); go_simp; (try with_reducible rfl)⟩) (by assumption) ?_
        try simp only [Act.put, List.setIfInBounds_toArray, List.set_cons_zero, List.set_cons_succ]
        refine wpAnyH_take (i := 2) (oi := ⟨_, _, _, _, _, _⟩) (v := _) rfl (by kernel_rfl) (by kernel_rfl) (by kernel_rfl) (fun _ _ _ h => h) (Or.inl ⟨by rfl, by intro wq hSw; (try dsimp only at hSw); go_simp; (try with_reducible rfl)⟩) (by assumption) ?_
        try simp only [Act.put, List.setIfInBounds_toArray, List.set_cons_zero, List.set_cons_succ]
        refine wpAnyH_take (i := 3) (oi := ⟨_, _, _, _, _, _⟩) (v := _) rfl (by kernel_rfl) (by kernel_rfl) (by kernel_rfl) (fun _ _ _ h => h) (Or.inl ⟨by rfl, by intro wq hSw; (try dsimp only at hSw); go_simp; (try with_reducible rfl)⟩) (by assumption) ?_
        try simp only [Act.put, List.setIfInBounds_toArray, List.set_cons_zero, List.set_cons_succ]
        refine wpAnyH_take (i := 4) (oi := ⟨_, _, _, _, _, _⟩) (v := _) rfl (by kernel_rfl) (by kernel_rfl) (by kernel_rfl) (fun _ _ _ h => h) (Or.inl ⟨by rfl, by intro wq hSw; (try dsimp only at hSw); go_simp; (try with_reducible rfl)⟩) (by assumption) ?_
        try simp only [Act.put, List.setIfInBounds_toArray, List.set_cons_zero, List.set_cons_succ]
        refine wpAnyH_ready (rs := [1, 11]) (by kernel_rfl) (by simp) ?_
        refine AllReadyH.cons (o := ⟨_, _, _, _, _, _⟩) rfl (fun K hK => ?_) (AllReadyH.cons (o := ⟨_, _, _, _, _, _⟩) rfl (fun K hK => ?_) (AllReadyH.nil))
        · go_simp
          go_at_call 74
          refine at_world ?_
          intro W hW
          have hbW : Below wq.heap.size wq W := by rw [hW]; exact (Below.refl _ _).drew
          clear hW
          refine (hsh.out W (HB.out.trans ((Bthen HQ.out.2.2.1 hbW).mono HB.out.size))).mono ?_
          rintro e w3 ⟨rfl, hb3⟩
          have hb4 := Bthen hbW hb3
          have hs4 := hb4.size
          go_wp2_with fail
          refine hK.out _ _ ?_ (fun hHeld => ?_)
          · exact HC.out _ hb4
          clear hK K
          try simp only [Act.put, List.setIfInBounds_toArray, List.set_cons_zero, List.set_cons_succ]
          refine wpAnyH_take (i := 5) (oi := ⟨_, _, _, _, _, _⟩) (v := _) rfl (by kernel_rfl) (by kernel_rfl) (by kernel_rfl) (fun _ _ _ h => h) (Or.inl ⟨by rfl, by intro wq hSw; (try dsimp only at hSw); go_simp; (try with_reducible rfl)⟩) (by assumption) ?_
          try simp only [Act.put, List.setIfInBounds_toArray, List.set_cons_zero, List.set_cons_succ]
          refine wpAnyH_take (i := 6) (oi := ⟨_, _, _, _, _, _⟩) (v := undef) rfl (by kernel_rfl) (by kernel_rfl) (by kernel_rfl) (fun _ _ _ h => h) (Or.inr ⟨by rfl, rfl⟩) (by assumption) ?_
          try simp only [Act.put, List.setIfInBounds_toArray, List.set_cons_zero, List.set_cons_succ]
          refine wpAnyH_take (i := 7) (oi := ⟨_, _, _, _, _, _⟩) (v := undef) rfl (by kernel_rfl) (by kernel_rfl) (by kernel_rfl) (fun _ _ _ h => h) (Or.inr ⟨by rfl, rfl⟩) (by assumption) ?_
          try simp only [Act.put, List.setIfInBounds_toArray, List.set_cons_zero, List.set_cons_succ]
          refine wpAnyH_take (i := 8) (oi := ⟨_, _, _, _, _, _⟩) (v := undef) rfl (by kernel_rfl) (by kernel_rfl) (by kernel_rfl) (fun _ _ _ h => h) (Or.inr ⟨by rfl, rfl⟩) (by assumption) ?_
          try simp only [Act.put, List.setIfInBounds_toArray, List.set_cons_zero, List.set_cons_succ]
          refine wpAnyH_take (i := 9) (oi := ⟨_, _, _, _, _, _⟩) (v := _) rfl (by kernel_rfl) (by kernel_rfl) (by kernel_rfl) (fun _ _ _ h => h) (Or.inl ⟨by rfl, by intro wq hSw; (try dsimp only at hSw); go_simp; (try with_reducible rfl)⟩) (by assumption) ?_
          try simp only [Act.put, List.setIfInBounds_toArray, List.set_cons_zero, List.set_cons_succ]
          refine wpAnyH_take (i := 10) (oi := ⟨_, _, _, _, _, _⟩) (v := _) rfl (by kernel_rfl) (by kernel_rfl) (by kernel_rfl) (fun _ _ _ h => h) (Or.inl ⟨by rfl, by intro wq hSw; (try dsimp only at hSw); go_simp; (try with_reducible rfl)⟩) (by assumption) ?_
          try simp only [Act.put, List.setIfInBounds_toArray, List.set_cons_zero, List.set_cons_succ]
          refine wpAnyH_ready (rs := [11]) (by kernel_rfl) (by simp) ?_
          refine AllReadyH.cons (o := ⟨_, _, _, _, _, _⟩) rfl (fun K hK => ?_) AllReadyH.nil
          go_simp
          refine hK.out _ _ ?_ (fun hHeld => ?_)
          · exact HC.out _ (hb4.alloc hb4.size _)
          clear hK K
          try simp only [Act.put, List.setIfInBounds_toArray, List.set_cons_zero, List.set_cons_succ]
          refine wpAnyH_ready (rs := [12]) (by kernel_rfl) (by simp) ?_
          refine AllReadyH.cons (o := ⟨_, _, _, _, _, _⟩) rfl (fun K hK => ?_) AllReadyH.nil
          go_simp
          refine hK.out _ _ ?_ (fun hHeld => ?_)
          · exact HC.out _ (hb4.alloc hb4.size _)
          clear hK K
          try simp only [Act.put, List.setIfInBounds_toArray, List.set_cons_zero, List.set_cons_succ]
          refine wpAnyH_done (by kernel_rfl) ?_ _
          go_wp2_with fail
          go_meet
          exact leafA ((hb4.block _ hlt).trans HQ.out.1) ((hb4.block _ (isT_of HQ.out.2.1).lt).trans HQ.out.2.1) (Bthen HQ.out.2.2.1 hb4) (by have := HQ.out.2.2.2; omega)
        · go_simp
          refine hK.out _ _ ?_ (fun hHeld => ?_)
          · exact HC.out _ (((Below.refl _ _).alloc (Nat.le_refl _) _).drew)
          clear hK K
          try simp only [Act.put, List.setIfInBounds_toArray, List.set_cons_zero, List.set_cons_succ]
          refine wpAnyH_ready (rs := [1]) (by kernel_rfl) (by simp) ?_
          refine AllReadyH.cons (o := ⟨_, _, _, _, _, _⟩) rfl (fun K hK => ?_) AllReadyH.nil
          go_simp
          go_at_call 74
          refine at_world ?_
          intro W hW
          have hbW : Below wq.heap.size wq W := by rw [hW]; exact ((Below.refl _ _).alloc (Nat.le_refl _) _).drew
          have g1 : W.heap[wq.heap.size]? = some (.cells #[.int .i64 0, .int .i64 0, .bool false, .bool false, .bool false] 91 (0, 0)) := by rw [hW]; exact heap_alloc_new wq _
          clear hW
          refine (hsh.out W (HB.out.trans ((Bthen HQ.out.2.2.1 hbW).mono HB.out.size))).mono ?_
          rintro e w3 ⟨rfl, hb3⟩
          have hb4 := Bthen hbW hb3
          have g3 := (hb3.block _ (isT_of g1).lt).trans g1
          have z0 := block_cell g3 0 _ rfl
          have z1 := block_cell g3 1 _ rfl
          have z2 := block_cell g3 2 _ rfl
          have z3 := block_cell g3 3 _ rfl
          have z4 := block_cell g3 4 _ rfl
          have y0 := block_froz g3 0
          have y1 := block_froz g3 1
          have y2 := block_froz g3 2
          have y3 := block_froz g3 3
          have y4 := block_froz g3 4
          have hs4 := hb4.size
          go_wp2_with fail
          refine hK.out _ _ ?_ (fun hHeld => ?_)
          · exact HC.out _ hb4
          clear hK K
          try simp only [Act.put, List.setIfInBounds_toArray, List.set_cons_zero, List.set_cons_succ]
          refine wpAnyH_take (i := 5) (oi := ⟨_, _, _, _, _, _⟩) (v := _) rfl (by kernel_rfl) (by kernel_rfl) (by kernel_rfl) (fun _ _ _ h => h) (Or.inl ⟨by rfl, by intro wq hSw; (try dsimp only at hSw); go_simp; (try with_reducible rfl)⟩) (by assumption) ?_
          try simp only [Act.put, List.setIfInBounds_toArray, List.set_cons_zero, List.set_cons_succ]
          refine wpAnyH_take (i := 6) (oi := ⟨_, _, _, _, _, _⟩) (v := undef) rfl (by kernel_rfl) (by kernel_rfl) (by kernel_rfl) (fun _ _ _ h => h) (Or.inr ⟨by rfl, rfl⟩) (by assumption) ?_
          try simp only [Act.put, List.setIfInBounds_toArray, List.set_cons_zero, List.set_cons_succ]
          refine wpAnyH_take (i := 7) (oi := ⟨_, _, _, _, _, _⟩) (v := undef) rfl (by kernel_rfl) (by kernel_rfl) (by kernel_rfl) (fun _ _ _ h => h) (Or.inr ⟨by rfl, rfl⟩) (by assumption) ?_
          try simp only [Act.put, List.setIfInBounds_toArray, List.set_cons_zero, List.set_cons_succ]
          refine wpAnyH_take (i := 8) (oi := ⟨_, _, _, _, _, _⟩) (v := undef) rfl (by kernel_rfl) (by kernel_rfl) (by kernel_rfl) (fun _ _ _ h => h) (Or.inr ⟨by rfl, rfl⟩) (by assumption) ?_
          try simp only [Act.put, List.setIfInBounds_toArray, List.set_cons_zero, List.set_cons_succ]
          refine wpAnyH_take (i := 9) (oi := ⟨_, _, _, _, _, _⟩) (v := _) rfl (by kernel_rfl) (by kernel_rfl) (by kernel_rfl) (fun _ _ _ h => h) (Or.inl ⟨by rfl, by intro wq hSw; (try dsimp only at hSw); go_simp; (try with_reducible rfl)⟩) (by assumption) ?_
          try simp only [Act.put, List.setIfInBounds_toArray, List.set_cons_zero, List.set_cons_succ]
          refine wpAnyH_take (i := 10) (oi := ⟨_, _, _, _, _, _⟩) (v := _) rfl (by kernel_rfl) (by kernel_rfl) (by kernel_rfl) (fun _ _ _ h => h) (Or.inl ⟨by rfl, by intro wq hSw; (try dsimp only at hSw); go_simp; (try with_reducible rfl)⟩) (by assumption) ?_
          try simp only [Act.put, List.setIfInBounds_toArray, List.set_cons_zero, List.set_cons_succ]
          refine wpAnyH_ready (rs := [12]) (by kernel_rfl) (by simp) ?_
          refine AllReadyH.cons (o := ⟨_, _, _, _, _, _⟩) rfl (fun K hK => ?_) AllReadyH.nil
          go_simp
          refine hK.out _ _ ?_ (fun hHeld => ?_)
          · exact HC.out _ (set5b hb4 (Nat.le_refl _))
          clear hK K
          try simp only [Act.put, List.setIfInBounds_toArray, List.set_cons_zero, List.set_cons_succ]
          refine wpAnyH_done (by kernel_rfl) ?_ _
          go_wp2_with fail
          go_meet
          exact leafB ((hb4.block _ hlt).trans HQ.out.1) ((hb4.block _ (isT_of HQ.out.2.1).lt).trans HQ.out.2.1) (Bthen HQ.out.2.2.1 hb4) g3 (by have := HQ.out.2.2.2; omega)
      · clear hnu
        refine wp_region_held_drew (S := fun w' : World => w'.cell? ⟨w.heap.size, 0, none⟩ = some (.int .u8 k) ∧ w'.cell? ⟨w.heap.size, 1, none⟩ = some (.slice sa m sc) ∧ w'.cell? ⟨w.heap.size, 2, none⟩ = some (.int .i64 mn) ∧ w'.cell? ⟨w.heap.size, 3, none⟩ = some (.int .i64 mx) ∧ w'.cell? ⟨w.heap.size, 4, none⟩ = some (.bool lz) ∧ w'.cell? ⟨w.heap.size, 5, none⟩ = some (.slice na n nc)) (by kernel_rfl) ?_ (fun hHeld => ?_)
        · exact HC.out _ (Below.refl _ _).drew
        refine wpAnyH_take (i := 0) (oi := ⟨_, _, _, _, _, _⟩) (v := _) rfl (by kernel_rfl) (by kernel_rfl) (by kernel_rfl) (fun _ _ _ h => h) (Or.inl ⟨by rfl, by intro wq hSw; (try dsimp only at hSw); go_simp; (try with_reducible rfl)⟩) (by assumption) ?_
        try simp only [Act.put, List.setIfInBounds_toArray, List.set_cons_zero, List.set_cons_succ]
        refine wpAnyH_take (i := 2) (oi := ⟨_, _, _, _, _, _⟩) (v := _) rfl (by kernel_rfl) (by kernel_rfl) (by kernel_rfl) (fun _ _ _ h => h) (Or.inl ⟨by rfl, by intro wq hSw; (try dsimp only at hSw); go_simp; (try with_reducible rfl)⟩) (by assumption) ?_
        try simp only [Act.put, List.setIfInBounds_toArray, List.set_cons_zero, List.set_cons_succ]
        refine wpAnyH_take (i := 3) (oi := ⟨_, _, _, _, _, _⟩) (v := _) rfl (by kernel_rfl) (by kernel_rfl) (by kernel_rfl) (fun _ _ _ h => h) (Or.inl ⟨by rfl, by intro wq hSw; (try dsimp only at hSw); go_simp; (try with_reducible rfl)⟩) (by assumption) ?_
        try simp only [Act.put, List.setIfInBounds_toArray, List.set_cons_zero, List.set_cons_succ]
        refine wpAnyH_take (i := 4) (oi := ⟨_, _, _, _, _, _⟩) (v := _) rfl (by kernel_rfl) (by kernel_rfl) (by kernel_rfl) (fun _ _ _ h => h) (Or.inl ⟨by rfl, by intro wq hSw; (try dsimp only at hSw); go_simp; (try with_reducible rfl)⟩) (by assumption) ?_
        try simp only [Act.put, List.setIfInBounds_toArray, List.set_cons_zero, List.set_cons_succ]
        refine wpAnyH_ready (rs := [1, 11]) (by kernel_rfl) (by simp) ?_
        refine AllReadyH.cons (o := ⟨_, _, _, _, _, _⟩) rfl (fun K hK => ?_) (AllReadyH.cons (o := ⟨_, _, _, _, _, _⟩) rfl (fun K hK => ?_) (AllReadyH.nil))
        · go_simp
          go_at_call 74
          refine at_world ?_
          intro W hW
          have hbW : Below wq.heap.size wq W := by rw [hW]; exact (Below.refl _ _).drew
          clear hW
          refine (hsh.out W (HB.out.trans ((Bthen HQ.out.2.2.1 hbW).mono HB.out.size))).mono ?_
          rintro e w3 ⟨rfl, hb3⟩
          have hb4 := Bthen hbW hb3
          have hs4 := hb4.size
          go_wp2_with fail
          refine hK.out _ _ ?_ (fun hHeld => ?_)
          · exact HC.out _ hb4
          clear hK K
          try simp only [Act.put, List.setIfInBounds_toArray, List.set_cons_zero, List.set_cons_succ]
          refine wpAnyH_take (i := 5) (oi := ⟨_, _, _, _, _, _⟩) (v := _) rfl (by kernel_rfl) (by kernel_rfl) (by kernel_rfl) (fun _ _ _ h => h) (Or.inl ⟨by rfl, by intro wq hSw; (try dsimp only at hSw); go_simp; (try with_reducible rfl)⟩) (by assumption) ?_
          try simp only [Act.put, List.setIfInBounds_toArray, List.set_cons_zero, List.set_cons_succ]
          refine wpAnyH_take (i := 6) (oi := ⟨_, _, _, _, _, _⟩) (v := _) rfl (by kernel_rfl) (by kernel_rfl) (by kernel_rfl) (fun _ _ _ h => h) (Or.inl ⟨by rfl, by intro wq hSw; (try dsimp only at hSw); go_simp; (try with_reducible rfl)⟩) (by assumption) ?_
          try simp only [Act.put, List.setIfInBounds_toArray, List.set_cons_zero, List.set_cons_succ]
          refine wpAnyH_take (i := 7) (oi := ⟨_, _, _, _, _, _⟩) (v := _) rfl (by kernel_rfl) (by kernel_rfl) (by kernel_rfl) (fun _ _ _ h => h) (Or.inl ⟨by rfl, by intro wq hSw; (try dsimp only at hSw); go_simp; (try with_reducible rfl)⟩) (by assumption) ?_
          try simp only [Act.put, List.setIfInBounds_toArray, List.set_cons_zero, List.set_cons_succ]
          refine wpAnyH_take (i := 8) (oi := ⟨_, _, _, _, _, _⟩) (v := _) rfl (by kernel_rfl) (by kernel_rfl) (by kernel_rfl) (fun _ _ _ h => h) (Or.inl ⟨by rfl, by intro wq hSw; (try dsimp only at hSw); go_simp; (try with_reducible rfl)⟩) (by assumption) ?_
          try simp only [Act.put, List.setIfInBounds_toArray, List.set_cons_zero, List.set_cons_succ]
          refine wpAnyH_take (i := 9) (oi := ⟨_, _, _, _, _, _⟩) (v := _) rfl (by kernel_rfl) (by kernel_rfl) (by kernel_rfl) (fun _ _ _ h => h) (Or.inl ⟨by rfl, by intro wq hSw; (try dsimp only at hSw); go_simp; (try with_reducible rfl)⟩) (by assumption) ?_
          try simp only [Act.put, List.setIfInBounds_toArray, List.set_cons_zero, List.set_cons_succ]
          refine wpAnyH_take (i := 10) (oi := ⟨_, _, _, _, _, _⟩) (v := _) rfl (by kernel_rfl) (by kernel_rfl) (by kernel_rfl) (fun _ _ _ h => h) (Or.inl ⟨by rfl, by intro wq hSw; (try dsimp only at hSw); go_simp; (try with_reducible rfl)⟩) (by assumption) ?_
          try simp only [Act.put, List.setIfInBounds_toArray, List.set_cons_zero, List.set_cons_succ]
          refine wpAnyH_ready (rs := [11]) (by kernel_rfl) (by simp) ?_
          refine AllReadyH.cons (o := ⟨_, _, _, _, _, _⟩) rfl (fun K hK => ?_) AllReadyH.nil
          go_simp
          refine hK.out _ _ ?_ (fun hHeld => ?_)
          · exact HC.out _ (hb4.alloc hb4.size _)
          clear hK K
          try simp only [Act.put, List.setIfInBounds_toArray, List.set_cons_zero, List.set_cons_succ]
          refine wpAnyH_ready (rs := [12]) (by kernel_rfl) (by simp) ?_
          refine AllReadyH.cons (o := ⟨_, _, _, _, _, _⟩) rfl (fun K hK => ?_) AllReadyH.nil
          go_simp
          refine hK.out _ _ ?_ (fun hHeld => ?_)
          · exact HC.out _ (hb4.alloc hb4.size _)
          clear hK K
          try simp only [Act.put, List.setIfInBounds_toArray, List.set_cons_zero, List.set_cons_succ]
          refine wpAnyH_done (by kernel_rfl) ?_ _
          go_wp2_with fail
          go_meet
          exact leafA ((hb4.block _ hlt).trans HQ.out.1) ((hb4.block _ (isT_of HQ.out.2.1).lt).trans HQ.out.2.1) (Bthen HQ.out.2.2.1 hb4) (by have := HQ.out.2.2.2; omega)
        · go_simp
          refine hK.out _ _ ?_ (fun hHeld => ?_)
          · exact HC.out _ (((Below.refl _ _).alloc (Nat.le_refl _) _).drew)
          clear hK K
          try simp only [Act.put, List.setIfInBounds_toArray, List.set_cons_zero, List.set_cons_succ]
          refine wpAnyH_ready (rs := [1]) (by kernel_rfl) (by simp) ?_
          refine AllReadyH.cons (o := ⟨_, _, _, _, _, _⟩) rfl (fun K hK => ?_) AllReadyH.nil
          go_simp
          go_at_call 74
          refine at_world ?_
          intro W hW
          have hbW : Below wq.heap.size wq W := by rw [hW]; exact ((Below.refl _ _).alloc (Nat.le_refl _) _).drew
          have g1 : W.heap[wq.heap.size]? = some (.cells #[.int .i64 0, .int .i64 0, .bool false, .bool false, .bool false] 91 (0, 0)) := by rw [hW]; exact heap_alloc_new wq _
          clear hW
          refine (hsh.out W (HB.out.trans ((Bthen HQ.out.2.2.1 hbW).mono HB.out.size))).mono ?_
          rintro e w3 ⟨rfl, hb3⟩
          have hb4 := Bthen hbW hb3
          have g3 := (hb3.block _ (isT_of g1).lt).trans g1
          have z0 := block_cell g3 0 _ rfl
          have z1 := block_cell g3 1 _ rfl
          have z2 := block_cell g3 2 _ rfl
          have z3 := block_cell g3 3 _ rfl
          have z4 := block_cell g3 4 _ rfl
          have y0 := block_froz g3 0
          have y1 := block_froz g3 1
          have y2 := block_froz g3 2
          have y3 := block_froz g3 3
          have y4 := block_froz g3 4
          have hs4 := hb4.size
          go_wp2_with fail
          refine hK.out _ _ ?_ (fun hHeld => ?_)
          · exact HC.out _ hb4
          clear hK K
          try simp only [Act.put, List.setIfInBounds_toArray, List.set_cons_zero, List.set_cons_succ]
          refine wpAnyH_take (i := 5) (oi := ⟨_, _, _, _, _, _⟩) (v := _) rfl (by kernel_rfl) (by kernel_rfl) (by kernel_rfl) (fun _ _ _ h => h) (Or.inl ⟨by rfl, by intro wq hSw; (try dsimp only at hSw); go_simp; (try with_reducible rfl)⟩) (by assumption) ?_
          try simp only [Act.put, List.setIfInBounds_toArray, List.set_cons_zero, List.set_cons_succ]
          refine wpAnyH_take (i := 6) (oi := ⟨_, _, _, _, _, _⟩) (v := _) rfl (by kernel_rfl) (by kernel_rfl) (by kernel_rfl) (fun _ _ _ h => h) (Or.inl ⟨by rfl, by intro wq hSw; (try dsimp only at hSw); go_simp; (try with_reducible rfl)⟩) (by assumption) ?_
          try simp only [Act.put, List.setIfInBounds_toArray, List.set_cons_zero, List.set_cons_succ]
          refine wpAnyH_take (i := 7) (oi := ⟨_, _, _, _, _, _⟩) (v := _) rfl (by kernel_rfl) (by kernel_rfl) (by kernel_rfl) (fun _ _ _ h => h) (Or.inl ⟨by rfl, by intro wq hSw; (try dsimp only at hSw); go_simp; (try with_reducible rfl)⟩) (by assumption) ?_
          try simp only [Act.put, List.setIfInBounds_toArray, List.set_cons_zero, List.set_cons_succ]
          refine wpAnyH_take (i := 8) (oi := ⟨_, _, _, _, _, _⟩) (v := _) rfl (by kernel_rfl) (by kernel_rfl) (by kernel_rfl) (fun _ _ _ h => h) (Or.inl ⟨by rfl, by intro wq hSw; (try dsimp only at hSw); go_simp; (try with_reducible rfl)⟩) (by assumption) ?_
          try simp only [Act.put, List.setIfInBounds_toArray, List.set_cons_zero, List.set_cons_succ]
          refine wpAnyH_take (i := 9) (oi := ⟨_, _, _, _, _, _⟩) (v := _) rfl (by kernel_rfl) (by kernel_rfl) (by kernel_rfl) (fun _ _ _ h => h) (Or.inl ⟨by rfl, by intro wq hSw; (try dsimp only at hSw); go_simp; (try with_reducible rfl)⟩) (by assumption) ?_
          try simp only [Act.put, List.setIfInBounds_toArray, List.set_cons_zero, List.set_cons_succ]
          refine wpAnyH_take (i := 10) (oi := ⟨_, _, _, _, _, _⟩) (v := _) rfl (by kernel_rfl) (by kernel_rfl) (by kernel_rfl) (fun _ _ _ h => h) (Or.inl ⟨by rfl, by intro wq hSw; (try dsimp only at hSw); go_simp; (try with_reducible rfl)⟩) (by assumption) ?_
          try simp only [Act.put, List.setIfInBounds_toArray, List.set_cons_zero, List.set_cons_succ]
          refine wpAnyH_ready (rs := [12]) (by kernel_rfl) (by simp) ?_
          refine AllReadyH.cons (o := ⟨_, _, _, _, _, _⟩) rfl (fun K hK => ?_) AllReadyH.nil
          go_simp
          refine hK.out _ _ ?_ (fun hHeld => ?_)
          · exact HC.out _ (set5b hb4 (Nat.le_refl _))
          clear hK K
          try simp only [Act.put, List.setIfInBounds_toArray, List.set_cons_zero, List.set_cons_succ]
          refine wpAnyH_done (by kernel_rfl) ?_ _
          go_wp2_with fail
          go_meet
          exact leafB ((hb4.block _ hlt).trans HQ.out.1) ((hb4.block _ (isT_of HQ.out.2.1).lt).trans HQ.out.2.1) (Bthen HQ.out.2.2.1 hb4) g3 (by have := HQ.out.2.2.2; omega)
    case rest =>
      unfold LookA at hcut
      obtain ⟨g, rfl, rfl, rfl, hg, e2, e3, e4, hb1⟩ := hcut
      obtain ⟨b2, hb2⟩ : ∃ q, q = w.heap.size := ⟨_, rfl⟩
      obtain ⟨b3, hb3⟩ : ∃ q, q = b2 + 1 := ⟨_, rfl⟩
      rw [← hb2, ← hb3] at e3
      rw [← hb2] at e2 hg
      rw [← hb3] at hg
      rw [← hb2, ← hb3]
      have HNE := Lib.hid (show b2 ≠ g ∧ b3 ≠ g ∧ w.heap.size ≤ g from ⟨by omega, by omega, by omega⟩)
      have HE := Lib.hid (And.intro hb2 hb3)
      have HW1 := Lib.hid hb1
      obtain ⟨w1, hw1⟩ : ∃ q, q = wc := ⟨_, rfl⟩
      subst hw1
      clear hb2 hb3 hb1 hnu
      have c5 := block_cell e2 5 _ rfl
      go_wp2_with fail
      have HX := Lib.hid (And.intro e2 (And.intro e3 e4))
      clear c5 e2 e3 e4
      go_loopw [22] (fun i wr => VRel w k s mn mx lz l #[.int .u8 k, .slice sa m sc, .int .i64 mn, .int .i64 mx, .bool lz, .slice na n nc] b2 b3 g n i wr) (fun i _ => n - (intOf i).toNat)
      case atStart =>
        exact ⟨0, startF k sh, Nat.zero_le _, rfl, by rw [HSH.out, HM.out.2]; rfl, HX.out.1, HX.out.2.1, by unfold startF; rw [← HNU.out]; exact HX.out.2.2, HW1.out⟩
      case round =>
        unfold VRel at hrel
        obtain ⟨j, f, hj, rfl, hl, e2, e3, e4, hb⟩ := hrel
        have HL := Lib.hid hl
        have HX := Lib.hid (And.intro e2 (And.intro e3 (And.intro e4 hb)))
        obtain ⟨wA, hwA⟩ : ∃ q, q = wr := ⟨_, rfl⟩
        subst hwA
        clear hl e2 e3 e4 hb
        by_cases hlt : j < n
        · obtain ⟨x, hx⟩ : ∃ x, l[j]? = some x := ⟨_, List.getElem?_eq_getElem (by have := HM.out.2; omega)⟩
          have hbA : Hid (Below w0.heap.size w0 wA) := Lib.hid (HB.out.trans (HX.out.2.2.2.mono HB.out.size))
          obtain ⟨b, off, rfl, hbs, hcell⟩ := RdF.nat (RdF.below HN.out hbA.out) hx
          obtain ⟨kx, sax, scx, sx, mnx, mxx, lzx, nax, ncx, lx⟩ := x
          have d0 := hcell 0 _ rfl
          rw [Nat.add_zero] at d0
          have d1 := hcell 1 _ rfl
          have d2 := hcell 2 _ rfl
          have d3 := hcell 3 _ rfl
          have d4 := hcell 4 _ rfl
          have d5 := hcell 5 _ rfl
          have hcc := (HX.out.2.2.2.cell (p := ⟨c, 0, none⟩) hclt).trans hc
          have hclA : c < wA.heap.size := cell_lt hcc
          have HD := Lib.hid hx
          clear hcell hx
          go_wp2_with fail
          refine at_world ?_
          intro W hW
          have hbW : Hid (Below wA.heap.size wA W) := Lib.hid (by rw [hW]; exact (Below.refl _ _).alloc (Nat.le_refl _) _)
          have hcW := (hbW.out.cell (p := ⟨c, 0, none⟩) hclA).trans hcc
          clear hW
          have hcall := HI.out _ (List.mem_of_getElem? HD.out) c W (hbA.out.trans (hbW.out.mono hbA.out.size)) hcW
          obtain ⟨fx, hfx⟩ : ∃ q, q = look (L.mk kx sax scx sx mnx mxx lzx nax ncx lx).tree := ⟨_, rfl⟩
          rw [← hfx] at hcall
          have HF := Lib.hid hfx
          clear hfx hcW d0 d1 d2 d3 d4 d5
          refine Calls.mono (show Calls Tryz.prog 73 #[.agg #[.int .u8 kx, .slice sax sx.length scx, .int .i64 mnx, .int .i64 mxx, .bool lzx, .slice nax lx.length ncx], .pointer (some ⟨c, 0, none⟩)] W _ from hcall) ?_
          clear hcall
          rintro e w5 ⟨rfl, hb5⟩
          have hb6 : Hid (Below wA.heap.size wA w5) := Lib.hid (Bthen hbW.out hb5)
          clear hb5
          unfold fV
          go_wp2_with fail
          obtain ⟨w6, hw6⟩ : ∃ q, q = w5.alloc (.cells #[.int .i64 fx.depth, .int .i64 fx.groups, .bool fx.nul, .bool fx.shaped, .bool fx.firm] 91) := ⟨_, rfl⟩
          rw [← hw6]
          have e4 : w6.heap[g]? = some (.cells (fC f) 91 (0, 0)) := by
            rw [hw6, Below.heap_alloc _ _ _ (Nat.lt_of_lt_of_le (isT_of HX.out.2.2.1).lt hb6.out.size)]
            exact (hb6.out.block _ (isT_of HX.out.2.2.1).lt).trans HX.out.2.2.1
          obtain ⟨b7, hb7⟩ : ∃ q, q = w5.heap.size := ⟨_, rfl⟩
          rw [← hb7]
          have e7 : w6.heap[b7]? = some (.cells (fC fx) 91 (0, 0)) := by rw [hw6, hb7]; exact heap_alloc_new w5 _
          have h67 : Hid (Below wA.heap.size wA w6) := Lib.hid (by rw [hw6]; exact hb6.out.alloc hb6.out.size _)
          have hgb : Hid (g ≠ b7) := Lib.hid (by have := (isT_of HX.out.2.2.1).lt; have := hb6.out.size; omega)
          clear hw6 hb7 hb6
          have x0 : w6.cell? ⟨g, 0, none⟩ = some (.int .i64 f.depth) := block_cell e4 0 _ rfl
          have x1 : w6.cell? ⟨g, 1, none⟩ = some (.int .i64 f.groups) := block_cell e4 1 _ rfl
          have z0 := block_froz e4 0
          have z1 := block_froz e4 1
          have y0 : w6.cell? ⟨b7, 0, none⟩ = some (.int .i64 fx.depth) := block_cell e7 0 _ rfl
          have y1 : w6.cell? ⟨b7, 1, none⟩ = some (.int .i64 fx.groups) := block_cell e7 1 _ rfl
          have HY := Lib.hid (And.intro e4 e7)
          clear e4 e7
          go_region
          obtain ⟨w7, hw7⟩ : ∃ q, q = ((w6.setCell ⟨g, 0, none⟩ (.int .i64 (max f.depth fx.depth))).setCell ⟨g, 1, none⟩ (.int .i64 (wrap64 (f.groups + fx.groups)))).drew := ⟨_, rfl⟩
          rw [← hw7]
          have e4 : w7.heap[g]? = some (.cells #[.int .i64 (max f.depth fx.depth), .int .i64 (wrap64 (f.groups + fx.groups)), .bool f.nul, .bool f.shaped, .bool f.firm] 91 (0, 0)) := by
            rw [hw7]; exact set01 HY.out.1
          have hfr : Hid (Fr (fun k => k = g) w6 w7) := Lib.hid (by rw [hw7]; exact fr2 _ _ _ _)
          have e7 := (hfr.out.block _ (isT_of HY.out.2).lt (fun e => hgb.out e.symm)).trans HY.out.2
          have HZ := Lib.hid (And.intro e4 e7)
          clear hw7 x0 x1 z0 z1 y0 y1 e4 e7
          go_wp2_with fail
          obtain ⟨f0, f1, fn, fs, ff⟩ := f
          obtain ⟨v0, v1, vn, vs, vf⟩ := fx
          go_cut [] (fun wx => FAt w7 g #[.int .i64 (max f0 v0), .int .i64 (wrap64 (f1 + v1)), .bool fn, .bool (fs && vs), .bool (ff && vf)] wx)
          case first =>
            have x3 : w7.cell? ⟨g, 3, none⟩ = some (.bool fs) := block_cell HZ.out.1 3 _ rfl
            have x4 : w7.cell? ⟨g, 4, none⟩ = some (.bool ff) := block_cell HZ.out.1 4 _ rfl
            have z3 := block_froz HZ.out.1 3
            have z4 := block_froz HZ.out.1 4
            have y3 : w7.cell? ⟨b7, 3, none⟩ = some (.bool vs) := block_cell HZ.out.2 3 _ rfl
            have y4 : w7.cell? ⟨b7, 4, none⟩ = some (.bool vf) := block_cell HZ.out.2 4 _ rfl
            cases fs <;> cases ff
            all_goals
              go_region
              go_wp2_with fail
              go_meet
              exact ⟨set34 HZ.out.1, fr2 _ _ _ _⟩
          case rest =>
          obtain ⟨w8, hw8⟩ : ∃ q, q = wc := ⟨_, rfl⟩
          subst hw8
          have hne := HNE.out
          have e8 := hcut.1
          have hf8 : Fr (fun k => k = g) w6 w8 := hfr.out.trans hcut.2
          have hold : ∀ q, q < wA.heap.size → q ≠ g → w8.heap[q]? = wA.heap[q]? := fun q hq hqg => (hf8.block q (Nat.lt_of_lt_of_le hq h67.out.size) hqg).trans (h67.out.block q hq)
          have h2 : w8.heap[b2]? = some (.cells #[.int .u8 k, .slice sa m sc, .int .i64 mn, .int .i64 mx, .bool lz, .slice (some ⟨b, off, none⟩) n nc] 27 (0, 0)) := (hold _ (isT_of HX.out.1).lt hne.1).trans HX.out.1
          have h3 := (hold _ (isT_of HX.out.2.1).lt hne.2.1).trans HX.out.2.1
          have hbl : Below w.heap.size w w8 := HX.out.2.2.2.trans ((h67.out.mono HX.out.2.2.2.size).trans (hf8.below (B := w.heap.size) (fun q hq e => by omega) (Nat.le_trans HX.out.2.2.2.size h67.out.size)))
          have y2 : w8.cell? ⟨b7, 2, none⟩ = some (.bool vn) := block_cell ((hcut.2.block _ (isT_of HZ.out.2).lt (fun e => hgb.out e.symm)).trans HZ.out.2) 2 _ rfl
          have c0 : w8.cell? ⟨b2, 0, none⟩ = some (.int .u8 k) := block_cell h2 0 _ rfl
          have x2 : w8.cell? ⟨g, 2, none⟩ = some (.bool fn) := block_cell e8 2 _ rfl
          have z2 := block_froz e8 2
          have H8 := Lib.hid (And.intro h2 (And.intro h3 (And.intro hbl e8)))
          clear hcut hf8 hold h2 h3 hbl e8 hne
          have hdr : Hid (∀ q : Bool, q = (if k = 3 then fn && vn else fn || vn) → lookL k (treeL (l.drop (j + 1))) ⟨max f0 v0, wrap64 (f1 + v1), q, fs && vs, ff && vf⟩ = lookL k (treeL l) (startF k (shapedN k s mn mx lz l.length))) := Lib.hid (fun q hq => by
            have hx := HD.out
            have hjl := (List.getElem?_eq_some_iff.1 hx).1
            have hxe := (List.getElem?_eq_some_iff.1 hx).2
            rw [← HL.out, List.drop_eq_getElem_cons hjl, hxe, treeL, lookL, ← HF.out, hq]
            rfl)
          have hend : Hid (∀ (q : Bool), q = (if k = 3 then fn && vn else fn || vn) → ∀ wx, wx.heap[g]? = some (.cells #[.int .i64 (max f0 v0), .int .i64 (wrap64 (f1 + v1)), .bool q, .bool (fs && vs), .bool (ff && vf)] 91 (0, 0)) → Fr (fun q => q = g) w8 wx →
              VRel w k s mn mx lz l #[.int .u8 k, .slice sa m sc, .int .i64 mn, .int .i64 mx, .bool lz, .slice (some ⟨b, off, none⟩) n nc] b2 b3 g n (.int .i64 ((j : Int) + 1)) wx) := Lib.hid (fun q hq wx hg1 hfx => by
            have hne := HNE.out
            refine ⟨j + 1, ⟨max f0 v0, wrap64 (f1 + v1), q, fs && vs, ff && vf⟩, hlt, rfl, hdr.out q hq, (hfx.block _ (isT_of H8.out.1).lt hne.1).trans H8.out.1, (hfx.block _ (isT_of H8.out.2.1).lt hne.2.1).trans H8.out.2.1, hg1, H8.out.2.2.1.trans (hfx.below (B := w.heap.size) (fun q hq e => by omega) H8.out.2.2.1.size)⟩)
          by_cases h3 : k = 3
          · subst h3
            cases fn
            · go_wp2_with fail
              go_roundw
              case rel => exact hend.out false rfl _ (set2 H8.out.2.2.2) (fr1 _ _)
              case measure => simp [intOf]; omega
            · go_wp2_with fail
              go_roundw
              case rel => exact hend.out vn (by simp) _ (set2 H8.out.2.2.2) (fr1 _ _)
              case measure => simp [intOf]; omega
          · have h3' : (k == 3) = false := beq_eq_false_iff_ne.2 h3
            cases fn
            · go_wp2_with fail
              go_roundw
              case rel => exact hend.out vn (by simp [h3]) _ (set2 H8.out.2.2.2) (fr1 _ _)
              case measure => simp [intOf]; omega
            · go_wp2_with fail
              go_roundw
              case rel => exact hend.out true (by simp [h3]) _ (set2 H8.out.2.2.2) (fr1 _ _)
              case measure => simp [intOf]; omega
        · obtain rfl : j = n := by omega
          have hfin : Hid (f = lookL k (treeL l) (startF k (shapedN k s mn mx lz l.length))) := Lib.hid (by
            rw [← HL.out, List.drop_of_length_le (by have := HM.out.2; omega), treeL, lookL])
          have hlook : Hid (look (L.mk k sa sc s mn mx lz na nc l).tree = endF k mn mx f) := Lib.hid (by
            rw [hfin.out, L.tree, look, treeL_len])
          obtain ⟨f0, f1, fn, fs, ff⟩ := f
          have x0 : wA.cell? ⟨g, 0, none⟩ = some (.int .i64 f0) := block_cell HX.out.2.2.1 0 _ rfl
          have x1 : wA.cell? ⟨g, 1, none⟩ = some (.int .i64 f1) := block_cell HX.out.2.2.1 1 _ rfl
          have x2 : wA.cell? ⟨g, 2, none⟩ = some (.bool fn) := block_cell HX.out.2.2.1 2 _ rfl
          have x3 : wA.cell? ⟨g, 3, none⟩ = some (.bool fs) := block_cell HX.out.2.2.1 3 _ rfl
          have x4 : wA.cell? ⟨g, 4, none⟩ = some (.bool ff) := block_cell HX.out.2.2.1 4 _ rfl
          have z0 := block_froz HX.out.2.2.1 0
          have z1 := block_froz HX.out.2.2.1 1
          have z2 := block_froz HX.out.2.2.1 2
          have z4 := block_froz HX.out.2.2.1 4
          have c0 : wA.cell? ⟨b2, 0, none⟩ = some (.int .u8 k) := block_cell HX.out.1 0 _ rfl
          have c2 : wA.cell? ⟨b2, 2, none⟩ = some (.int .i64 mn) := block_cell HX.out.1 2 _ rfl
          have c3 : wA.cell? ⟨b2, 3, none⟩ = some (.int .i64 mx) := block_cell HX.out.1 3 _ rfl
          have r0 : wA.cell? ⟨b3, 0, none⟩ = some (.int .i64 0) := block_cell HX.out.2.1 0 _ rfl
          have r1 : wA.cell? ⟨b3, 1, none⟩ = some (.int .i64 0) := block_cell HX.out.2.1 1 _ rfl
          have r2 : wA.cell? ⟨b3, 2, none⟩ = some (.bool false) := block_cell HX.out.2.1 2 _ rfl
          have r3 : wA.cell? ⟨b3, 3, none⟩ = some (.bool false) := block_cell HX.out.2.1 3 _ rfl
          have r4 : wA.cell? ⟨b3, 4, none⟩ = some (.bool false) := block_cell HX.out.2.1 4 _ rfl
          have q0 := block_froz HX.out.2.1 0
          have q1 := block_froz HX.out.2.1 1
          have q2 := block_froz HX.out.2.1 2
          have q3 := block_froz HX.out.2.1 3
          have q4 := block_froz HX.out.2.1 4
          have HB3 : Hid (w.heap.size ≤ b3) := Lib.hid (by have := HE.out; omega)
          have hn2 := HNE.out.1
          have hn3 := HNE.out.2.1
          have hn23 : b2 ≠ b3 := by have := HE.out; omega
          have hn2' := Ne.symm hn2
          have hn3' := Ne.symm hn3
          have hn23' := Ne.symm hn23
          rcases (show k = 6 ∨ k = 5 ∨ ((k == 6) = false ∧ (k == 5) = false) by simp only [beq_eq_false_iff_ne]; omega) with rfl | rfl | ⟨h6, h5⟩
          · go_wp2_with fail
            obtain ⟨wE, hwE⟩ : ∃ q, q = (((((((wA.setCell ⟨g, 0, none⟩ (.int .i64 (wrap64 (f0 + 1)))).setCell ⟨g, 1, none⟩ (.int .i64 (wrap64 (f1 + 1)))).setCell ⟨b3, 0, none⟩ (.int .i64 (wrap64 (f0 + 1)))).setCell ⟨b3, 1, none⟩ (.int .i64 (wrap64 (f1 + 1)))).setCell ⟨b3, 2, none⟩ (.bool fn)).setCell ⟨b3, 3, none⟩ (.bool fs)).setCell ⟨b3, 4, none⟩ (.bool ff)) := ⟨_, rfl⟩
            rw [← hwE]
            have hE : wE.heap[b3]? = some (.cells #[.int .i64 (wrap64 (f0 + 1)), .int .i64 (wrap64 (f1 + 1)), .bool fn, .bool fs, .bool ff] 91 (0, 0)) := by rw [hwE]; exact setCell_five (((Fr.setCell (Fr.setCell (Fr.refl _ _) (by exact rfl) _) (by exact rfl) _ : Fr (fun q => q = g) wA ((wA.setCell ⟨g, 0, none⟩ (.int .i64 (wrap64 (f0 + 1)))).setCell ⟨g, 1, none⟩ (.int .i64 (wrap64 (f1 + 1))))).block _ (isT_of HX.out.2.1).lt hn3).trans HX.out.2.1)
            have hbE : Below w.heap.size w wE := by rw [hwE]; exact set5b (Below.setCell (p := ⟨g, 1, none⟩) (Below.setCell (p := ⟨g, 0, none⟩) HX.out.2.2.2 HNE.out.2.2 _) HNE.out.2.2 _) HB3.out
            have s0 := block_cell hE 0 _ rfl
            have s1 := block_cell hE 1 _ rfl
            have s2 := block_cell hE 2 _ rfl
            have s3 := block_cell hE 3 _ rfl
            have s4 := block_cell hE 4 _ rfl
            clear hwE hE
            exact bodyPost_ret (v := .agg #[.int .i64 (wrap64 (f0 + 1)), .int .i64 (wrap64 (f1 + 1)), .bool fn, .bool fs, .bool ff]) (by simp [results, Tryz.results73, go_sem, s0, s1, s2, s3, s4]) rfl ⟨by rw [hlook.out]; rfl, hbE⟩
          · have hk5 : ∀ a b c d e, endF 5 mn mx ⟨a, b, c, d, e⟩ = ⟨W (a + 1), b, c || decide (mn = 0), d, e && !(c && (decide (mx = -1) || decide (1 < mx)))⟩ := fun a b c d e => rfl
            rw [hk5] at hlook
            clear hk5
            have hways : (ff = false ∧ fn = false ∧ mn = 0) ∨ (ff = false ∧ fn = false ∧ mn ≠ 0) ∨ (ff = false ∧ fn = true) ∨ (ff = true ∧ fn = false ∧ mn = 0) ∨ (ff = true ∧ fn = false ∧ mn ≠ 0) ∨ (ff = true ∧ fn = true ∧ mx = -1) ∨ (ff = true ∧ fn = true ∧ mx ≠ -1 ∧ 1 < mx) ∨ (ff = true ∧ fn = true ∧ mx ≠ -1 ∧ ¬ 1 < mx) := by
              cases ff <;> cases fn <;> simp <;> omega
            rcases hways with ⟨rfl, rfl, rfl⟩ | ⟨rfl, rfl, h0⟩ | ⟨rfl, rfl⟩ | ⟨rfl, rfl, rfl⟩ | ⟨rfl, rfl, h0⟩ | ⟨rfl, rfl, rfl⟩ | ⟨rfl, rfl, h1, h2⟩ | ⟨rfl, rfl, h1, h2⟩
            · go_wp2_with fail
              obtain ⟨wE, hwE⟩ : ∃ q, q = ((((((((wA.setCell ⟨g, 0, none⟩ (.int .i64 (wrap64 (f0 + 1)))).setCell ⟨g, 4, none⟩ (.bool false)).setCell ⟨g, 2, none⟩ (.bool true)).setCell ⟨b3, 0, none⟩ (.int .i64 (wrap64 (f0 + 1)))).setCell ⟨b3, 1, none⟩ (.int .i64 f1)).setCell ⟨b3, 2, none⟩ (.bool true)).setCell ⟨b3, 3, none⟩ (.bool fs)).setCell ⟨b3, 4, none⟩ (.bool false)) := ⟨_, rfl⟩
              rw [← hwE]
              have hE : wE.heap[b3]? = some (.cells #[.int .i64 (wrap64 (f0 + 1)), .int .i64 f1, .bool true, .bool fs, .bool false] 91 (0, 0)) := by rw [hwE]; exact setCell_five (((Fr.setCell (Fr.setCell (Fr.setCell (Fr.refl _ _) (by exact rfl) _) (by exact rfl) _) (by exact rfl) _ : Fr (fun q => q = g) wA (((wA.setCell ⟨g, 0, none⟩ (.int .i64 (wrap64 (f0 + 1)))).setCell ⟨g, 4, none⟩ (.bool false)).setCell ⟨g, 2, none⟩ (.bool true))).block _ (isT_of HX.out.2.1).lt hn3).trans HX.out.2.1)
              have hbE : Below w.heap.size w wE := by rw [hwE]; exact set5b (Below.setCell (p := ⟨g, 2, none⟩) (Below.setCell (p := ⟨g, 4, none⟩) (Below.setCell (p := ⟨g, 0, none⟩) HX.out.2.2.2 HNE.out.2.2 _) HNE.out.2.2 _) HNE.out.2.2 _) HB3.out
              have s0 := block_cell hE 0 _ rfl
              have s1 := block_cell hE 1 _ rfl
              have s2 := block_cell hE 2 _ rfl
              have s3 := block_cell hE 3 _ rfl
              have s4 := block_cell hE 4 _ rfl
              clear hwE hE
              exact bodyPost_ret (v := .agg #[.int .i64 (wrap64 (f0 + 1)), .int .i64 f1, .bool true, .bool fs, .bool false]) (by simp [results, Tryz.results73, go_sem, s0, s1, s2, s3, s4]) rfl ⟨by rw [hlook.out]; rfl, hbE⟩
            · have h0' : (mn == 0) = false := beq_eq_false_iff_ne.2 h0
              go_wp2_with fail
              obtain ⟨wE, hwE⟩ : ∃ q, q = ((((((((wA.setCell ⟨g, 0, none⟩ (.int .i64 (wrap64 (f0 + 1)))).setCell ⟨g, 4, none⟩ (.bool false)).setCell ⟨g, 2, none⟩ (.bool false)).setCell ⟨b3, 0, none⟩ (.int .i64 (wrap64 (f0 + 1)))).setCell ⟨b3, 1, none⟩ (.int .i64 f1)).setCell ⟨b3, 2, none⟩ (.bool false)).setCell ⟨b3, 3, none⟩ (.bool fs)).setCell ⟨b3, 4, none⟩ (.bool false)) := ⟨_, rfl⟩
              rw [← hwE]
              have hE : wE.heap[b3]? = some (.cells #[.int .i64 (wrap64 (f0 + 1)), .int .i64 f1, .bool false, .bool fs, .bool false] 91 (0, 0)) := by rw [hwE]; exact setCell_five (((Fr.setCell (Fr.setCell (Fr.setCell (Fr.refl _ _) (by exact rfl) _) (by exact rfl) _) (by exact rfl) _ : Fr (fun q => q = g) wA (((wA.setCell ⟨g, 0, none⟩ (.int .i64 (wrap64 (f0 + 1)))).setCell ⟨g, 4, none⟩ (.bool false)).setCell ⟨g, 2, none⟩ (.bool false))).block _ (isT_of HX.out.2.1).lt hn3).trans HX.out.2.1)
              have hbE : Below w.heap.size w wE := by rw [hwE]; exact set5b (Below.setCell (p := ⟨g, 2, none⟩) (Below.setCell (p := ⟨g, 4, none⟩) (Below.setCell (p := ⟨g, 0, none⟩) HX.out.2.2.2 HNE.out.2.2 _) HNE.out.2.2 _) HNE.out.2.2 _) HB3.out
              have s0 := block_cell hE 0 _ rfl
              have s1 := block_cell hE 1 _ rfl
              have s2 := block_cell hE 2 _ rfl
              have s3 := block_cell hE 3 _ rfl
              have s4 := block_cell hE 4 _ rfl
              clear hwE hE
              exact bodyPost_ret (v := .agg #[.int .i64 (wrap64 (f0 + 1)), .int .i64 f1, .bool false, .bool fs, .bool false]) (by simp [results, Tryz.results73, go_sem, s0, s1, s2, s3, s4]) rfl ⟨by rw [hlook.out]; rw [decide_eq_false h0]; rfl, hbE⟩
            · go_wp2_with fail
              obtain ⟨wE, hwE⟩ : ∃ q, q = ((((((((wA.setCell ⟨g, 0, none⟩ (.int .i64 (wrap64 (f0 + 1)))).setCell ⟨g, 4, none⟩ (.bool false)).setCell ⟨g, 2, none⟩ (.bool true)).setCell ⟨b3, 0, none⟩ (.int .i64 (wrap64 (f0 + 1)))).setCell ⟨b3, 1, none⟩ (.int .i64 f1)).setCell ⟨b3, 2, none⟩ (.bool true)).setCell ⟨b3, 3, none⟩ (.bool fs)).setCell ⟨b3, 4, none⟩ (.bool false)) := ⟨_, rfl⟩
              rw [← hwE]
              have hE : wE.heap[b3]? = some (.cells #[.int .i64 (wrap64 (f0 + 1)), .int .i64 f1, .bool true, .bool fs, .bool false] 91 (0, 0)) := by rw [hwE]; exact setCell_five (((Fr.setCell (Fr.setCell (Fr.setCell (Fr.refl _ _) (by exact rfl) _) (by exact rfl) _) (by exact rfl) _ : Fr (fun q => q = g) wA (((wA.setCell ⟨g, 0, none⟩ (.int .i64 (wrap64 (f0 + 1)))).setCell ⟨g, 4, none⟩ (.bool false)).setCell ⟨g, 2, none⟩ (.bool true))).block _ (isT_of HX.out.2.1).lt hn3).trans HX.out.2.1)
              have hbE : Below w.heap.size w wE := by rw [hwE]; exact set5b (Below.setCell (p := ⟨g, 2, none⟩) (Below.setCell (p := ⟨g, 4, none⟩) (Below.setCell (p := ⟨g, 0, none⟩) HX.out.2.2.2 HNE.out.2.2 _) HNE.out.2.2 _) HNE.out.2.2 _) HB3.out
              have s0 := block_cell hE 0 _ rfl
              have s1 := block_cell hE 1 _ rfl
              have s2 := block_cell hE 2 _ rfl
              have s3 := block_cell hE 3 _ rfl
              have s4 := block_cell hE 4 _ rfl
              clear hwE hE
              exact bodyPost_ret (v := .agg #[.int .i64 (wrap64 (f0 + 1)), .int .i64 f1, .bool true, .bool fs, .bool false]) (by simp [results, Tryz.results73, go_sem, s0, s1, s2, s3, s4]) rfl ⟨by rw [hlook.out]; rfl, hbE⟩
            · go_wp2_with fail
              obtain ⟨wE, hwE⟩ : ∃ q, q = ((((((((wA.setCell ⟨g, 0, none⟩ (.int .i64 (wrap64 (f0 + 1)))).setCell ⟨g, 4, none⟩ (.bool true)).setCell ⟨g, 2, none⟩ (.bool true)).setCell ⟨b3, 0, none⟩ (.int .i64 (wrap64 (f0 + 1)))).setCell ⟨b3, 1, none⟩ (.int .i64 f1)).setCell ⟨b3, 2, none⟩ (.bool true)).setCell ⟨b3, 3, none⟩ (.bool fs)).setCell ⟨b3, 4, none⟩ (.bool true)) := ⟨_, rfl⟩
              rw [← hwE]
              have hE : wE.heap[b3]? = some (.cells #[.int .i64 (wrap64 (f0 + 1)), .int .i64 f1, .bool true, .bool fs, .bool true] 91 (0, 0)) := by rw [hwE]; exact setCell_five (((Fr.setCell (Fr.setCell (Fr.setCell (Fr.refl _ _) (by exact rfl) _) (by exact rfl) _) (by exact rfl) _ : Fr (fun q => q = g) wA (((wA.setCell ⟨g, 0, none⟩ (.int .i64 (wrap64 (f0 + 1)))).setCell ⟨g, 4, none⟩ (.bool true)).setCell ⟨g, 2, none⟩ (.bool true))).block _ (isT_of HX.out.2.1).lt hn3).trans HX.out.2.1)
              have hbE : Below w.heap.size w wE := by rw [hwE]; exact set5b (Below.setCell (p := ⟨g, 2, none⟩) (Below.setCell (p := ⟨g, 4, none⟩) (Below.setCell (p := ⟨g, 0, none⟩) HX.out.2.2.2 HNE.out.2.2 _) HNE.out.2.2 _) HNE.out.2.2 _) HB3.out
              have s0 := block_cell hE 0 _ rfl
              have s1 := block_cell hE 1 _ rfl
              have s2 := block_cell hE 2 _ rfl
              have s3 := block_cell hE 3 _ rfl
              have s4 := block_cell hE 4 _ rfl
              clear hwE hE
              exact bodyPost_ret (v := .agg #[.int .i64 (wrap64 (f0 + 1)), .int .i64 f1, .bool true, .bool fs, .bool true]) (by simp [results, Tryz.results73, go_sem, s0, s1, s2, s3, s4]) rfl ⟨by rw [hlook.out]; rfl, hbE⟩
            · have h0' : (mn == 0) = false := beq_eq_false_iff_ne.2 h0
              go_wp2_with fail
              obtain ⟨wE, hwE⟩ : ∃ q, q = ((((((((wA.setCell ⟨g, 0, none⟩ (.int .i64 (wrap64 (f0 + 1)))).setCell ⟨g, 4, none⟩ (.bool true)).setCell ⟨g, 2, none⟩ (.bool false)).setCell ⟨b3, 0, none⟩ (.int .i64 (wrap64 (f0 + 1)))).setCell ⟨b3, 1, none⟩ (.int .i64 f1)).setCell ⟨b3, 2, none⟩ (.bool false)).setCell ⟨b3, 3, none⟩ (.bool fs)).setCell ⟨b3, 4, none⟩ (.bool true)) := ⟨_, rfl⟩
              rw [← hwE]
              have hE : wE.heap[b3]? = some (.cells #[.int .i64 (wrap64 (f0 + 1)), .int .i64 f1, .bool false, .bool fs, .bool true] 91 (0, 0)) := by rw [hwE]; exact setCell_five (((Fr.setCell (Fr.setCell (Fr.setCell (Fr.refl _ _) (by exact rfl) _) (by exact rfl) _) (by exact rfl) _ : Fr (fun q => q = g) wA (((wA.setCell ⟨g, 0, none⟩ (.int .i64 (wrap64 (f0 + 1)))).setCell ⟨g, 4, none⟩ (.bool true)).setCell ⟨g, 2, none⟩ (.bool false))).block _ (isT_of HX.out.2.1).lt hn3).trans HX.out.2.1)
              have hbE : Below w.heap.size w wE := by rw [hwE]; exact set5b (Below.setCell (p := ⟨g, 2, none⟩) (Below.setCell (p := ⟨g, 4, none⟩) (Below.setCell (p := ⟨g, 0, none⟩) HX.out.2.2.2 HNE.out.2.2 _) HNE.out.2.2 _) HNE.out.2.2 _) HB3.out
              have s0 := block_cell hE 0 _ rfl
              have s1 := block_cell hE 1 _ rfl
              have s2 := block_cell hE 2 _ rfl
              have s3 := block_cell hE 3 _ rfl
              have s4 := block_cell hE 4 _ rfl
              clear hwE hE
              exact bodyPost_ret (v := .agg #[.int .i64 (wrap64 (f0 + 1)), .int .i64 f1, .bool false, .bool fs, .bool true]) (by simp [results, Tryz.results73, go_sem, s0, s1, s2, s3, s4]) rfl ⟨by rw [hlook.out]; rw [decide_eq_false h0]; rfl, hbE⟩
            · go_wp2_with fail
              obtain ⟨wE, hwE⟩ : ∃ q, q = ((((((((wA.setCell ⟨g, 0, none⟩ (.int .i64 (wrap64 (f0 + 1)))).setCell ⟨g, 4, none⟩ (.bool false)).setCell ⟨g, 2, none⟩ (.bool true)).setCell ⟨b3, 0, none⟩ (.int .i64 (wrap64 (f0 + 1)))).setCell ⟨b3, 1, none⟩ (.int .i64 f1)).setCell ⟨b3, 2, none⟩ (.bool true)).setCell ⟨b3, 3, none⟩ (.bool fs)).setCell ⟨b3, 4, none⟩ (.bool false)) := ⟨_, rfl⟩
              rw [← hwE]
              have hE : wE.heap[b3]? = some (.cells #[.int .i64 (wrap64 (f0 + 1)), .int .i64 f1, .bool true, .bool fs, .bool false] 91 (0, 0)) := by rw [hwE]; exact setCell_five (((Fr.setCell (Fr.setCell (Fr.setCell (Fr.refl _ _) (by exact rfl) _) (by exact rfl) _) (by exact rfl) _ : Fr (fun q => q = g) wA (((wA.setCell ⟨g, 0, none⟩ (.int .i64 (wrap64 (f0 + 1)))).setCell ⟨g, 4, none⟩ (.bool false)).setCell ⟨g, 2, none⟩ (.bool true))).block _ (isT_of HX.out.2.1).lt hn3).trans HX.out.2.1)
              have hbE : Below w.heap.size w wE := by rw [hwE]; exact set5b (Below.setCell (p := ⟨g, 2, none⟩) (Below.setCell (p := ⟨g, 4, none⟩) (Below.setCell (p := ⟨g, 0, none⟩) HX.out.2.2.2 HNE.out.2.2 _) HNE.out.2.2 _) HNE.out.2.2 _) HB3.out
              have s0 := block_cell hE 0 _ rfl
              have s1 := block_cell hE 1 _ rfl
              have s2 := block_cell hE 2 _ rfl
              have s3 := block_cell hE 3 _ rfl
              have s4 := block_cell hE 4 _ rfl
              clear hwE hE
              exact bodyPost_ret (v := .agg #[.int .i64 (wrap64 (f0 + 1)), .int .i64 f1, .bool true, .bool fs, .bool false]) (by simp [results, Tryz.results73, go_sem, s0, s1, s2, s3, s4]) rfl ⟨by rw [hlook.out]; rfl, hbE⟩
            · have h1' : (mx == -1) = false := beq_eq_false_iff_ne.2 h1
              have h2' : decide ((1 : Int) < mx) = true := by simpa using h2
              go_wp2_with fail
              obtain ⟨wE, hwE⟩ : ∃ q, q = ((((((((wA.setCell ⟨g, 0, none⟩ (.int .i64 (wrap64 (f0 + 1)))).setCell ⟨g, 4, none⟩ (.bool false)).setCell ⟨g, 2, none⟩ (.bool true)).setCell ⟨b3, 0, none⟩ (.int .i64 (wrap64 (f0 + 1)))).setCell ⟨b3, 1, none⟩ (.int .i64 f1)).setCell ⟨b3, 2, none⟩ (.bool true)).setCell ⟨b3, 3, none⟩ (.bool fs)).setCell ⟨b3, 4, none⟩ (.bool false)) := ⟨_, rfl⟩
              rw [← hwE]
              have hE : wE.heap[b3]? = some (.cells #[.int .i64 (wrap64 (f0 + 1)), .int .i64 f1, .bool true, .bool fs, .bool false] 91 (0, 0)) := by rw [hwE]; exact setCell_five (((Fr.setCell (Fr.setCell (Fr.setCell (Fr.refl _ _) (by exact rfl) _) (by exact rfl) _) (by exact rfl) _ : Fr (fun q => q = g) wA (((wA.setCell ⟨g, 0, none⟩ (.int .i64 (wrap64 (f0 + 1)))).setCell ⟨g, 4, none⟩ (.bool false)).setCell ⟨g, 2, none⟩ (.bool true))).block _ (isT_of HX.out.2.1).lt hn3).trans HX.out.2.1)
              have hbE : Below w.heap.size w wE := by rw [hwE]; exact set5b (Below.setCell (p := ⟨g, 2, none⟩) (Below.setCell (p := ⟨g, 4, none⟩) (Below.setCell (p := ⟨g, 0, none⟩) HX.out.2.2.2 HNE.out.2.2 _) HNE.out.2.2 _) HNE.out.2.2 _) HB3.out
              have s0 := block_cell hE 0 _ rfl
              have s1 := block_cell hE 1 _ rfl
              have s2 := block_cell hE 2 _ rfl
              have s3 := block_cell hE 3 _ rfl
              have s4 := block_cell hE 4 _ rfl
              clear hwE hE
              exact bodyPost_ret (v := .agg #[.int .i64 (wrap64 (f0 + 1)), .int .i64 f1, .bool true, .bool fs, .bool false]) (by simp [results, Tryz.results73, go_sem, s0, s1, s2, s3, s4]) rfl ⟨by rw [hlook.out]; rw [decide_eq_false h1, decide_eq_true h2]; rfl, hbE⟩
            · have h1' : (mx == -1) = false := beq_eq_false_iff_ne.2 h1
              have h2' : decide ((1 : Int) < mx) = false := by simpa using h2
              go_wp2_with fail
              obtain ⟨wE, hwE⟩ : ∃ q, q = ((((((((wA.setCell ⟨g, 0, none⟩ (.int .i64 (wrap64 (f0 + 1)))).setCell ⟨g, 4, none⟩ (.bool true)).setCell ⟨g, 2, none⟩ (.bool true)).setCell ⟨b3, 0, none⟩ (.int .i64 (wrap64 (f0 + 1)))).setCell ⟨b3, 1, none⟩ (.int .i64 f1)).setCell ⟨b3, 2, none⟩ (.bool true)).setCell ⟨b3, 3, none⟩ (.bool fs)).setCell ⟨b3, 4, none⟩ (.bool true)) := ⟨_, rfl⟩
              rw [← hwE]
              have hE : wE.heap[b3]? = some (.cells #[.int .i64 (wrap64 (f0 + 1)), .int .i64 f1, .bool true, .bool fs, .bool true] 91 (0, 0)) := by rw [hwE]; exact setCell_five (((Fr.setCell (Fr.setCell (Fr.setCell (Fr.refl _ _) (by exact rfl) _) (by exact rfl) _) (by exact rfl) _ : Fr (fun q => q = g) wA (((wA.setCell ⟨g, 0, none⟩ (.int .i64 (wrap64 (f0 + 1)))).setCell ⟨g, 4, none⟩ (.bool true)).setCell ⟨g, 2, none⟩ (.bool true))).block _ (isT_of HX.out.2.1).lt hn3).trans HX.out.2.1)
              have hbE : Below w.heap.size w wE := by rw [hwE]; exact set5b (Below.setCell (p := ⟨g, 2, none⟩) (Below.setCell (p := ⟨g, 4, none⟩) (Below.setCell (p := ⟨g, 0, none⟩) HX.out.2.2.2 HNE.out.2.2 _) HNE.out.2.2 _) HNE.out.2.2 _) HB3.out
              have s0 := block_cell hE 0 _ rfl
              have s1 := block_cell hE 1 _ rfl
              have s2 := block_cell hE 2 _ rfl
              have s3 := block_cell hE 3 _ rfl
              have s4 := block_cell hE 4 _ rfl
              clear hwE hE
              exact bodyPost_ret (v := .agg #[.int .i64 (wrap64 (f0 + 1)), .int .i64 f1, .bool true, .bool fs, .bool true]) (by simp [results, Tryz.results73, go_sem, s0, s1, s2, s3, s4]) rfl ⟨by rw [hlook.out]; rw [decide_eq_false h1, decide_eq_false (show ¬ (1 : Int) < mx by omega)]; rfl, hbE⟩
          · have he : endF k mn mx ⟨f0, f1, fn, fs, ff⟩ = ⟨W (f0 + 1), f1, fn, fs, ff⟩ := by
              simp only [beq_eq_false_iff_ne] at h5 h6
              simp [endF, h5, h6]
            rw [he] at hlook
            clear he
            go_wp2_with fail
            obtain ⟨wE, hwE⟩ : ∃ q, q = ((((((wA.setCell ⟨g, 0, none⟩ (.int .i64 (wrap64 (f0 + 1)))).setCell ⟨b3, 0, none⟩ (.int .i64 (wrap64 (f0 + 1)))).setCell ⟨b3, 1, none⟩ (.int .i64 f1)).setCell ⟨b3, 2, none⟩ (.bool fn)).setCell ⟨b3, 3, none⟩ (.bool fs)).setCell ⟨b3, 4, none⟩ (.bool ff)) := ⟨_, rfl⟩
            rw [← hwE]
            have hE : wE.heap[b3]? = some (.cells #[.int .i64 (wrap64 (f0 + 1)), .int .i64 f1, .bool fn, .bool fs, .bool ff] 91 (0, 0)) := by rw [hwE]; exact setCell_five (((Fr.setCell (Fr.refl _ _) (by exact rfl) _ : Fr (fun q => q = g) wA (wA.setCell ⟨g, 0, none⟩ (.int .i64 (wrap64 (f0 + 1))))).block _ (isT_of HX.out.2.1).lt hn3).trans HX.out.2.1)
            have hbE : Below w.heap.size w wE := by rw [hwE]; exact set5b (Below.setCell (p := ⟨g, 0, none⟩) HX.out.2.2.2 HNE.out.2.2 _) HB3.out
            have s0 := block_cell hE 0 _ rfl
            have s1 := block_cell hE 1 _ rfl
            have s2 := block_cell hE 2 _ rfl
            have s3 := block_cell hE 3 _ rfl
            have s4 := block_cell hE 4 _ rfl
            clear hwE hE
            exact bodyPost_ret (v := .agg #[.int .i64 (wrap64 (f0 + 1)), .int .i64 f1, .bool fn, .bool fs, .bool ff]) (by simp [results, Tryz.results73, go_sem, s0, s1, s2, s3, s4]) rfl ⟨by rw [hlook.out]; rfl, hbE⟩
end Go.Proofs.YtimahlimmblgkaaGreatDoor.Sy
