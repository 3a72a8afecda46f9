/- Chapter 07: what a tree tells of itself: look, Right, Nullable, Groups. -/
import Derived.Test.YtimahlimmblgkaaGreatDoorPTqB
import Derived.Laws.EntriesVeiled
namespace Go.Proofs.YtimahlimmblgkaaGreatDoor.Sy
open Go Go.RowKit
theorem val_mk (k : Int) (sa : Option Addr) (sc : Nat) (s : Rs.S) (mn mx : Int) (lz : Bool) (na : Option Addr) (nc : Nat) (l : List L) :
    (L.mk k sa sc s mn mx lz na nc l).val = .agg #[.int .u8 k, .slice sa s.length sc, .int .i64 mn, .int .i64 mx, .bool lz, .slice na l.length nc] := rfl
set_option maxRecDepth 100000 in
set_option maxHeartbeats 2000000 in
theorem look_calls {P : Nat → Prop} (x : L) (w : World) (h : RdT P w x) : Calls Tryz.prog 43 #[x.val] w fun e w' => e = .returned (fV (look x.tree)) ∧ Below w.heap.size w w' := by
  have hv := @visit_calls P w x h
  obtain ⟨f, hf⟩ : ∃ q, q = look x.tree := ⟨_, rfl⟩
  rw [← hf] at hv ⊢
  have HV := Lib.hid hv
  clear hv hf h
  obtain ⟨k, sa, sc, s, mn, mx, lz, na, nc, l⟩ := x
  rw [val_mk] at HV ⊢
  obtain ⟨f0, f1, fn, fs, ff⟩ := f
  have hmf : ∀ (fn : Fn) (first cap : Array Value) (w : World), (Instr.makeFunc fn first cap).run Tryz.prog w = .ok (.func fn first cap) w := fun _ _ _ _ => rfl
  go_enter Tryz.func43, Tryz.ntmps43
  go_wp2_with fail
  refine at_world ?_
  intro W hW
  have hbW : Below w.heap.size w W := by rw [hW]; exact (((Below.refl _ _).alloc (Nat.le_refl _) _).alloc (by simp) _).alloc (by simp; omega) _
  have g2 : W.heap[w.heap.size + 1]? = some (.cells #[.int .i64 0, .int .i64 0, .bool false, .bool false, .bool false] 91 (0, 0)) := by
    rw [hW, Below.heap_alloc _ _ _ (by simp)]
    have := heap_alloc_new (w.alloc (.cells #[.int .u8 k, .slice sa s.length sc, .int .i64 mn, .int .i64 mx, .bool lz, .slice na l.length nc] 27)) (.cells #[.int .i64 0, .int .i64 0, .bool false, .bool false, .bool false] 91)
    simpa using this
  have g3 : W.cell? ⟨w.heap.size + 1 + 1, 0, none⟩ = some (.func (.func 73) #[] #[.pointer (some ⟨w.heap.size + 1 + 1, 0, none⟩)]) := by
    rw [hW]
    refine block_cell (cs := #[.func (.func 73) #[] #[.pointer (some ⟨w.heap.size + 1 + 1, 0, none⟩)]]) (t := 92) (fz := (0, 0)) ?_ 0 _ rfl
    have := heap_alloc_new ((w.alloc (.cells #[.int .u8 k, .slice sa s.length sc, .int .i64 mn, .int .i64 mx, .bool lz, .slice na l.length nc] 27)).alloc (.cells #[.int .i64 0, .int .i64 0, .bool false, .bool false, .bool false] 91)) (.cells #[.func (.func 73) #[] #[.pointer (some ⟨w.heap.size + 1 + 1, 0, none⟩)]] 92)
    simpa using this
  clear hW
  have hcall := HV.out _ W hbW g3
  clear g3
  refine Calls.mono (show Calls Tryz.prog 73 #[.agg #[.int .u8 k, .slice sa s.length sc, .int .i64 mn, .int .i64 mx, .bool lz, .slice na l.length nc], .pointer (some ⟨w.heap.size + 1 + 1, 0, none⟩)] W _ from hcall) ?_
  clear hcall
  rintro e w5 ⟨rfl, hb5⟩
  unfold fV
  have g5 := (hb5.block _ (isT_of g2).lt).trans g2
  have z0 := block_cell g5 0 _ rfl
  have z1 := block_cell g5 1 _ rfl
  have z2 := block_cell g5 2 _ rfl
  have z3 := block_cell g5 3 _ rfl
  have z4 := block_cell g5 4 _ rfl
  have y0 := block_froz g5 0
  have y1 := block_froz g5 1
  have y2 := block_froz g5 2
  have y3 := block_froz g5 3
  have y4 := block_froz g5 4
  have HB := Lib.hid (And.intro g5 (Bthen hbW hb5))
  clear g2 g5 hbW hb5
  go_wp2_with fail
  obtain ⟨wE, hwE⟩ : ∃ q, q = (((((w5.setCell ⟨w.heap.size + 1, 0, none⟩ (.int .i64 f0)).setCell ⟨w.heap.size + 1, 1, none⟩ (.int .i64 f1)).setCell ⟨w.heap.size + 1, 2, none⟩ (.bool fn)).setCell ⟨w.heap.size + 1, 3, none⟩ (.bool fs)).setCell ⟨w.heap.size + 1, 4, none⟩ (.bool ff)) := ⟨_, rfl⟩
  rw [← hwE]
  have hE : wE.heap[w.heap.size + 1]? = some (.cells #[.int .i64 f0, .int .i64 f1, .bool fn, .bool fs, .bool ff] 91 (0, 0)) := by rw [hwE]; exact setCell_five HB.out.1
  have hbE : Below w.heap.size w wE := by rw [hwE]; exact set5b HB.out.2 (by omega)
  have s0 := block_cell hE 0 _ rfl
  have s1 := block_cell hE 1 _ rfl
  have s2 := block_cell hE 2 _ rfl
  have s3 := block_cell hE 3 _ rfl
  have s4 := block_cell hE 4 _ rfl
  clear hwE hE
  exact bodyPost_ret (v := .agg #[.int .i64 f0, .int .i64 f1, .bool fn, .bool fs, .bool ff]) (by simp [results, Tryz.results43, go_sem, s0, s1, s2, s3, s4]) rfl ⟨rfl, hbE⟩
set_option maxRecDepth 100000 in
set_option maxHeartbeats 2000000 in
theorem fright_calls (f : F) (w : World) : Calls Tryz.prog 44 #[fV f] w fun e w' => e = .returned (.bool (rightF f)) ∧ Below w.heap.size w w' := by
  obtain ⟨f0, f1, fn, fs, ff⟩ := f
  unfold fV rightF
  dsimp only
  have hB : Below w.heap.size w (w.alloc (.cells #[.int .i64 f0, .int .i64 f1, .bool fn, .bool fs, .bool ff] 91)) := (Below.refl _ _).alloc (Nat.le_refl _) _
  have HB := Lib.hid hB
  clear hB
  rcases (show fs = false ∨ (fs = true ∧ ff = false) ∨ (fs = true ∧ ff = true ∧ 30 < f1) ∨ (fs = true ∧ ff = true ∧ f1 ≤ 30 ∧ 40 < f0) ∨ (fs = true ∧ ff = true ∧ f1 ≤ 30 ∧ f0 ≤ 40) by
    cases fs <;> cases ff <;> simp <;> omega) with rfl | ⟨rfl, rfl⟩ | ⟨rfl, rfl, h1⟩ | ⟨rfl, rfl, h1, h2⟩ | ⟨rfl, rfl, h1, h2⟩
  · go_enter Tryz.func44, Tryz.ntmps44
    go_wp2
    go_ret
    exact ⟨rfl, HB.out⟩
  · go_enter Tryz.func44, Tryz.ntmps44
    go_wp2
    go_ret
    exact ⟨rfl, HB.out⟩
  · have d1 : decide (f1 ≤ (30 : Int)) = false := by simp; omega
    go_enter Tryz.func44, Tryz.ntmps44
    go_wp2
    go_ret
    exact ⟨by rw [d1]; rfl, HB.out⟩
  · have d1 : decide (f1 ≤ (30 : Int)) = true := by simp; omega
    have d2 : decide (f0 ≤ (40 : Int)) = false := by simp; omega
    go_enter Tryz.func44, Tryz.ntmps44
    go_wp2
    go_ret
    exact ⟨by rw [d1, d2]; rfl, HB.out⟩
  · have d1 : decide (f1 ≤ (30 : Int)) = true := by simp; omega
    have d2 : decide (f0 ≤ (40 : Int)) = true := by simp; omega
    go_enter Tryz.func44, Tryz.ntmps44
    go_wp2
    go_ret
    exact ⟨by rw [d1, d2]; rfl, HB.out⟩
set_option maxRecDepth 100000 in
set_option maxHeartbeats 2000000 in
theorem right_tree {P : Nat → Prop} (x : L) (w : World) (h : RdT P w x) : Calls Tryz.prog 45 #[x.val] w fun e w' => e = .returned (.bool (right x.tree)) ∧ Below w.heap.size w w' := by
  have HL : Hid (∀ W, Below w.heap.size w W → Calls Tryz.prog 43 #[x.val] W fun e w' => e = .returned (fV (look x.tree)) ∧ Below W.heap.size W w') := Lib.hid (fun W hb => look_calls x W (h.bel hb))
  obtain ⟨f, hf⟩ : ∃ q, q = look x.tree := ⟨_, rfl⟩
  rw [← hf] at HL
  have HF := Lib.hid (show right x.tree = rightF f by rw [hf]; rfl)
  clear hf h
  obtain ⟨k, sa, sc, s, mn, mx, lz, na, nc, l⟩ := x
  rw [val_mk] at HL ⊢
  go_enter Tryz.func45, Tryz.ntmps45
  go_wp2_with fail
  refine at_world ?_
  intro W hW
  have hbW : Below w.heap.size w W := by rw [hW]; exact (Below.refl _ _).alloc (Nat.le_refl _) _
  clear hW
  refine (HL.out W hbW).mono ?_
  rintro e w5 ⟨rfl, hb5⟩
  have H5 := Lib.hid (Bthen hbW hb5)
  clear hb5 hbW
  go_wp2_with fail
  refine (fright_calls f w5).mono ?_
  rintro e w6 ⟨rfl, hb6⟩
  have H6 := Lib.hid (Bthen H5.out hb6)
  clear hb6
  go_wp2_with fail
  go_ret
  exact ⟨by rw [HF.out]; rfl, H6.out⟩
/-- what the two functions of a tree that is right tell -/
def NulPost (f : F) (w : World) (e : Ending) (w' : World) : Prop := e = .returned (.tuple #[.bool (if rightF f then f.nul else false), .int .i64 (if rightF f then 0 else 73)]) ∧ Below w.heap.size w w'
def GrpPost (f : F) (w : World) (e : Ending) (w' : World) : Prop := e = .returned (.tuple #[.int .i64 (if rightF f then f.groups else 0), .int .i64 (if rightF f then 0 else 73)]) ∧ Below w.heap.size w w'
set_option maxRecDepth 100000 in
set_option maxHeartbeats 2000000 in
theorem nullable_tree {P : Nat → Prop} (x : L) (w : World) (h : RdT P w x) : Calls Tryz.prog 13 #[x.val] w (NulPost (look x.tree) w) := by
  have HL : Hid (∀ W, Below w.heap.size w W → Calls Tryz.prog 43 #[x.val] W fun e w' => e = .returned (fV (look x.tree)) ∧ Below W.heap.size W w') := Lib.hid (fun W hb => look_calls x W (h.bel hb))
  obtain ⟨f, hf⟩ : ∃ q, q = look x.tree := ⟨_, rfl⟩
  rw [← hf] at HL ⊢
  clear hf h
  obtain ⟨k, sa, sc, s, mn, mx, lz, na, nc, l⟩ := x
  rw [val_mk] at HL ⊢
  go_enter Tryz.func13, Tryz.ntmps13
  go_wp2_with fail
  refine at_world ?_
  intro W hW
  have hbW : Below w.heap.size w W := by rw [hW]; exact (Below.refl _ _).alloc (Nat.le_refl _) _
  clear hW
  refine (HL.out W hbW).mono ?_
  rintro e w5 ⟨rfl, hb5⟩
  have H5 := Lib.hid (Bthen hbW hb5)
  clear hb5 hbW
  obtain ⟨f0, f1, fn, fs, ff⟩ := f
  unfold fV
  go_wp2_with fail
  refine at_world ?_
  intro W6 hW6
  have hcall := fright_calls ⟨f0, f1, fn, fs, ff⟩ W6
  have hcell : W6.cell? ⟨w5.heap.size, 2, none⟩ = some (.bool fn) := by rw [hW6]; exact block_cell (heap_alloc_new w5 _) 2 _ rfl
  have H6 := Lib.hid (show Below w.heap.size w W6 by rw [hW6]; exact H5.out.alloc H5.out.size _)
  have hlt := cell_lt hcell
  clear hW6
  cases hr : rightF ⟨f0, f1, fn, fs, ff⟩
  · rw [hr] at hcall
    have HR := Lib.hid hr
    clear hr
    refine Calls.mono (show Calls Tryz.prog 44 #[.agg #[.int .i64 f0, .int .i64 f1, .bool fn, .bool fs, .bool ff]] W6 _ from hcall) ?_
    clear hcall
    rintro e w7 ⟨rfl, hb7⟩
    have H7 := Lib.hid (Bthen H6.out hb7)
    clear hb7
    go_wp2_with fail
    go_ret2
    exact ⟨by rw [HR.out]; rfl, H7.out⟩
  · rw [hr] at hcall
    have HR := Lib.hid hr
    clear hr
    refine Calls.mono (show Calls Tryz.prog 44 #[.agg #[.int .i64 f0, .int .i64 f1, .bool fn, .bool fs, .bool ff]] W6 _ from hcall) ?_
    clear hcall
    rintro e w7 ⟨rfl, hb7⟩
    have h7 := (hb7.cell (p := ⟨w5.heap.size, 2, none⟩) hlt).trans hcell
    have H7 := Lib.hid (Bthen H6.out hb7)
    clear hb7
    go_wp2_with fail
    go_ret2
    exact ⟨by rw [HR.out]; rfl, H7.out⟩
set_option maxRecDepth 100000 in
set_option maxHeartbeats 2000000 in
theorem groups_tree {P : Nat → Prop} (x : L) (w : World) (h : RdT P w x) : Calls Tryz.prog 15 #[x.val] w (GrpPost (look x.tree) w) := by
  have HL : Hid (∀ W, Below w.heap.size w W → Calls Tryz.prog 43 #[x.val] W fun e w' => e = .returned (fV (look x.tree)) ∧ Below W.heap.size W w') := Lib.hid (fun W hb => look_calls x W (h.bel hb))
  obtain ⟨f, hf⟩ : ∃ q, q = look x.tree := ⟨_, rfl⟩
  rw [← hf] at HL ⊢
  clear hf h
  obtain ⟨k, sa, sc, s, mn, mx, lz, na, nc, l⟩ := x
  rw [val_mk] at HL ⊢
  go_enter Tryz.func15, Tryz.ntmps15
  go_wp2_with fail
  refine at_world ?_
  intro W hW
  have hbW : Below w.heap.size w W := by rw [hW]; exact (Below.refl _ _).alloc (Nat.le_refl _) _
  clear hW
  refine (HL.out W hbW).mono ?_
  rintro e w5 ⟨rfl, hb5⟩
  have H5 := Lib.hid (Bthen hbW hb5)
  clear hb5 hbW
  obtain ⟨f0, f1, fn, fs, ff⟩ := f
  unfold fV
  go_wp2_with fail
  refine at_world ?_
  intro W6 hW6
  have hcall := fright_calls ⟨f0, f1, fn, fs, ff⟩ W6
  have hcell : W6.cell? ⟨w5.heap.size, 1, none⟩ = some (.int .i64 f1) := by rw [hW6]; exact block_cell (heap_alloc_new w5 _) 1 _ rfl
  have H6 := Lib.hid (show Below w.heap.size w W6 by rw [hW6]; exact H5.out.alloc H5.out.size _)
  have hlt := cell_lt hcell
  clear hW6
  cases hr : rightF ⟨f0, f1, fn, fs, ff⟩
  · rw [hr] at hcall
    have HR := Lib.hid hr
    clear hr
    refine Calls.mono (show Calls Tryz.prog 44 #[.agg #[.int .i64 f0, .int .i64 f1, .bool fn, .bool fs, .bool ff]] W6 _ from hcall) ?_
    clear hcall
    rintro e w7 ⟨rfl, hb7⟩
    have H7 := Lib.hid (Bthen H6.out hb7)
    clear hb7
    go_wp2_with fail
    go_ret2
    exact ⟨by rw [HR.out]; rfl, H7.out⟩
  · rw [hr] at hcall
    have HR := Lib.hid hr
    clear hr
    refine Calls.mono (show Calls Tryz.prog 44 #[.agg #[.int .i64 f0, .int .i64 f1, .bool fn, .bool fs, .bool ff]] W6 _ from hcall) ?_
    clear hcall
    rintro e w7 ⟨rfl, hb7⟩
    have h7 := (hb7.cell (p := ⟨w5.heap.size, 1, none⟩) hlt).trans hcell
    have H7 := Lib.hid (Bthen H6.out hb7)
    clear hb7
    go_wp2_with fail
    go_ret2
    exact ⟨by rw [HR.out]; rfl, H7.out⟩
end Go.Proofs.YtimahlimmblgkaaGreatDoor.Sy
