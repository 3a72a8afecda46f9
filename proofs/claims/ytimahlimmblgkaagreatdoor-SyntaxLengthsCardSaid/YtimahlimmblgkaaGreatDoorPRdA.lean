/- Texts of the claim, put together: RdA. -/
import Derived.Test.YtimahlimmblgkaaGreatDoorPBkQ
import Derived.Test.YtimahlimmblgkaaGreatDoorPBaC
import Derived.Test.YtimahlimmblgkaaGreatDoorPPuA
import Derived.Lib.OthersKept
import Derived.Laws.Runes
import Derived.Test.YtimahlimmblgkaaGreatDoorPEsA
import Derived.Lib.QuoteLoop
import Derived.Laws.OwnMore
import Derived.Deep.RegionHeld3
namespace Go.Proofs.YtimahlimmblgkaaGreatDoor
open Go.RowKit
set_option maxRecDepth 100000 in
set_option maxHeartbeats 2000000 in
theorem idx_bad (w : World) :
    Calls Tryz.prog 135 #[.string ⟨#[91, 93, 45]⟩, .int .i32 65533] w fun e w' => e = .returned (.int .i64 (-1)) ∧ Below w.heap.size w w' := by
  have n0 : (Instr.next (.pointer (some ⟨w.heap.size, 0, none⟩)) true 0).run Tryz.prog (w.iter ⟨#[91, 93, 45]⟩ 0) = _ := run_next_ascii w ⟨#[91, 93, 45]⟩ 0 0 (by decide) (by decide)
  have n1 : (Instr.next (.pointer (some ⟨w.heap.size, 0, none⟩)) true 0).run Tryz.prog (w.iter ⟨#[91, 93, 45]⟩ 1) = _ := run_next_ascii w ⟨#[91, 93, 45]⟩ 1 0 (by decide) (by decide)
  have n2 : (Instr.next (.pointer (some ⟨w.heap.size, 0, none⟩)) true 0).run Tryz.prog (w.iter ⟨#[91, 93, 45]⟩ 2) = _ := run_next_ascii w ⟨#[91, 93, 45]⟩ 2 0 (by decide) (by decide)
  have n3 : (Instr.next (.pointer (some ⟨w.heap.size, 0, none⟩)) true 0).run Tryz.prog (w.iter ⟨#[91, 93, 45]⟩ 3) = _ := run_next_end w ⟨#[91, 93, 45]⟩ 3 0 (by decide)
  simp only [Nat.zero_add, Nat.reduceAdd] at n0 n1 n2 n3
  have v0 : ((({ data := #[91, 93, 45] } : ByteArray)[0]'(by decide)).toNat : Int) = 91 := by decide
  have v1 : ((({ data := #[91, 93, 45] } : ByteArray)[1]'(by decide)).toNat : Int) = 93 := by decide
  have v2 : ((({ data := #[91, 93, 45] } : ByteArray)[2]'(by decide)).toNat : Int) = 45 := by decide
  rw [v0] at n0
  rw [v1] at n1
  rw [v2] at n2
  clear v0 v1 v2
  go_enter Tryz.func135, Tryz.ntmps135
  go_wp2
  refine wp_loop_rounds 4 ?_
  rw [rounds_succ]
  go_wp2
  rw [rounds_succ]
  go_wp2
  rw [rounds_succ]
  go_wp2
  rw [rounds_succ]
  go_wp2
  go_ret
  exact ⟨rfl, (Below.refl _ _).alloc (Nat.le_refl _) _⟩
theorem idxb_high (l : List UInt8) (hl : ∀ b ∈ l, b.toNat < 128) (c : UInt8) (hc : 128 ≤ c.toNat) : Lib.indexByte l c = -1 := by
  induction l with
  | nil => rfl
  | cons b l ih =>
    unfold Lib.indexByte
    have hb := hl b (by simp)
    rw [if_neg (by simp; rintro rfl; omega), ih (fun x hx => hl x (by simp [hx]))]
    rfl
set_option maxRecDepth 100000 in
set_option maxHeartbeats 2000000 in
theorem idx_high (c : Int) (hv : Utf8.valid c = true) (hc : 128 ≤ c) (hne : c ≠ 65533) (w : World) :
    Calls Tryz.prog 135 #[.string ⟨#[91, 93, 45]⟩, .int .i32 c] w fun e w' => e = .returned (.int .i64 (-1)) ∧ Below w.heap.size w w' := by
  obtain ⟨h2, h4, hlast⟩ := encode_facts c hv hc
  have hvr := fun W => Tryz.utf8_ValidRune c W
  have hne' : (c == 65533) = false := by simpa using hne
  generalize hE : Utf8.encode c = E at h2 h4 hlast
  have hvt : Lib.validRune c = true := by
    unfold Lib.validRune
    unfold Utf8.valid at hv
    simp at hv ⊢
    omega
  rw [hvt] at hvr
  obtain ⟨z, hz⟩ : ∃ z, E[E.size - 1]'(by omega) = z := ⟨_, rfl⟩
  have hl : 128 ≤ z.toNat := by rw [← hz]; exact hlast (by omega)
  have hib : ∀ (X : ByteArray) (W : World), (∀ b ∈ X.data.toList, b.toNat < 128) → Calls Tryz.prog 66 #[.string X, .int .u8 (z.toNat : Int)] W fun e w' => e = .returned (.int .i64 (-1)) ∧ W = w' := fun X W hX => by
    refine (Tryz.strings_IndexByte X (z.toNat : Int) W).mono fun e w' h => ⟨?_, h.2.symm⟩
    rw [h.1, Int.toNat_natCast, show z.toNat.toUInt8 = z by simp, idxb_high _ hX z hl]
  have hz93 : (((({ data := #[91, 93, 45] } : ByteArray)[1]'(by decide)).toNat : Int) != (z.toNat : Int)) = true := by
    rw [show ((({ data := #[91, 93, 45] } : ByteArray)[1]'(by decide)).toNat : Int) = 93 by decide]; simp; omega
  have hz45 : (((({ data := #[91, 93, 45] } : ByteArray)[2]'(by decide)).toNat : Int) != (z.toNat : Int)) = true := by
    rw [show ((({ data := #[91, 93, 45] } : ByteArray)[2]'(by decide)).toNat : Int) = 45 by decide]; simp; omega
  clear hlast hvt hv hne
  rcases (show E.size = 2 ∨ E.size = 3 ∨ E.size = 4 by omega) with hs | hs | hs
  · have hz' : E[1]'(by omega) = z := by rw [← hz]; congr 1; omega
    clear hz h2 h4
    go_enter Tryz.func135, Tryz.ntmps135
    go_wp2_with (go_at_call 166; refine (hvr _).mono ?_; clear hvr; rintro e w' ⟨rfl, rfl⟩)
    go_step3
    go_wp2
    refine wp_loop_rounds 1 ?_
    rw [rounds_succ]
    go_wp2
    go_step3
    go_wp2_with fail
    go_big_quiet (fail)
    go_wp2_with fail
    go_big_quiet ((go_at_call 66; exact (hib _ _ (by decide)).mono fun _ _ h => ⟨h.1, _, h.2.symm⟩))
    go_wp2
    rw [Exit.noGoto_ret]
    simp only [Exit.inBlock, Exit.then, Exit.noGoto_ret]
    go_ret
    exact ⟨rfl, below_drewN (Below.refl _ _) _⟩
  · have hz' : E[2]'(by omega) = z := by rw [← hz]; congr 1; omega
    clear hz h2 h4
    go_enter Tryz.func135, Tryz.ntmps135
    go_wp2_with (go_at_call 166; refine (hvr _).mono ?_; clear hvr; rintro e w' ⟨rfl, rfl⟩)
    go_step3
    go_wp2
    refine wp_loop_rounds 1 ?_
    rw [rounds_succ]
    go_wp2
    go_step3
    go_wp2_with fail
    go_big_quiet (fail)
    go_wp2_with fail
    go_big_quiet ((go_at_call 66; exact (hib _ _ (by decide)).mono fun _ _ h => ⟨h.1, _, h.2.symm⟩))
    go_wp2
    rw [Exit.noGoto_ret]
    simp only [Exit.inBlock, Exit.then, Exit.noGoto_ret]
    go_ret
    exact ⟨rfl, below_drewN (Below.refl _ _) _⟩
  · have hz' : E[3]'(by omega) = z := by rw [← hz]; congr 1; omega
    clear hz h2 h4
    go_enter Tryz.func135, Tryz.ntmps135
    go_wp2_with (go_at_call 166; refine (hvr _).mono ?_; clear hvr; rintro e w' ⟨rfl, rfl⟩)
    go_step3
    go_wp2
    refine wp_loop_rounds 1 ?_
    rw [rounds_succ]
    go_wp2
    repeat rw [Exit.noGoto_ret]
    go_ret
    exact ⟨rfl, Below.refl _ _⟩
end Go.Proofs.YtimahlimmblgkaaGreatDoor
namespace Go.Proofs.YtimahlimmblgkaaGreatDoor
end Go.Proofs.YtimahlimmblgkaaGreatDoor
namespace Go.Proofs.YtimahlimmblgkaaGreatDoor
open Go.RowKit Go.Shelf
/-- block R is a reader of s that stands at k -/
def Rb (w : World) (R : Nat) (s : ByteArray) (k : Nat) : Prop := w.heap[R]? = some (.cells #[.string s, .int .i64 (k : Int)] 239 (0, 0))
theorem Rb.lt {w : World} {R : Nat} {s : ByteArray} {k : Nat} (h : Rb w R s k) : R < w.heap.size := (Array.getElem?_eq_some_iff.1 h).1
theorem Rb.c0 {w : World} {R : Nat} {s : ByteArray} {k : Nat} (h : Rb w R s k) : w.cell? ⟨R, 0, none⟩ = some (.string s) := (cell_of_row w R 0 _ _ _ h).trans rfl
theorem Rb.c1 {w : World} {R : Nat} {s : ByteArray} {k : Nat} (h : Rb w R s k) : w.cell? ⟨R, 1, none⟩ = some (.int .i64 (k : Int)) := (cell_of_row w R 1 _ _ _ h).trans rfl
theorem Rb.f1 {w : World} {R : Nat} {s : ByteArray} {k : Nat} (h : Rb w R s k) : w.frozen? ⟨R, 1, none⟩ = false := by unfold Rb at h; simp [World.frozen?, h]
theorem Rb.below {w w1 : World} {R : Nat} {s : ByteArray} {k : Nat} (h : Rb w R s k) (hb : Below w.heap.size w w1) : Rb w1 R s k := (hb.block R h.lt).trans h
theorem Rb.drewN {w : World} {R : Nat} {s : ByteArray} {k : Nat} (h : Rb w R s k) (n : Nat) : Rb (w.drewN n) R s k := h
theorem Rb.set {w : World} {R : Nat} {s : ByteArray} {k : Nat} (h : Rb w R s k) (m : Nat) : Rb (w.setCell ⟨R, 1, none⟩ (.int .i64 (m : Int))) R s m := (heap_setCell_same w R 1 _ _ _ h).trans rfl
/-- only block R, and what is new, has turned -/
abbrev Onl (R : Nat) (a w : World) : Prop := a.grownBy w (some R)
theorem Onl.refl (R : Nat) (w : World) : Onl R w w := ⟨rfl, rfl, rfl, Nat.le_refl _, fun _ _ _ => rfl⟩
theorem Onl.trans {R : Nat} {a b c : World} (h : Onl R a b) (k : Onl R b c) : Onl R a c :=
  ⟨k.os.trans h.os, k.tape.trans h.tape, k.output.trans h.output, Nat.le_trans h.size k.size, fun i hi hn => (k.block i (Nat.lt_of_lt_of_le hi h.size) hn).trans (h.block i hi hn)⟩
theorem Onl.drewN {R : Nat} {a w : World} (h : Onl R a w) (n : Nat) : Onl R a (w.drewN n) := ⟨h.os, h.tape, h.output, h.size, h.block⟩
theorem Onl.drew {R : Nat} {a w : World} (h : Onl R a w) : Onl R a w.drew := ⟨h.os, h.tape, h.output, h.size, h.block⟩
theorem Onl.of {R : Nat} {a w : World} (h : Below a.heap.size a w) : Onl R a w := ⟨h.os, h.tape, h.output, h.size, fun i hi _ => h.block i hi⟩
theorem Onl.set {R : Nat} {a w : World} (h : Onl R a w) (p : Addr) (hp : p.block = R) (u : Value) : Onl R a (w.setCell p u) :=
  ⟨h.os, h.tape, h.output, by simpa [World.setCell] using h.size, fun i hi hne => (Below.heap_setCell w p u i (by rintro rfl; exact hne (by rw [hp]))).trans (h.block i hi hne)⟩
theorem Onl.lv {R : Nat} {a w : World} (h : Onl R a w) (hR : max (max 9 5) 6 < R) (hL : Lv a) : Lv w := by
  have hs := hL.sz
  have hb : Below (max (max 9 5) 6 + 1) a w := ⟨h.os, h.tape, h.output, h.size, fun i hi => h.block i (by omega) (by simp; omega)⟩
  refine ⟨by have := hb.size; omega, ?_, ?_, ?_, ?_⟩
  · obtain ⟨te, pe, e⟩ := hL.syn
    exact ⟨te, pe, (hb.cell (p := ⟨5, 0, none⟩) (by simp only; omega)).trans e⟩
  · obtain ⟨te, pe, e⟩ := hL.rng
    exact ⟨te, pe, (hb.cell (p := ⟨6, 0, none⟩) (by simp only; omega)).trans e⟩
  · exact ⟨fun c hc => (hb.cell (p := ⟨1, c, none⟩) (by simp only; omega)).trans (hL.tab.1 c hc), fun i hi => ⟨(hb.cell (p := ⟨2, 2 * i, none⟩) (by simp only; omega)).trans (hL.tab.2 i hi).1, (hb.cell (p := ⟨2, 2 * i + 1, none⟩) (by simp only; omega)).trans (hL.tab.2 i hi).2⟩⟩
  · exact (hb.cell (p := ⟨9, 15, none⟩) (by simp only; omega)).trans hL.bru
theorem ext_list (s : ByteArray) (k : Nat) : (s.extract k s.size).data.toList = s.data.toList.drop k := by
  rw [Lib.extract_data, List.take_of_length_le]
  rw [List.length_drop, ← Lib.size_eq]; omega
set_option maxRecDepth 100000 in
set_option maxHeartbeats 1000000 in
theorem is_calls (R : Nat) (s p : ByteArray) (k : Nat) (w : World) (h : Rb w R s k) (hk : k ≤ s.size) (_hs : s.size ≤ 1000000000000) :
    Calls Tryz.prog 167 #[.pointer (some ⟨R, 0, none⟩), .string p] w fun e w' => e = .returned (.bool (Lib.hasPrefix (s.data.toList.drop k) p.data.toList)) ∧ ∃ n, w' = w.drewN n := by
  have c0 := h.c0
  have c1 := h.c1
  have hp := fun W => Tryz.strings_HasPrefix (s.extract k s.size) p W
  rw [ext_list] at hp
  go_enter Tryz.func167, Tryz.ntmps167
  go_wp2_with fail
  go_big_quiet ((go_at_call 67; exact Calls.quiet_of_same (hp _)))
  go_wp2
  go_ret
  exact ⟨rfl, _, rfl⟩
end Go.Proofs.YtimahlimmblgkaaGreatDoor
namespace Go.Proofs.YtimahlimmblgkaaGreatDoor
open Go.RowKit Go.Shelf
/-- what point leaves: the reader behind the point, or no point -/
def PtPost (R : Nat) (s : ByteArray) (k : Nat) (w : World) (e : Ending) (w' : World) : Prop :=
  ∃ (v : Int) (b : Bool) (k' : Nat), e = .returned (.tuple #[.int .i64 v, .bool b]) ∧ Rb w' R s k' ∧ k' ≤ s.size ∧ Onl R w w' ∧
    (match Rs.partS (s.data.toList.drop k) with | some (a, n) => b = true ∧ v = a ∧ k' = k + n | none => b = false)
set_option maxRecDepth 100000 in
set_option maxHeartbeats 2000000 in
theorem point_esc (R : Nat) (s : ByteArray) (k : Nat) (w : World) (h : Rb w R s k) (hk : k ≤ s.size) (hs : s.size ≤ 1000000000000) (_hR : max (max 9 5) 6 < R) (hL : Lv w) (h92 : Rs.bt (s.data.toList.drop k) 0 = 92) :
    Calls Tryz.prog 186 #[.pointer (some ⟨R, 0, none⟩)] w (PtPost R s k w) := by
  have his := fun W hW => is_calls R s ⟨#[92]⟩ k W hW hk hs
  rw [show (⟨#[92]⟩ : ByteArray).data.toList = [92] from rfl, Rs.hp1 _ 92 (by decide), h92] at his
  have hesc := fun W hW => escape_calls (s.extract k s.size) W hW (by rw [ByteArray.size_extract]; omega)
  rw [ext_list] at hesc
  have hpart : Rs.partS (s.data.toList.drop k) = Rs.escS (s.data.toList.drop k) := by
    unfold Rs.partS
    rw [if_neg (fun e => by rw [Rs.bt_ge (by omega)] at h92; omega), if_pos h92]
  have hok : ∀ c n, Rs.escS (s.data.toList.drop k) = some (c, n) → k + n ≤ s.size := fun c n e => by
    have := (Rs.escS_ok e).2.2
    rw [List.length_drop, Lib.size_eq] at *
    omega
  generalize ht : s.data.toList.drop k = t at *
  have HP := Lib.hid (show _ ∧ _ from ⟨ht, hpart⟩)
  clear ht
  obtain ⟨ec, en, ee, hev, hen, hres⟩ : ∃ (ec : Int) (en : Nat) (ee : Int), (Rs.escC t = ec ∧ Rs.escN t = en ∧ Rs.escE t = ee) ∧ k + en ≤ s.size ∧ (match Rs.escS t with | some (a, n) => ee = 0 ∧ ec = a ∧ en = n | none => ee = 61) := by
    cases hE : Rs.escS t with
    | none => obtain ⟨e1, e2, e3⟩ := esc_none hE; exact ⟨_, _, _, ⟨e1, e2, e3⟩, by omega, rfl⟩
    | some r => obtain ⟨c, n⟩ := r; obtain ⟨e1, e2, e3⟩ := esc_some hE; exact ⟨_, _, _, ⟨e1, e2, e3⟩, hok c n hE, rfl, rfl, rfl⟩
  have hee : ee = 0 ∨ ee = 61 := by
    revert hres
    cases Rs.escS t with
    | none => intro h; exact .inr h
    | some r => intro h; exact .inl h.1
  unfold EscPost at hesc
  rw [hev.1, hev.2.1, hev.2.2] at hesc
  have HE := Lib.hid hres
  clear hev hres hok
  have HH := Lib.hid (show _ ∧ _ from ⟨h, hL⟩)
  clear h hL hpart h92
  go_enter Tryz.func186, Tryz.ntmps186
  go_wp2_with fail
  refine (his w HH.out.1).mono ?_
  rintro e w1 ⟨rfl, q, rfl⟩
  have hB1 : Below w.heap.size w (w.drewN q) := below_drewN (Below.refl _ _) q
  have c0 := (HH.out.1.drewN q).c0
  have c1 := (HH.out.1.drewN q).c1
  have H1 := Lib.hid (show Rb (w.drewN q) R s k ∧ Lv (w.drewN q) ∧ Below w.heap.size w (w.drewN q) from ⟨HH.out.1.drewN q, HH.out.2.below hB1, hB1⟩)
  clear hB1
  go_wp2_with fail
  generalize hw1 : w.drewN q = w1 at *
  clear hw1
  go_region_held3 (fun w' : World => w'.cell? ⟨R, 0, none⟩ = some (.string s) ∧ w'.cell? ⟨R, 1, none⟩ = some (.int .i64 (k : Int))) (first | go_keep | exact ⟨(hb2.cell (p := ⟨R, 0, none⟩) H1.out.1.lt).trans H1.out.1.c0, (hb2.cell (p := ⟨R, 1, none⟩) H1.out.1.lt).trans H1.out.1.c1⟩) (first | (go_at_call 138; refine (hesc _ (H1.out.2.1.below (Below.drew (Below.refl _ _)))).mono ?_; rintro e w2 ⟨rfl, hb2⟩))
  have B2 : Below w.heap.size w w2 := H1.out.2.2.trans ((Below.drew (Below.refl _ _)).trans hb2 |>.mono H1.out.2.2.size)
  have R2 := HH.out.1.below B2
  have d1 := R2.c1
  have f1 := R2.f1
  have HF := Lib.hid (show Rb (w2.setCell ⟨R, 1, none⟩ (.int .i64 ((k : Int) + (en : Int)))) R s (k + en) ∧ Onl R w (w2.setCell ⟨R, 1, none⟩ (.int .i64 ((k : Int) + (en : Int)))) from ⟨by have := R2.set (k + en); rwa [Int.natCast_add] at this, (Onl.of B2).set _ rfl _⟩)
  clear R2 B2 hb2 H1 c0 c1 HH his hesc
  rcases hee with rfl | rfl
  · go_wp2
    go_ret2
    refine ⟨ec, true, k + en, rfl, HF.out.1, hen, HF.out.2, ?_⟩
    rw [HP.out.1, HP.out.2]
    have := HE.out
    revert this
    cases Rs.escS t with
    | none => intro h; cases h
    | some r => intro h; exact ⟨rfl, h.2.1, by rw [h.2.2]⟩
  · go_wp2
    go_ret2
    refine ⟨ec, false, k + en, rfl, HF.out.1, hen, HF.out.2, ?_⟩
    rw [HP.out.1, HP.out.2]
    have := HE.out
    revert this
    cases Rs.escS t with
    | none => intro _; rfl
    | some r => intro h; cases h.1
end Go.Proofs.YtimahlimmblgkaaGreatDoor
namespace Go.Proofs.YtimahlimmblgkaaGreatDoor
namespace Rs
def brk (c : Int) : Bool := decide (c = 91) || decide (c = 93) || decide (c = 45)
theorem brk_fin : ∀ c : Fin 128, decide (0 ≤ Lib.indexByte [91, 93, 45] (c.val : Int).toNat.toUInt8) = brk (c.val : Int) := by decide +kernel
theorem brk_eq (c : Int) (h0 : 0 ≤ c) (h1 : c < 128) : decide (0 ≤ Lib.indexByte [91, 93, 45] c.toNat.toUInt8) = brk c := by
  have h := brk_fin ⟨c.toNat, by omega⟩
  rw [show ((⟨c.toNat, by omega⟩ : Fin 128).val : Int) = c by simp only; omega] at h
  exact h
theorem dec_go (s : ByteArray) (k : Nat) : Lib.decodeGo (s.extract k s.size) = decS (s.data.toList.drop k) := by
  have e := ext_list s k
  have hx : s.extract k s.size = ⟨(s.data.toList.drop k).toArray⟩ := by
    apply ByteArray.ext
    rw [← e]
  unfold Lib.decodeGo decS Lib.decodeL
  rw [hx]
  by_cases h : s.data.toList.drop k = []
  · rw [h]; simp [ByteArray.size]
  · rw [if_neg h, if_neg (by simp only [ByteArray.size, List.size_toArray]; have := List.length_pos_iff.2 h; omega)]
end Rs
open Go.RowKit Go.Shelf
set_option maxRecDepth 100000 in
set_option maxHeartbeats 1000000 in
theorem crs_calls (c : Int) (hc : Rs.pt c = true) (w : World) :
    Calls Tryz.prog 106 #[.string ⟨#[91, 93, 45]⟩, .int .i32 c] w fun e w' => e = .returned (.bool (Rs.brk c)) ∧ Below w.heap.size w w' := by
  have hcc := (Rs.pt_iff c).1 hc
  by_cases h : c < 128
  · refine (Tryz.strings_ContainsRune_ascii ⟨#[91, 93, 45]⟩ c w (by omega) h).mono fun e w' hh => ⟨?_, ?_⟩
    · rw [hh.1, ← Rs.brk_eq c (by omega) h]
    · rw [hh.2]; exact Below.refl _ _
  · have hi : Calls Tryz.prog 135 #[.string ⟨#[91, 93, 45]⟩, .int .i32 c] w fun e w' => e = .returned (.int .i64 (-1)) ∧ Below w.heap.size w w' := by
      by_cases h2 : c = 65533
      · subst h2; exact idx_bad w
      · refine idx_high c ?_ (by omega) h2 w
        unfold Utf8.valid
        simp
        omega
    have hb : Rs.brk c = false := by unfold Rs.brk; simp; omega
    rw [hb]
    clear hb hcc hc h
    go_enter Tryz.func106, Tryz.ntmps106
    go_wp2_with (go_at_call 135; refine hi.mono ?_; clear hi; rintro e w' ⟨rfl, hb⟩)
    go_ret
    exact ⟨rfl, hb⟩
set_option maxRecDepth 100000 in
set_option maxHeartbeats 2000000 in
theorem point_dec (R : Nat) (s : ByteArray) (k : Nat) (w : World) (h : Rb w R s k) (hk : k ≤ s.size) (hs : s.size ≤ 1000000000000) (_hR : max (max 9 5) 6 < R) (hL : Lv w) (h92 : Rs.bt (s.data.toList.drop k) 0 ≠ 92) :
    Calls Tryz.prog 186 #[.pointer (some ⟨R, 0, none⟩)] w (PtPost R s k w) := by
  have his := fun W hW => is_calls R s ⟨#[92]⟩ k W hW hk hs
  rw [show (⟨#[92]⟩ : ByteArray).data.toList = [92] from rfl, Rs.hp1 _ 92 (by decide), show decide (Rs.bt (s.data.toList.drop k) 0 = ((92 : UInt8).toNat : Int)) = false by simpa using h92] at his
  have hdec := fun W (hW : Lv W) => Tryz.utf8_DecodeRuneInString (s.extract k s.size) W hW.tab
  rw [Rs.dec_go] at hdec
  obtain ⟨c, n, hcn, hkn, hway⟩ : ∃ c n : Nat, Rs.decS (s.data.toList.drop k) = (c, n) ∧ k + n ≤ s.size ∧
      ((n = 0 ∧ c = 65533 ∧ Rs.partS (s.data.toList.drop k) = none) ∨ (n = 1 ∧ c = 65533 ∧ Rs.partS (s.data.toList.drop k) = none) ∨
       (1 ≤ n ∧ Rs.pt (c : Int) = true ∧ (c ≠ 65533 ∨ 1 < n) ∧ Rs.partS (s.data.toList.drop k) = if Rs.brk c then none else some ((c : Int), n))) := by
    by_cases h0 : s.data.toList.drop k = []
    · rw [h0]
      exact ⟨65533, 0, rfl, by omega, .inl ⟨rfl, rfl, rfl⟩⟩
    · have hok := Rs.decS_ok h0
      obtain ⟨c, n, hd⟩ : ∃ c n, Rs.decS (s.data.toList.drop k) = (c, n) := ⟨_, _, rfl⟩
      rw [hd] at hok
      obtain ⟨o1, o2, o3⟩ := hok
      dsimp only at o1 o2 o3
      rw [List.length_drop, ← Lib.size_eq] at o3
      refine ⟨c, n, hd, by omega, ?_⟩
      have hl : ¬ (s.data.toList.drop k).length = 0 := fun e => h0 (List.length_eq_zero_iff.1 e)
      by_cases hb : c = 65533 ∧ n = 1
      · refine .inr (.inl ⟨hb.2, hb.1, ?_⟩)
        unfold Rs.partS
        rw [if_neg hl, if_neg h92, hd, if_neg]
        simp only
        omega
      · refine .inr (.inr ⟨o2, o1, by omega, ?_⟩)
        unfold Rs.partS
        rw [if_neg hl, if_neg h92, hd]
        simp only
        by_cases hbr : Rs.brk c = true
        · rw [if_pos hbr, if_neg]
          unfold Rs.brk at hbr
          simp at hbr
          omega
        · rw [if_neg hbr, if_pos]
          unfold Rs.brk at hbr
          simp at hbr
          omega
  rw [hcn] at hdec
  dsimp only at hdec
  have HH := Lib.hid (show _ ∧ _ from ⟨h, hL⟩)
  have HK := Lib.hid hkn
  clear h hL h92 hcn
  go_enter Tryz.func186, Tryz.ntmps186
  go_wp2_with fail
  refine (his w HH.out.1).mono ?_
  rintro e w1 ⟨rfl, q, rfl⟩
  have hB1 : Below w.heap.size w (w.drewN q) := below_drewN (Below.refl _ _) q
  have c0 := (HH.out.1.drewN q).c0
  have c1 := (HH.out.1.drewN q).c1
  have H1 := Lib.hid (show Rb (w.drewN q) R s k ∧ Lv (w.drewN q) ∧ Below w.heap.size w (w.drewN q) from ⟨HH.out.1.drewN q, HH.out.2.below hB1, hB1⟩)
  clear hB1
  go_wp2_with fail
  generalize hw1 : w.drewN q = w1 at *
  clear hw1
  go_region_held3 (fun w' : World => w'.cell? ⟨R, 0, none⟩ = some (.string s) ∧ w'.cell? ⟨R, 1, none⟩ = some (.int .i64 (k : Int))) (first | go_keep | exact ⟨(hb2.cell (p := ⟨R, 0, none⟩) H1.out.1.lt).trans H1.out.1.c0, (hb2.cell (p := ⟨R, 1, none⟩) H1.out.1.lt).trans H1.out.1.c1⟩) (first | (go_at_call 99; refine (hdec _ (H1.out.2.1.below (Below.drew (Below.refl _ _)))).mono ?_; rintro e w2 ⟨rfl, hb2⟩))
  have B2 : Below w.heap.size w w2 := H1.out.2.2.trans ((Below.drew (Below.refl _ _)).trans hb2 |>.mono H1.out.2.2.size)
  have R2 := HH.out.1.below B2
  have d1 := R2.c1
  have f1 := R2.f1
  have HF := Lib.hid (show Rb (w2.setCell ⟨R, 1, none⟩ (.int .i64 ((k : Int) + (n : Int)))) R s (k + n) ∧ Onl R w (w2.setCell ⟨R, 1, none⟩ (.int .i64 ((k : Int) + (n : Int)))) from ⟨by have := R2.set (k + n); rwa [Int.natCast_add] at this, (Onl.of B2).set _ rfl _⟩)
  clear R2 B2 hb2 H1 c0 c1 HH his hdec
  rcases hway with ⟨rfl, rfl, hp⟩ | ⟨rfl, rfl, hp⟩ | ⟨hn1, hpt, hne, hp⟩
  · have HP := Lib.hid hp
    clear hp
    go_wp2
    go_ret2
    refine ⟨65533, false, k + 0, rfl, HF.out.1, HK.out, HF.out.2, ?_⟩
    rw [HP.out]
  · have HP := Lib.hid hp
    clear hp
    go_wp2
    go_ret2
    refine ⟨65533, false, k + 1, rfl, HF.out.1, HK.out, HF.out.2, ?_⟩
    rw [HP.out]
  · have HP := Lib.hid hp
    have hcr := fun W => crs_calls (c : Int) hpt W
    have hpc := (Rs.pt_iff _).1 hpt
    have hc2 : (c : Int) ≤ 1114111 := by omega
    have hw64 : IntKind.i64.wrap (c : Int) = (c : Int) := by rw [IntKind.wrap_i64]; omega
    have fin : ∀ w4, Below (w2.setCell ⟨R, 1, none⟩ (.int .i64 ((k : Int) + (n : Int)))).heap.size (w2.setCell ⟨R, 1, none⟩ (.int .i64 ((k : Int) + (n : Int)))) w4 → PtPost R s k w (.returned (.tuple #[.int .i64 (c : Int), .bool (!Rs.brk c)])) w4 := fun w4 hb4 => by
      refine ⟨_, _, k + n, rfl, HF.out.1.below hb4, HK.out, HF.out.2.trans (Onl.of hb4), ?_⟩
      rw [HP.out]
      cases Rs.brk c
      · exact ⟨rfl, rfl, rfl⟩
      · rfl
    have FIN := Lib.hid fin
    have hn0 : 0 < n := by omega
    clear fin hp hn1 hpt HF HP
    by_cases hc : c = 65533
    · subst hc
      have hn2 : 1 < n := by omega
      clear hne hpc
      go_wp2_with (go_at_call 106; refine (hcr _).mono ?_; clear hcr; rintro e w4 ⟨rfl, hb4⟩)
      go_ret2
      exact FIN.out _ hb4
    · have hc' : ((c : Int) != 65533) = true := by simp; omega
      clear hne hpc hc
      go_wp2_with (go_at_call 106; refine (hcr _).mono ?_; clear hcr; rintro e w4 ⟨rfl, hb4⟩)
      go_ret2
      exact FIN.out _ hb4
/-- point takes a point, as partS says. -/
theorem point_calls' (R : Nat) (s : ByteArray) (k : Nat) (w : World) (h : Rb w R s k) (hk : k ≤ s.size) (hs : s.size ≤ 1000000000000) (hR : max (max 9 5) 6 < R) (hL : Lv w) :
    Calls Tryz.prog 186 #[.pointer (some ⟨R, 0, none⟩)] w (PtPost R s k w) := by
  by_cases h92 : Rs.bt (s.data.toList.drop k) 0 = 92
  · exact point_esc R s k w h hk hs hR hL h92
  · exact point_dec R s k w h hk hs hR hL h92
end Go.Proofs.YtimahlimmblgkaaGreatDoor
