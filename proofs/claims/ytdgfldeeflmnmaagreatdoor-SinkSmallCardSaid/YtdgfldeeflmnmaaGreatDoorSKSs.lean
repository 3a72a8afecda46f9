/- Chapter 38: the law SinkSmall. -/
import Derived.Test.YtdgfldeeflmnmaaGreatDoorSKTt
import Derived.Test.YtdgfldeeflmnmaaGreatDoorSKJc
import Derived.Test.YtdgfldeeflmnmaaGreatDoorSKRl
import Derived.Test.YtdgfldeeflmnmaaGreatDoorSKRy
import Derived.Test.YtdgfldeeflmnmaaGreatDoorSKSt
namespace Go.Proofs.YtdgfldeeflmnmaaGreatDoor.Sk
open Go Go.RowKit
theorem lone_s (nm vl : ByteArray) (w : World) : Calls Tryz.prog 9 #[.string nm, .string vl] w fun e w' => ∃ a, e = .returned (.slice a 1 1) ∧ Ll w' a 1 [(nm, vl)] ∧ Below w.heap.size w w' :=
  (lone_calls nm vl w).mono fun e w' ⟨h1, h2⟩ => ⟨_, h1, by rw [h2]; exact oneW_ll w nm vl, by rw [h2]; exact oneW_below w nm vl⟩
theorem rdF_blk {w : World} {b : Nat} {cs : Array Value} {T : TypeId} {xs : List Value} (h : w.heap[b]? = some (.cells cs T (0, 0))) (hx : cs.toList = xs) : RdF w (some ⟨b, 0, none⟩) xs := by
  intro _
  refine ⟨b, 0, rfl, (isT_of h).lt, fun j u hu => ?_⟩
  rw [Nat.zero_add]
  refine block_cell h j u ?_
  rw [← Array.getElem?_toList, hx]
  exact hu
def x1L : List Lab := [(xB, oneB)]
def y1L : List Lab := [(⟨#[121]⟩, oneB)]
def poolE : List Ent := [⟨x1L, false, 7, false, 0, 1⟩, ⟨x1L, false, 0, false, 0, 2⟩, ⟨x1L, false, 1, false, 0, 3⟩, ⟨x1L, true, 0, false, 0, 1⟩, ⟨x1L, true, 0, false, 0, 2⟩, ⟨x1L, true, 0, false, 0, 3⟩, ⟨y1L, false, 0, true, -5, 2⟩, ⟨y1L, true, 0, false, 0, 3⟩, ⟨x1L, true, 1, false, 0, 4⟩]
/-- a small entry -/
structure SmE (e : Ent) : Prop where
  ln : e.lab.length ≤ 1
  sz : ∀ y ∈ e.lab, y.1.size ≤ 10 ∧ y.2.size ≤ 10
  rg : EntIn e
theorem SmE.z {e : Ent} (h : SmE e) : LabZ e.lab := fun x hx => ⟨Nat.le_trans (h.sz x hx).1 (by decide), Nat.le_trans (h.sz x hx).2 (by decide)⟩
theorem poolE_ok : ∀ e ∈ poolE, SmE e := by
  intro e he
  unfold poolE at he
  simp only [List.mem_cons, List.not_mem_nil, or_false] at he
  rcases he with rfl | rfl | rfl | rfl | rfl | rfl | rfl | rfl | rfl
  all_goals exact ⟨by decide, by decide, by constructor <;> decide⟩
theorem ents_ok {l : List SE} (h : ∀ x ∈ l, SmE x.e) : EOk l := ⟨fun x hx => Nat.le_trans (h x hx).ln (by decide), fun x hx => (h x hx).z⟩
theorem items_ok {l : List SI} (hk : ∀ x ∈ l, x.key.size ≤ 100) (h : ∀ x ∈ l, SmE x.e) : CkOk l := ⟨fun x hx => Nat.le_trans (hk x hx) (by decide), fun x hx => Nat.le_trans (h x hx).ln (by decide), fun x hx => (h x hx).z, fun x hx => (h x hx).rg⟩
theorem rdEj_blk {w : World} {b : Nat} {cs : Array Value} {T : TypeId} {l : List SE} (h : w.heap[b]? = some (.cells cs T (0, 0))) (hx : cs.toList = eFlat l) (hl : ∀ x ∈ l, RdL w x.la x.e.lab) : RdEj w (some ⟨b, 0, none⟩) l := ⟨rdF_blk h hx, hl⟩
theorem rdJ_blk {w : World} {b : Nat} {cs : Array Value} {T : TypeId} {l : List SI} (h : w.heap[b]? = some (.cells cs T (0, 0))) (hx : cs.toList = iFlat l) (hl : ∀ x ∈ l, RdL w x.la x.e.lab) : RdJ w (some ⟨b, 0, none⟩) l := ⟨rdF_blk h hx, hl⟩
theorem rdC_blk {w : World} {b : Nat} {cs : Array Value} {T : TypeId} {l : List CA} (h : w.heap[b]? = some (.cells cs T (0, 0))) (hx : cs.toList = cFlat l) (hl : ∀ x ∈ l, RdEj w x.ea x.es) : RdC w (some ⟨b, 0, none⟩) l := ⟨rdF_blk h hx, hl⟩
theorem al_old {w : World} {b : Nat} {o x : Obj} (h : w.heap[b]? = some o) : (w.alloc x).heap[b]? = some o := (Below.heap_alloc w x b (Array.getElem?_eq_some_iff.1 h).1).trans h
/-- the values of an entry in a box -/
theorem en_cells {w : World} {g : Nat} {y : SE} (h : w.heap[g]? = some (.cells (enA y) 34 (0, 0))) : w.cell? ⟨g, 0, none⟩ = some (.slice y.la y.e.lab.length y.lc) ∧ w.cell? ⟨g, 1, none⟩ = some (.bool y.e.mark) ∧ w.cell? ⟨g, 2, none⟩ = some (.int .u64 y.e.bits) ∧ w.cell? ⟨g, 3, none⟩ = some (.bool y.e.st) ∧ w.cell? ⟨g, 4, none⟩ = some (.int .i64 y.e.time) ∧ w.cell? ⟨g, 5, none⟩ = some (.int .i64 y.e.stamp) ∧ g < w.heap.size :=
  ⟨block_cell h 0 _ rfl, block_cell h 1 _ rfl, block_cell h 2 _ rfl, block_cell h 3 _ rfl, block_cell h 4 _ rfl, block_cell h 5 _ rfl, (isT_of h).lt⟩
theorem R6.below {y5 y6 y7 y8 : SE} {w0 w w' : World} {g5 g6 g7 g8 : Nat} (h : R6 y5 y6 y7 y8 w0 g5 g6 g7 g8 w) (hb : Below w.heap.size w w') : R6 y5 y6 y7 y8 w0 g5 g6 g7 g8 w' :=
  ⟨(hb.block _ (isT_of h.b5).lt).trans h.b5, (hb.block _ (isT_of h.b6).lt).trans h.b6, (hb.block _ (isT_of h.b7).lt).trans h.b7, (hb.block _ (isT_of h.b8).lt).trans h.b8, Bthen h.bel hb⟩
/-- the three calls of a round -/
def rndC (k1 k2 : ByteArray) (z : Nat) (ya yb yc yd : SE) : List CA := [⟨k1, some ⟨z, 0, none⟩, 2, [ya, yb]⟩, ⟨k2, some ⟨z + 1, 0, none⟩, 1, [yb]⟩, ⟨k1, some ⟨z + 1 + 1, 0, none⟩, 2, [yc, yd]⟩]
def eV (y : SE) : List Value := [.slice y.la y.e.lab.length y.lc, .bool y.e.mark, .int .u64 y.e.bits, .bool y.e.st, .int .i64 y.e.time, .int .i64 y.e.stamp]
theorem rndC_rd {w W : World} {k1 k2 : ByteArray} {ya yb yc yd : SE} (h : ∀ x ∈ [ya, yb, yc, yd], RdL w x.la x.e.lab)
    (hW : W = (((w.alloc (.cells (eV ya ++ eV yb).toArray 34)).alloc (.cells (eV yb).toArray 34)).alloc (.cells (eV yc ++ eV yd).toArray 34)).alloc (.cells #[.string k1, .slice (some ⟨w.heap.size, 0, none⟩) 2 2, .string k2, .slice (some ⟨w.heap.size + 1, 0, none⟩) 1 1, .string k1, .slice (some ⟨w.heap.size + 1 + 1, 0, none⟩) 2 2] 61)) :
    RdC W (some ⟨w.heap.size + 1 + 1 + 1, 0, none⟩) (rndC k1 k2 w.heap.size ya yb yc yd) ∧ Below w.heap.size w W := by
  obtain ⟨wA, hwA⟩ : ∃ q, q = w.alloc (.cells (eV ya ++ eV yb).toArray 34) := ⟨_, rfl⟩
  obtain ⟨wB, hwB⟩ : ∃ q, q = wA.alloc (.cells (eV yb).toArray 34) := ⟨_, rfl⟩
  obtain ⟨wC, hwC⟩ : ∃ q, q = wB.alloc (.cells (eV yc ++ eV yd).toArray 34) := ⟨_, rfl⟩
  rw [← hwA, ← hwB, ← hwC] at hW
  have sA : wA.heap.size = w.heap.size + 1 := by rw [hwA]; simp
  have sB : wB.heap.size = w.heap.size + 1 + 1 := by rw [hwB]; simp; omega
  have sC : wC.heap.size = w.heap.size + 1 + 1 + 1 := by rw [hwC]; simp; omega
  have tA : wA.heap[w.heap.size]? = some (.cells (eV ya ++ eV yb).toArray 34 (0, 0)) := by rw [hwA]; exact heap_alloc_new w _
  have tB : wB.heap[w.heap.size + 1]? = some (.cells (eV yb).toArray 34 (0, 0)) := by rw [← sA, hwB]; exact heap_alloc_new wA _
  have tC : wC.heap[w.heap.size + 1 + 1]? = some (.cells (eV yc ++ eV yd).toArray 34 (0, 0)) := by rw [← sB, hwC]; exact heap_alloc_new wB _
  have bA : Below w.heap.size w wA := by rw [hwA]; exact (Below.refl _ _).alloc (Nat.le_refl _) _
  have bB : Below wA.heap.size wA wB := by rw [hwB]; exact (Below.refl _ _).alloc (Nat.le_refl _) _
  have bC : Below wB.heap.size wB wC := by rw [hwC]; exact (Below.refl _ _).alloc (Nat.le_refl _) _
  have bD : Below wC.heap.size wC W := by rw [hW]; exact (Below.refl _ _).alloc (Nat.le_refl _) _
  have tD : W.heap[w.heap.size + 1 + 1 + 1]? = some (.cells #[.string k1, .slice (some ⟨w.heap.size, 0, none⟩) 2 2, .string k2, .slice (some ⟨w.heap.size + 1, 0, none⟩) 1 1, .string k1, .slice (some ⟨w.heap.size + 1 + 1, 0, none⟩) 2 2] 61 (0, 0)) := by rw [← sC, hW]; exact heap_alloc_new wC _
  have bCW := bD
  have bBW := Bthen bC bD
  have bAW := Bthen bB bBW
  have bW := Bthen bA bAW
  have hl : ∀ x ∈ [ya, yb, yc, yd], RdL W x.la x.e.lab := fun x hx => (h x hx).below bW (Nat.le_refl _)
  refine ⟨rdC_blk tD rfl ?_, bW⟩
  unfold rndC
  simp only [List.mem_cons, List.not_mem_nil, or_false]
  rintro x (rfl | rfl | rfl)
  · exact rdEj_blk ((bAW.block _ (isT_of tA).lt).trans tA) (by simp [eFlat, eB, eV]) (fun y hy => hl y (by simp at hy ⊢; rcases hy with rfl | rfl <;> simp))
  · exact rdEj_blk ((bBW.block _ (isT_of tB).lt).trans tB) (by simp [eFlat, eB, eV]) (fun y hy => hl y (by simp at hy ⊢; simp [hy]))
  · exact rdEj_blk ((bCW.block _ (isT_of tC).lt).trans tC) (by simp [eFlat, eB, eV]) (fun y hy => hl y (by simp at hy ⊢; rcases hy with rfl | rfl <;> simp))
theorem rndC_mem {k1 k2 : ByteArray} {z : Nat} {ya yb yc yd : SE} {x : CA} (h : x ∈ rndC k1 k2 z ya yb yc yd) {y : SE} (hy : y ∈ x.es) : y ∈ [ya, yb, yc, yd] := by
  unfold rndC at h
  simp only [List.mem_cons, List.not_mem_nil, or_false] at h
  rcases h with rfl | rfl | rfl
  · simp at hy ⊢; rcases hy with rfl | rfl <;> simp
  · simp at hy ⊢; simp [hy]
  · simp at hy ⊢; rcases hy with rfl | rfl <;> simp
/-- the four items of a round -/
def rndI (k1 k2 : ByteArray) (ya yb yc yd : SE) : List SI := [⟨k1, ya.la, ya.lc, ya.e⟩, ⟨k1, yb.la, yb.lc, yb.e⟩, ⟨k1, yc.la, yc.lc, yc.e⟩, ⟨k2, yd.la, yd.lc, yd.e⟩]
theorem rndI_rd {w W : World} {k1 k2 : ByteArray} {ya yb yc yd : SE} (h : ∀ x ∈ [ya, yb, yc, yd], RdL w x.la x.e.lab)
    (hW : W = w.alloc (.cells (.string k1 :: eV ya ++ .string k1 :: eV yb ++ .string k1 :: eV yc ++ .string k2 :: eV yd).toArray 40)) :
    RdJ W (some ⟨w.heap.size, 0, none⟩) (rndI k1 k2 ya yb yc yd) ∧ Below w.heap.size w W := by
  have bW : Below w.heap.size w W := by rw [hW]; exact (Below.refl _ _).alloc (Nat.le_refl _) _
  have tW : W.heap[w.heap.size]? = some (.cells (.string k1 :: eV ya ++ .string k1 :: eV yb ++ .string k1 :: eV yc ++ .string k2 :: eV yd).toArray 40 (0, 0)) := by rw [hW]; exact heap_alloc_new w _
  refine ⟨rdJ_blk tW (by simp [iFlat, iB, eV, rndI]) ?_, bW⟩
  unfold rndI
  simp only [List.mem_cons, List.not_mem_nil, or_false]
  rintro x (rfl | rfl | rfl | rfl)
  · exact (h ya (by simp)).below bW (Nat.le_refl _)
  · exact (h yb (by simp)).below bW (Nat.le_refl _)
  · exact (h yc (by simp)).below bW (Nat.le_refl _)
  · exact (h yd (by simp)).below bW (Nat.le_refl _)
theorem itB_lab {w : World} {l : List SI} {m : List SE} (h : ∀ y ∈ l, ∃ x ∈ m, y.la = x.la ∧ y.e = x.e) (hm : ∀ x ∈ m, RdL w x.la x.e.lab) : ∀ y ∈ l, RdL w y.la y.e.lab := fun y hy => by
  obtain ⟨x, hx, e1, e2⟩ := h y hy
  rw [e1, e2]
  exact hm x hx
def numL : List Int := [-9223372036854775808, -1, 0, 1, 562949953421313, 562949953421314, 9223372036854775807]
theorem numL_in : ∀ x ∈ numL, -9223372036854775808 ≤ x ∧ x ≤ 9223372036854775807 := by decide
def namL (k : ByteArray) : List ByteArray := [k, ⟨#[]⟩, ⟨#[106]⟩, ⟨#[106, 254]⟩, ⟨#[254]⟩, ⟨#[106, 254, 97, 255, 49]⟩, ⟨#[45, 254, 37, 255]⟩, ⟨#[195, 169, 32, 254, 97, 255, 37, 255]⟩]
theorem namL_in {k : ByteArray} (hk : k.size ≤ 100) : ∀ x ∈ namL k, x.size ≤ 100 := by
  intro x hx
  unfold namL at hx
  simp only [List.mem_cons, List.not_mem_nil, or_false] at hx
  rcases hx with rfl | rfl | rfl | rfl | rfl | rfl | rfl | rfl
  · exact hk
  all_goals decide
/-- the seven entries at a number -/
def sevE (n b : Int) (a0 a2 a3 a4 a5 a6 : Option Addr) : List SE :=
  [⟨a0, 1, ⟨x1L, false, 0, false, 0, n⟩⟩, ⟨none, 0, ⟨[], false, b, true, n, 5⟩⟩, ⟨a2, 1, ⟨x1L, false, 0, false, n, 0⟩⟩, ⟨a3, 1, ⟨x1L, true, 0, false, n, 0⟩⟩, ⟨a4, 1, ⟨x1L, true, 0, true, 0, 0⟩⟩, ⟨a5, 1, ⟨[(xB, ⟨#[]⟩)], false, 0, false, 0, 0⟩⟩, ⟨a6, 1, ⟨[(⟨#[49]⟩, xB)], false, 0, false, 0, 0⟩⟩]
theorem sevE_ok {n b : Int} {a0 a2 a3 a4 a5 a6 : Option Addr} (h0 : -9223372036854775808 ≤ n) (h1 : n ≤ 9223372036854775807) (b0 : 0 ≤ b) (b1 : b < 18446744073709551616) : ∀ x ∈ sevE n b a0 a2 a3 a4 a5 a6, SmE x.e := by
  intro x hx
  unfold sevE at hx
  simp only [List.mem_cons, List.not_mem_nil, or_false] at hx
  rcases hx with rfl | rfl | rfl | rfl | rfl | rfl | rfl
  all_goals refine ⟨by dsimp only; decide, by dsimp only; decide, ?_⟩
  all_goals constructor
  all_goals dsimp only
  all_goals omega
theorem wp_world {c : Code} {Q : Exit → Act → World → Prop} {a : Act} {w : World} (h : ∀ W, W = w → Code.wp Tryz.prog c Q a W) : Code.wp Tryz.prog c Q a w := h w rfl
/-- one item, one call and one that brings nothing -/
def twoC (name : ByteArray) (z : Nat) (y : SE) : List CA := [⟨name, some ⟨z, 0, none⟩, 1, [y]⟩, ⟨name, none, 0, []⟩]
theorem twoC_rd {w W : World} {name : ByteArray} {y : SE} (h : RdL w y.la y.e.lab)
    (hW : W = (w.alloc (.cells (eV y).toArray 34)).alloc (.cells #[.string name, .slice (some ⟨w.heap.size, 0, none⟩) 1 1, .string name, .slice none 0 0] 61)) :
    RdC W (some ⟨w.heap.size + 1, 0, none⟩) (twoC name w.heap.size y) ∧ Below w.heap.size w W := by
  obtain ⟨wA, hwA⟩ : ∃ q, q = w.alloc (.cells (eV y).toArray 34) := ⟨_, rfl⟩
  rw [← hwA] at hW
  have sA : wA.heap.size = w.heap.size + 1 := by rw [hwA]; simp
  have tA : wA.heap[w.heap.size]? = some (.cells (eV y).toArray 34 (0, 0)) := by rw [hwA]; exact heap_alloc_new w _
  have bA : Below w.heap.size w wA := by rw [hwA]; exact (Below.refl _ _).alloc (Nat.le_refl _) _
  have bD : Below wA.heap.size wA W := by rw [hW]; exact (Below.refl _ _).alloc (Nat.le_refl _) _
  have tD : W.heap[w.heap.size + 1]? = some (.cells #[.string name, .slice (some ⟨w.heap.size, 0, none⟩) 1 1, .string name, .slice none 0 0] 61 (0, 0)) := by rw [← sA, hW]; exact heap_alloc_new wA _
  have bW := Bthen bA bD
  refine ⟨rdC_blk tD rfl ?_, bW⟩
  unfold twoC
  simp only [List.mem_cons, List.not_mem_nil, or_false]
  rintro x (rfl | rfl)
  · exact rdEj_blk ((bD.block _ (isT_of tA).lt).trans tA) (by simp [eFlat, eB, eV]) (fun z hz => by rw [List.mem_singleton.1 hz]; exact h.below bW (Nat.le_refl _))
  · exact ⟨fun h => absurd rfl h, fun z hz => by cases hz⟩
set_option maxRecDepth 100000 in
set_option maxHeartbeats 8000000 in
theorem small_calls (w : World) (hE : Ev w) (hS : Es w) :
    Calls Tryz.prog 4 #[] w (TdPost (.bool true) w) := by
  have HE := Lib.hid (And.intro hE hS)
  clear hE hS
  go_enter Tryz.func4, Tryz.ntmps4
  go_wp2_with fail
  go_at_call 20
  refine (key_calls ⟨#[106]⟩ ⟨#[49]⟩ 106 49 (Sb.of 106 (by decide)) (Sb.of 49 (by decide)) w).mono ?_
  rintro e w1 ⟨rfl, hb1⟩
  obtain ⟨k1, hk1⟩ : ∃ q, q = (⟨#[106]⟩ : ByteArray) ++ ⟨#[254]⟩ ++ ⟨#[97, 255, 49, 255]⟩ := ⟨_, rfl⟩
  rw [← hk1]
  have H1 := Lib.hid hb1
  have HK1 := Lib.hid hk1
  clear hb1 hk1
  go_wp2_with fail
  go_at_call 20
  refine (key_calls ⟨#[106]⟩ ⟨#[50]⟩ 106 50 (Sb.of 106 (by decide)) (Sb.of 50 (by decide)) w1).mono ?_
  rintro e w2 ⟨rfl, hb2⟩
  obtain ⟨k2, hk2⟩ : ∃ q, q = (⟨#[106]⟩ : ByteArray) ++ ⟨#[254]⟩ ++ ⟨#[97, 255, 50, 255]⟩ := ⟨_, rfl⟩
  rw [← hk2]
  have H2 := Lib.hid (Bthen H1.out hb2)
  have HK2 := Lib.hid hk2
  clear hb2 hk2 H1
  go_wp2_with fail
  go_at_call 21
  refine (sample_calls 1 7 w2).mono ?_
  rintro e w3 ⟨a0, rfl, hl, hb⟩
  have HP0 := Lib.hid (And.intro hl (Bthen H2.out hb))
  clear hl hb
  go_wp2_with fail
  go_at_call 21
  refine (sample_calls 2 0 w3).mono ?_
  rintro e w4 ⟨a1, rfl, hl, hb⟩
  have HP1 := Lib.hid (show (Ll w4 a0 1 x1L ∧ Ll w4 a1 1 x1L) ∧ Below w.heap.size w w4 from ⟨⟨HP0.out.1.below hb (Nat.le_refl _), hl⟩, Bthen HP0.out.2 hb⟩)
  clear HP0
  clear hl hb
  go_wp2_with fail
  go_at_call 21
  refine (sample_calls 3 1 w4).mono ?_
  rintro e w5 ⟨a2, rfl, hl, hb⟩
  have HP2 := Lib.hid (show (Ll w5 a0 1 x1L ∧ Ll w5 a1 1 x1L ∧ Ll w5 a2 1 x1L) ∧ Below w.heap.size w w5 from ⟨⟨HP1.out.1.1.below hb (Nat.le_refl _), HP1.out.1.2.below hb (Nat.le_refl _), hl⟩, Bthen HP1.out.2 hb⟩)
  clear HP1
  clear hl hb
  go_wp2_with fail
  go_at_call 22
  refine (marker_calls 1 w5).mono ?_
  rintro e w6 ⟨a3, rfl, hl, hb⟩
  have HP3 := Lib.hid (show (Ll w6 a0 1 x1L ∧ Ll w6 a1 1 x1L ∧ Ll w6 a2 1 x1L ∧ Ll w6 a3 1 x1L) ∧ Below w.heap.size w w6 from ⟨⟨HP2.out.1.1.below hb (Nat.le_refl _), HP2.out.1.2.1.below hb (Nat.le_refl _), HP2.out.1.2.2.below hb (Nat.le_refl _), hl⟩, Bthen HP2.out.2 hb⟩)
  clear HP2
  clear hl hb
  go_wp2_with fail
  go_at_call 22
  refine (marker_calls 2 w6).mono ?_
  rintro e w7 ⟨a4, rfl, hl, hb⟩
  have HP4 := Lib.hid (show (Ll w7 a0 1 x1L ∧ Ll w7 a1 1 x1L ∧ Ll w7 a2 1 x1L ∧ Ll w7 a3 1 x1L ∧ Ll w7 a4 1 x1L) ∧ Below w.heap.size w w7 from ⟨⟨HP3.out.1.1.below hb (Nat.le_refl _), HP3.out.1.2.1.below hb (Nat.le_refl _), HP3.out.1.2.2.1.below hb (Nat.le_refl _), HP3.out.1.2.2.2.below hb (Nat.le_refl _), hl⟩, Bthen HP3.out.2 hb⟩)
  clear HP3
  clear hl hb
  go_wp2_with fail
  go_at_call 22
  refine (marker_calls 3 w7).mono ?_
  rintro e w8 ⟨a5, rfl, hl, hb⟩
  have HP5 := Lib.hid (show (Ll w8 a0 1 x1L ∧ Ll w8 a1 1 x1L ∧ Ll w8 a2 1 x1L ∧ Ll w8 a3 1 x1L ∧ Ll w8 a4 1 x1L ∧ Ll w8 a5 1 x1L) ∧ Below w.heap.size w w8 from ⟨⟨HP4.out.1.1.below hb (Nat.le_refl _), HP4.out.1.2.1.below hb (Nat.le_refl _), HP4.out.1.2.2.1.below hb (Nat.le_refl _), HP4.out.1.2.2.2.1.below hb (Nat.le_refl _), HP4.out.1.2.2.2.2.below hb (Nat.le_refl _), hl⟩, Bthen HP4.out.2 hb⟩)
  clear HP4
  clear hl hb
  go_wp2_with fail
  go_at_call 9
  refine (lone_s ⟨#[121]⟩ ⟨#[49]⟩ w8).mono ?_
  rintro e w9 ⟨a6, rfl, hl, hb⟩
  have HP6 := Lib.hid (show (Ll w9 a0 1 x1L ∧ Ll w9 a1 1 x1L ∧ Ll w9 a2 1 x1L ∧ Ll w9 a3 1 x1L ∧ Ll w9 a4 1 x1L ∧ Ll w9 a5 1 x1L ∧ Ll w9 a6 1 y1L) ∧ Below w.heap.size w w9 from ⟨⟨HP5.out.1.1.below hb (Nat.le_refl _), HP5.out.1.2.1.below hb (Nat.le_refl _), HP5.out.1.2.2.1.below hb (Nat.le_refl _), HP5.out.1.2.2.2.1.below hb (Nat.le_refl _), HP5.out.1.2.2.2.2.1.below hb (Nat.le_refl _), HP5.out.1.2.2.2.2.2.below hb (Nat.le_refl _), hl⟩, Bthen HP5.out.2 hb⟩)
  clear HP5
  clear hl hb
  go_wp2_with fail
  go_at_call 9
  refine (lone_s ⟨#[121]⟩ ⟨#[49]⟩ w9).mono ?_
  rintro e w10 ⟨a7, rfl, hl, hb⟩
  have HP7 := Lib.hid (show (Ll w10 a0 1 x1L ∧ Ll w10 a1 1 x1L ∧ Ll w10 a2 1 x1L ∧ Ll w10 a3 1 x1L ∧ Ll w10 a4 1 x1L ∧ Ll w10 a5 1 x1L ∧ Ll w10 a6 1 y1L ∧ Ll w10 a7 1 y1L) ∧ Below w.heap.size w w10 from ⟨⟨HP6.out.1.1.below hb (Nat.le_refl _), HP6.out.1.2.1.below hb (Nat.le_refl _), HP6.out.1.2.2.1.below hb (Nat.le_refl _), HP6.out.1.2.2.2.1.below hb (Nat.le_refl _), HP6.out.1.2.2.2.2.1.below hb (Nat.le_refl _), HP6.out.1.2.2.2.2.2.1.below hb (Nat.le_refl _), HP6.out.1.2.2.2.2.2.2.below hb (Nat.le_refl _), hl⟩, Bthen HP6.out.2 hb⟩)
  clear HP6
  clear hl hb
  go_wp2_with fail
  go_at_call 9
  refine (lone_s ⟨#[120]⟩ ⟨#[49]⟩ w10).mono ?_
  rintro e w11 ⟨a8, rfl, hl, hb⟩
  have HP8 := Lib.hid (show (Ll w11 a0 1 x1L ∧ Ll w11 a1 1 x1L ∧ Ll w11 a2 1 x1L ∧ Ll w11 a3 1 x1L ∧ Ll w11 a4 1 x1L ∧ Ll w11 a5 1 x1L ∧ Ll w11 a6 1 y1L ∧ Ll w11 a7 1 y1L ∧ Ll w11 a8 1 x1L) ∧ Below w.heap.size w w11 from ⟨⟨HP7.out.1.1.below hb (Nat.le_refl _), HP7.out.1.2.1.below hb (Nat.le_refl _), HP7.out.1.2.2.1.below hb (Nat.le_refl _), HP7.out.1.2.2.2.1.below hb (Nat.le_refl _), HP7.out.1.2.2.2.2.1.below hb (Nat.le_refl _), HP7.out.1.2.2.2.2.2.1.below hb (Nat.le_refl _), HP7.out.1.2.2.2.2.2.2.1.below hb (Nat.le_refl _), HP7.out.1.2.2.2.2.2.2.2.below hb (Nat.le_refl _), hl⟩, Bthen HP7.out.2 hb⟩)
  clear HP7
  clear hl hb
  go_wp2_with fail
  obtain ⟨PL, hPL⟩ : ∃ q, q = ([⟨a0, 1, ⟨x1L, false, 7, false, 0, 1⟩⟩, ⟨a1, 1, ⟨x1L, false, 0, false, 0, 2⟩⟩, ⟨a2, 1, ⟨x1L, false, 1, false, 0, 3⟩⟩, ⟨a3, 1, ⟨x1L, true, 0, false, 0, 1⟩⟩, ⟨a4, 1, ⟨x1L, true, 0, false, 0, 2⟩⟩, ⟨a5, 1, ⟨x1L, true, 0, false, 0, 3⟩⟩, ⟨a6, 1, ⟨y1L, false, 0, true, -5, 2⟩⟩, ⟨a7, 1, ⟨y1L, true, 0, false, 0, 3⟩⟩, ⟨a8, 1, ⟨x1L, true, 1, false, 0, 4⟩⟩] : List SE) := ⟨_, rfl⟩
  have hll : ∀ x ∈ PL, Ll w11 x.la x.lc x.e.lab := by
    rw [hPL]
    simp only [List.mem_cons, List.not_mem_nil, or_false]
    obtain ⟨h0, h1, h2, h3, h4, h5, h6, h7, h8⟩ := HP8.out.1
    rintro x (rfl | rfl | rfl | rfl | rfl | rfl | rfl | rfl | rfl)
    all_goals assumption
  have hsm : ∀ x ∈ PL, SmE x.e := by
    rw [hPL]
    simp only [List.mem_cons, List.not_mem_nil, or_false]
    rintro x (rfl | rfl | rfl | rfl | rfl | rfl | rfl | rfl | rfl)
    all_goals exact poolE_ok _ (by simp [poolE])
  have hpl : PL.length = 9 := by rw [hPL]; rfl
  obtain ⟨P, hP⟩ : ∃ q, q = w11.heap.size := ⟨_, rfl⟩
  obtain ⟨w12, hw12⟩ : ∃ q, q = w11.alloc (.cells (eFlat PL).toArray 34) := ⟨_, rfl⟩
  have hb12 : Below w11.heap.size w11 w12 := by rw [hw12]; exact (Below.refl _ _).alloc (Nat.le_refl _) _
  have hrd : RdE w12 (some ⟨P, 0, none⟩) PL := by rw [hw12, hP]; exact RdE.new w11 PL _ (by simp) hll
  rw [hPL] at hw12
  rw [show w11.alloc (.cells #[.slice a0 1 1, .bool false, .int .u64 7, .bool false, .int .i64 0, .int .i64 1, .slice a1 1 1, .bool false, .int .u64 0, .bool false, .int .i64 0, .int .i64 2, .slice a2 1 1, .bool false, .int .u64 1, .bool false, .int .i64 0, .int .i64 3, .slice a3 1 1, .bool true, .int .u64 0, .bool false, .int .i64 0, .int .i64 1, .slice a4 1 1, .bool true, .int .u64 0, .bool false, .int .i64 0, .int .i64 2, .slice a5 1 1, .bool true, .int .u64 0, .bool false, .int .i64 0, .int .i64 3, .slice a6 1 1, .bool false, .int .u64 0, .bool true, .int .i64 (-5), .int .i64 2, .slice a7 1 1, .bool true, .int .u64 0, .bool false, .int .i64 0, .int .i64 3, .slice a8 1 1, .bool true, .int .u64 1, .bool false, .int .i64 0, .int .i64 4] 34) = w12 from hw12.symm, ← hP]
  have H12 := Lib.hid (And.intro hrd (And.intro hsm (Bthen HP8.out.2 hb12)))
  clear hll hsm hrd hb12 hw12 hPL hP HP8
  go_loopw [4] (fun i wr => ∃ j : Nat, j ≤ 3281 ∧ i = .int .i64 (2 * (j : Int)) ∧ Below w12.heap.size w12 wr) (fun i _ => 7000 - (intOf i).toNat)
  case atStart => exact ⟨0, by omega, rfl, Below.refl _ _⟩
  case round =>
    obtain ⟨j, hj, rfl, hb⟩ := hrel
    obtain ⟨w13, hw13⟩ : ∃ q, q = wr := ⟨_, rfl⟩
    subst hw13
    have H13 := Lib.hid (And.intro (H12.out.1.below hb (Nat.le_refl _)) (Bthen H12.out.2.2 hb))
    have HB12 := Lib.hid hb
    clear hb
    by_cases hlt : j < 3281
    · have dj : decide (2 * (j : Int) < 6561) = true := decide_eq_true (by omega)
      obtain ⟨n, hn⟩ : ∃ n : Nat, n = 2 * j := ⟨_, rfl⟩
      have hn2 : 2 * (j : Int) = (n : Int) := by omega
      rw [hn2] at dj ⊢
      have hn3 : n < 6561 := by omega
      have HN := Lib.hid (And.intro hn hn2)
      clear hn hn2 hlt hj
      obtain ⟨ia, hia, hia9⟩ : ∃ q : Nat, (n : Int).tmod 9 = (q : Int) ∧ q < 9 := ⟨n % 9, by rw [Int.tmod_eq_emod_of_nonneg (by omega)]; omega, by omega⟩
      obtain ⟨ib, hib, hib9⟩ : ∃ q : Nat, (IntKind.i64.wrap ((n : Int) / 9)).tmod 9 = (q : Int) ∧ q < 9 := ⟨n / 9 % 9, by rw [IntWalk.i64_in _ (by omega), Int.tmod_eq_emod_of_nonneg (by omega)]; omega, by omega⟩
      obtain ⟨ic, hic, hic9⟩ : ∃ q : Nat, (IntKind.i64.wrap ((n : Int) / 81)).tmod 9 = (q : Int) ∧ q < 9 := ⟨n / 81 % 9, by rw [IntWalk.i64_in _ (by omega), Int.tmod_eq_emod_of_nonneg (by omega)]; omega, by omega⟩
      obtain ⟨ie, hie, hie9⟩ : ∃ q : Nat, IntKind.i64.wrap ((n : Int) / 729) = (q : Int) ∧ q < 9 := ⟨n / 729, by rw [IntWalk.i64_in _ (by omega)]; omega, by omega⟩
      obtain ⟨ya, hya⟩ : ∃ q, PL[ia]? = some q := ⟨_, List.getElem?_eq_getElem (by omega)⟩
      obtain ⟨yb, hyb⟩ : ∃ q, PL[ib]? = some q := ⟨_, List.getElem?_eq_getElem (by omega)⟩
      obtain ⟨yc, hyc⟩ : ∃ q, PL[ic]? = some q := ⟨_, List.getElem?_eq_getElem (by omega)⟩
      obtain ⟨yd, hyd⟩ : ∃ q, PL[ie]? = some q := ⟨_, List.getElem?_eq_getElem (by omega)⟩
      have HY := Lib.hid (And.intro (List.mem_of_getElem? hya) (And.intro (List.mem_of_getElem? hyb) (And.intro (List.mem_of_getElem? hyc) (List.mem_of_getElem? hyd))))
      have hPl : P < w13.heap.size := by
        obtain ⟨b, off, e, hl, _⟩ := H13.out.1.at_ hya
        cases e
        exact hl
      have HSK : Hid (∀ w' : World, Below w13.heap.size w13 w' → w'.cell? ⟨P, ia * 6, none⟩ = some (.slice ya.la ya.e.lab.length ya.lc) ∧ w'.cell? ⟨P, ia * 6 + 1, none⟩ = some (.bool ya.e.mark) ∧ w'.cell? ⟨P, ia * 6 + 2, none⟩ = some (.int .u64 ya.e.bits) ∧ w'.cell? ⟨P, ia * 6 + 3, none⟩ = some (.bool ya.e.st) ∧ w'.cell? ⟨P, ia * 6 + 4, none⟩ = some (.int .i64 ya.e.time) ∧ w'.cell? ⟨P, ia * 6 + 5, none⟩ = some (.int .i64 ya.e.stamp) ∧ w'.cell? ⟨P, ib * 6, none⟩ = some (.slice yb.la yb.e.lab.length yb.lc) ∧ w'.cell? ⟨P, ib * 6 + 1, none⟩ = some (.bool yb.e.mark) ∧ w'.cell? ⟨P, ib * 6 + 2, none⟩ = some (.int .u64 yb.e.bits) ∧ w'.cell? ⟨P, ib * 6 + 3, none⟩ = some (.bool yb.e.st) ∧ w'.cell? ⟨P, ib * 6 + 4, none⟩ = some (.int .i64 yb.e.time) ∧ w'.cell? ⟨P, ib * 6 + 5, none⟩ = some (.int .i64 yb.e.stamp) ∧ w'.cell? ⟨P, ic * 6, none⟩ = some (.slice yc.la yc.e.lab.length yc.lc) ∧ w'.cell? ⟨P, ic * 6 + 1, none⟩ = some (.bool yc.e.mark) ∧ w'.cell? ⟨P, ic * 6 + 2, none⟩ = some (.int .u64 yc.e.bits) ∧ w'.cell? ⟨P, ic * 6 + 3, none⟩ = some (.bool yc.e.st) ∧ w'.cell? ⟨P, ic * 6 + 4, none⟩ = some (.int .i64 yc.e.time) ∧ w'.cell? ⟨P, ic * 6 + 5, none⟩ = some (.int .i64 yc.e.stamp) ∧ w'.cell? ⟨P, ie * 6, none⟩ = some (.slice yd.la yd.e.lab.length yd.lc) ∧ w'.cell? ⟨P, ie * 6 + 1, none⟩ = some (.bool yd.e.mark) ∧ w'.cell? ⟨P, ie * 6 + 2, none⟩ = some (.int .u64 yd.e.bits) ∧ w'.cell? ⟨P, ie * 6 + 3, none⟩ = some (.bool yd.e.st) ∧ w'.cell? ⟨P, ie * 6 + 4, none⟩ = some (.int .i64 yd.e.time) ∧ w'.cell? ⟨P, ie * 6 + 5, none⟩ = some (.int .i64 yd.e.stamp)) := Lib.hid (fun w' hb => by
        have hr := H13.out.1.below hb (Nat.le_refl _)
        obtain ⟨_, _, ea, _, _, ha⟩ := hr.at_ hya
        obtain ⟨_, _, eb, _, _, hb⟩ := hr.at_ hyb
        obtain ⟨_, _, ec, _, _, hc⟩ := hr.at_ hyc
        obtain ⟨_, _, ed, _, _, hd⟩ := hr.at_ hyd
        cases ea
        cases eb
        cases ec
        cases ed
        simp only [Nat.zero_add] at ha hb hc hd
        exact ⟨ha 0 _ rfl, ha 1 _ rfl, ha 2 _ rfl, ha 3 _ rfl, ha 4 _ rfl, ha 5 _ rfl, hb 0 _ rfl, hb 1 _ rfl, hb 2 _ rfl, hb 3 _ rfl, hb 4 _ rfl, hb 5 _ rfl, hc 0 _ rfl, hc 1 _ rfl, hc 2 _ rfl, hc 3 _ rfl, hc 4 _ rfl, hc 5 _ rfl, hd 0 _ rfl, hd 1 _ rfl, hd 2 _ rfl, hd 3 _ rfl, hd 4 _ rfl, hd 5 _ rfl⟩)
      have za : (0 : Int) ≤ (ia : Int) := by omega
      have zb : (0 : Int) ≤ (ib : Int) := by omega
      have zc : (0 : Int) ≤ (ic : Int) := by omega
      have ze : (0 : Int) ≤ (ie : Int) := by omega
      have ya9 : (ia : Int) < 9 := by omega
      have yb9 : (ib : Int) < 9 := by omega
      have yc9 : (ic : Int) < 9 := by omega
      have ye9 : (ie : Int) < 9 := by omega
      clear hya hyb hyc hyd
      go_wp2_with fail
      go_cut [5, 6, 7, 8] (fun s5 s6 s7 s8 wx => ∃ g5 g6 g7 g8, s5 = .pointer (some ⟨g5, 0, none⟩) ∧ s6 = .pointer (some ⟨g6, 0, none⟩) ∧ s7 = .pointer (some ⟨g7, 0, none⟩) ∧ s8 = .pointer (some ⟨g8, 0, none⟩) ∧ R6 ya yb yc yd w13 g5 g6 g7 g8 wx)
      case first =>
        refine wp_region_held_drew (S := fun w' : World => w'.cell? ⟨P, ia * 6, none⟩ = some (.slice ya.la ya.e.lab.length ya.lc) ∧ w'.cell? ⟨P, ia * 6 + 1, none⟩ = some (.bool ya.e.mark) ∧ w'.cell? ⟨P, ia * 6 + 2, none⟩ = some (.int .u64 ya.e.bits) ∧ w'.cell? ⟨P, ia * 6 + 3, none⟩ = some (.bool ya.e.st) ∧ w'.cell? ⟨P, ia * 6 + 4, none⟩ = some (.int .i64 ya.e.time) ∧ w'.cell? ⟨P, ia * 6 + 5, none⟩ = some (.int .i64 ya.e.stamp) ∧ w'.cell? ⟨P, ib * 6, none⟩ = some (.slice yb.la yb.e.lab.length yb.lc) ∧ w'.cell? ⟨P, ib * 6 + 1, none⟩ = some (.bool yb.e.mark) ∧ w'.cell? ⟨P, ib * 6 + 2, none⟩ = some (.int .u64 yb.e.bits) ∧ w'.cell? ⟨P, ib * 6 + 3, none⟩ = some (.bool yb.e.st) ∧ w'.cell? ⟨P, ib * 6 + 4, none⟩ = some (.int .i64 yb.e.time) ∧ w'.cell? ⟨P, ib * 6 + 5, none⟩ = some (.int .i64 yb.e.stamp) ∧ w'.cell? ⟨P, ic * 6, none⟩ = some (.slice yc.la yc.e.lab.length yc.lc) ∧ w'.cell? ⟨P, ic * 6 + 1, none⟩ = some (.bool yc.e.mark) ∧ w'.cell? ⟨P, ic * 6 + 2, none⟩ = some (.int .u64 yc.e.bits) ∧ w'.cell? ⟨P, ic * 6 + 3, none⟩ = some (.bool yc.e.st) ∧ w'.cell? ⟨P, ic * 6 + 4, none⟩ = some (.int .i64 yc.e.time) ∧ w'.cell? ⟨P, ic * 6 + 5, none⟩ = some (.int .i64 yc.e.stamp) ∧ w'.cell? ⟨P, ie * 6, none⟩ = some (.slice yd.la yd.e.lab.length yd.lc) ∧ w'.cell? ⟨P, ie * 6 + 1, none⟩ = some (.bool yd.e.mark) ∧ w'.cell? ⟨P, ie * 6 + 2, none⟩ = some (.int .u64 yd.e.bits) ∧ w'.cell? ⟨P, ie * 6 + 3, none⟩ = some (.bool yd.e.st) ∧ w'.cell? ⟨P, ie * 6 + 4, none⟩ = some (.int .i64 yd.e.time) ∧ w'.cell? ⟨P, ie * 6 + 5, none⟩ = some (.int .i64 yd.e.stamp)) (by kernel_rfl) ?_ (fun hHeld => ?_)
        · exact HSK.out _ (Below.refl _ _).drew
        refine wpAnyH_take (i := 0) (oi := ⟨_, _, _, _, _, _⟩) (v := _) rfl (by kernel_rfl) (by kernel_rfl) (by kernel_rfl) (fun _ _ _ h => h) (Or.inl ⟨by rfl, by intro wq hSw; (try dsimp only at hSw); go_simp; (try with_reducible rfl)⟩) (by assumption) ?_
        try simp only [Act.put, List.setIfInBounds_toArray, List.set_cons_zero, List.set_cons_succ]
        refine wpAnyH_take (i := 1) (oi := ⟨_, _, _, _, _, _⟩) (v := _) rfl (by kernel_rfl) (by kernel_rfl) (by kernel_rfl) (fun _ _ _ h => h) (Or.inl ⟨by rfl, by intro wq hSw; (try dsimp only at hSw); go_simp; (try with_reducible rfl)⟩) (by assumption) ?_
        try simp only [Act.put, List.setIfInBounds_toArray, List.set_cons_zero, List.set_cons_succ]
        refine wpAnyH_take (i := 2) (oi := ⟨_, _, _, _, _, _⟩) (v := _) rfl (by kernel_rfl) (by kernel_rfl) (by kernel_rfl) (fun _ _ _ h => h) (Or.inl ⟨by rfl, by intro wq hSw; (try dsimp only at hSw); go_simp; (try with_reducible rfl)⟩) (by assumption) ?_
        try simp only [Act.put, List.setIfInBounds_toArray, List.set_cons_zero, List.set_cons_succ]
        refine wpAnyH_take (i := 3) (oi := ⟨_, _, _, _, _, _⟩) (v := _) rfl (by kernel_rfl) (by kernel_rfl) (by kernel_rfl) (fun _ _ _ h => h) (Or.inl ⟨by rfl, by intro wq hSw; (try dsimp only at hSw); go_simp; (try with_reducible rfl)⟩) (by assumption) ?_
        try simp only [Act.put, List.setIfInBounds_toArray, List.set_cons_zero, List.set_cons_succ]
        refine wpAnyH_take (i := 4) (oi := ⟨_, _, _, _, _, _⟩) (v := _) rfl (by kernel_rfl) (by kernel_rfl) (by kernel_rfl) (fun _ _ _ h => h) (Or.inl ⟨by rfl, by intro wq hSw; (try dsimp only at hSw); go_simp; (try with_reducible rfl)⟩) (by assumption) ?_
        try simp only [Act.put, List.setIfInBounds_toArray, List.set_cons_zero, List.set_cons_succ]
        refine wpAnyH_take (i := 5) (oi := ⟨_, _, _, _, _, _⟩) (v := _) rfl (by kernel_rfl) (by kernel_rfl) (by kernel_rfl) (fun _ _ _ h => h) (Or.inl ⟨by rfl, by intro wq hSw; (try dsimp only at hSw); go_simp; (try with_reducible rfl)⟩) (by assumption) ?_
        try simp only [Act.put, List.setIfInBounds_toArray, List.set_cons_zero, List.set_cons_succ]
        refine wpAnyH_take (i := 6) (oi := ⟨_, _, _, _, _, _⟩) (v := _) rfl (by kernel_rfl) (by kernel_rfl) (by kernel_rfl) (fun _ _ _ h => h) (Or.inl ⟨by rfl, by intro wq hSw; (try dsimp only at hSw); go_simp; (try with_reducible rfl)⟩) (by assumption) ?_
        try simp only [Act.put, List.setIfInBounds_toArray, List.set_cons_zero, List.set_cons_succ]
        refine wpAnyH_take (i := 7) (oi := ⟨_, _, _, _, _, _⟩) (v := _) rfl (by kernel_rfl) (by kernel_rfl) (by kernel_rfl) (fun _ _ _ h => h) (Or.inl ⟨by rfl, by intro wq hSw; (try dsimp only at hSw); go_simp; (try with_reducible rfl)⟩) (by assumption) ?_
        try simp only [Act.put, List.setIfInBounds_toArray, List.set_cons_zero, List.set_cons_succ]
        refine wpAnyH_take (i := 8) (oi := ⟨_, _, _, _, _, _⟩) (v := _) rfl (by kernel_rfl) (by kernel_rfl) (by kernel_rfl) (fun _ _ _ h => h) (Or.inl ⟨by rfl, by intro wq hSw; (try dsimp only at hSw); go_simp; (try with_reducible rfl)⟩) (by assumption) ?_
        try simp only [Act.put, List.setIfInBounds_toArray, List.set_cons_zero, List.set_cons_succ]
        refine wpAnyH_take (i := 9) (oi := ⟨_, _, _, _, _, _⟩) (v := _) rfl (by kernel_rfl) (by kernel_rfl) (by kernel_rfl) (fun _ _ _ h => h) (Or.inl ⟨by rfl, by intro wq hSw; (try dsimp only at hSw); go_simp; (try with_reducible rfl)⟩) (by assumption) ?_
        try simp only [Act.put, List.setIfInBounds_toArray, List.set_cons_zero, List.set_cons_succ]
        refine wpAnyH_take (i := 10) (oi := ⟨_, _, _, _, _, _⟩) (v := _) rfl (by kernel_rfl) (by kernel_rfl) (by kernel_rfl) (fun _ _ _ h => h) (Or.inl ⟨by rfl, by intro wq hSw; (try dsimp only at hSw); go_simp; (try with_reducible rfl)⟩) (by assumption) ?_
        try simp only [Act.put, List.setIfInBounds_toArray, List.set_cons_zero, List.set_cons_succ]
        refine wpAnyH_take (i := 11) (oi := ⟨_, _, _, _, _, _⟩) (v := _) rfl (by kernel_rfl) (by kernel_rfl) (by kernel_rfl) (fun _ _ _ h => h) (Or.inl ⟨by rfl, by intro wq hSw; (try dsimp only at hSw); go_simp; (try with_reducible rfl)⟩) (by assumption) ?_
        try simp only [Act.put, List.setIfInBounds_toArray, List.set_cons_zero, List.set_cons_succ]
        refine wpAnyH_take (i := 12) (oi := ⟨_, _, _, _, _, _⟩) (v := _) rfl (by kernel_rfl) (by kernel_rfl) (by kernel_rfl) (fun _ _ _ h => h) (Or.inl ⟨by rfl, by intro wq hSw; (try dsimp only at hSw); go_simp; (try with_reducible rfl)⟩) (by assumption) ?_
        try simp only [Act.put, List.setIfInBounds_toArray, List.set_cons_zero, List.set_cons_succ]
        refine wpAnyH_take (i := 13) (oi := ⟨_, _, _, _, _, _⟩) (v := _) rfl (by kernel_rfl) (by kernel_rfl) (by kernel_rfl) (fun _ _ _ h => h) (Or.inl ⟨by rfl, by intro wq hSw; (try dsimp only at hSw); go_simp; (try with_reducible rfl)⟩) (by assumption) ?_
        try simp only [Act.put, List.setIfInBounds_toArray, List.set_cons_zero, List.set_cons_succ]
        refine wpAnyH_take (i := 14) (oi := ⟨_, _, _, _, _, _⟩) (v := _) rfl (by kernel_rfl) (by kernel_rfl) (by kernel_rfl) (fun _ _ _ h => h) (Or.inl ⟨by rfl, by intro wq hSw; (try dsimp only at hSw); go_simp; (try with_reducible rfl)⟩) (by assumption) ?_
        try simp only [Act.put, List.setIfInBounds_toArray, List.set_cons_zero, List.set_cons_succ]
        refine wpAnyH_take (i := 15) (oi := ⟨_, _, _, _, _, _⟩) (v := _) rfl (by kernel_rfl) (by kernel_rfl) (by kernel_rfl) (fun _ _ _ h => h) (Or.inl ⟨by rfl, by intro wq hSw; (try dsimp only at hSw); go_simp; (try with_reducible rfl)⟩) (by assumption) ?_
        try simp only [Act.put, List.setIfInBounds_toArray, List.set_cons_zero, List.set_cons_succ]
        refine wpAnyH_take (i := 16) (oi := ⟨_, _, _, _, _, _⟩) (v := _) rfl (by kernel_rfl) (by kernel_rfl) (by kernel_rfl) (fun _ _ _ h => h) (Or.inl ⟨by rfl, by intro wq hSw; (try dsimp only at hSw); go_simp; (try with_reducible rfl)⟩) (by assumption) ?_
        try simp only [Act.put, List.setIfInBounds_toArray, List.set_cons_zero, List.set_cons_succ]
        refine wpAnyH_take (i := 17) (oi := ⟨_, _, _, _, _, _⟩) (v := _) rfl (by kernel_rfl) (by kernel_rfl) (by kernel_rfl) (fun _ _ _ h => h) (Or.inl ⟨by rfl, by intro wq hSw; (try dsimp only at hSw); go_simp; (try with_reducible rfl)⟩) (by assumption) ?_
        try simp only [Act.put, List.setIfInBounds_toArray, List.set_cons_zero, List.set_cons_succ]
        refine wpAnyH_take (i := 18) (oi := ⟨_, _, _, _, _, _⟩) (v := _) rfl (by kernel_rfl) (by kernel_rfl) (by kernel_rfl) (fun _ _ _ h => h) (Or.inl ⟨by rfl, by intro wq hSw; (try dsimp only at hSw); go_simp; (try with_reducible rfl)⟩) (by assumption) ?_
        try simp only [Act.put, List.setIfInBounds_toArray, List.set_cons_zero, List.set_cons_succ]
        refine wpAnyH_take (i := 19) (oi := ⟨_, _, _, _, _, _⟩) (v := _) rfl (by kernel_rfl) (by kernel_rfl) (by kernel_rfl) (fun _ _ _ h => h) (Or.inl ⟨by rfl, by intro wq hSw; (try dsimp only at hSw); go_simp; (try with_reducible rfl)⟩) (by assumption) ?_
        try simp only [Act.put, List.setIfInBounds_toArray, List.set_cons_zero, List.set_cons_succ]
        refine wpAnyH_take (i := 20) (oi := ⟨_, _, _, _, _, _⟩) (v := _) rfl (by kernel_rfl) (by kernel_rfl) (by kernel_rfl) (fun _ _ _ h => h) (Or.inl ⟨by rfl, by intro wq hSw; (try dsimp only at hSw); go_simp; (try with_reducible rfl)⟩) (by assumption) ?_
        try simp only [Act.put, List.setIfInBounds_toArray, List.set_cons_zero, List.set_cons_succ]
        refine wpAnyH_take (i := 21) (oi := ⟨_, _, _, _, _, _⟩) (v := _) rfl (by kernel_rfl) (by kernel_rfl) (by kernel_rfl) (fun _ _ _ h => h) (Or.inl ⟨by rfl, by intro wq hSw; (try dsimp only at hSw); go_simp; (try with_reducible rfl)⟩) (by assumption) ?_
        try simp only [Act.put, List.setIfInBounds_toArray, List.set_cons_zero, List.set_cons_succ]
        refine wpAnyH_at (m := 8) (l0 := LB6 false false false false false false false false) (fun A => putF A u5 u6 u7 u8) (by rfl) (by kernel_rfl) (by rfl) ?_
        intro A hA
        refine region6 (F := putF A) (w0 := w13) (y5 := ya) (y6 := yb) (y7 := yc) (y8 := yd) (q5 := 40) (q6 := 46) (q7 := 52) (q8 := 57) ?_ ?_ ?_ ?_ ?_ ?_ ?_ ?_ ?_ ?_ ?_ ?_ ?_ ?_ ?_ ?_ ?_ ?_ ?_ ?_ ?_
        · decide +kernel
        · decide +kernel
        iterate 8 (· exact ⟨_, rfl, rfl, rfl, rfl⟩)
        · subst hA; exact fun _ _ _ _ _ => rfl
        · subst hA; exact fun _ _ _ _ => ⟨rfl, rfl⟩
        · subst hA; exact fun _ _ _ _ _ => rfl
        · subst hA; exact fun _ _ _ _ => ⟨rfl, rfl⟩
        · subst hA; exact fun _ _ _ _ _ => rfl
        · subst hA; exact fun _ _ _ _ => ⟨rfl, rfl⟩
        · subst hA; exact fun _ _ _ _ _ => rfl
        · subst hA; exact fun _ _ _ _ => ⟨rfl, rfl⟩
        · exact fun wz hz => HSK.out wz hz
        rotate_left
        · exact (Below.refl _ _).drew
        subst hA
        intro g5 g6 g7 g8 wz hz h5 h6 h7 h8
        have HZ := Lib.hid (R6.mk h5 h6 h7 h8 hz)
        clear h5 h6 h7 h8 hz
        unfold putF
        simp only [Act.put, List.setIfInBounds_toArray, List.set_cons_zero, List.set_cons_succ]
        go_wp2_with fail
        go_meet
        exact ⟨g5, g6, g7, g8, rfl, rfl, rfl, rfl, HZ.out⟩
      case rest =>
      obtain ⟨w14, hw14⟩ : ∃ q, q = wc := ⟨_, rfl⟩
      subst hw14
      obtain ⟨g5, g6, g7, g8, h5, h6, h7, h8, hR6⟩ := hcut
      subst h5
      subst h6
      subst h7
      subst h8
      have H14 := Lib.hid hR6
      have HB14 := Lib.hid (Bthen H13.out.2 hR6.bel)
      have HLB : Hid (∀ W, Below w14.heap.size w14 W → ∀ x ∈ [ya, yb, yc, yd], RdL W x.la x.e.lab) := Lib.hid (fun W hb x hx => by
        have hr := H13.out.1.below (Bthen H14.out.bel hb) (Nat.le_refl _)
        simp only [List.mem_cons, List.not_mem_nil, or_false] at hx
        rcases hx with rfl | rfl | rfl | rfl
        · exact (hr.lab _ HY.out.1).rd
        · exact (hr.lab _ HY.out.2.1).rd
        · exact (hr.lab _ HY.out.2.2.1).rd
        · exact (hr.lab _ HY.out.2.2.2).rd)
      have HSM : Hid (∀ x ∈ [ya, yb, yc, yd], SmE x.e ∧ (x.la = none → x.lc = 0)) := Lib.hid (fun x hx => by
        simp only [List.mem_cons, List.not_mem_nil, or_false] at hx
        rcases hx with rfl | rfl | rfl | rfl
        · exact ⟨H12.out.2.1 _ HY.out.1, fun e => ((H12.out.1.lab _ HY.out.1).nil e).2⟩
        · exact ⟨H12.out.2.1 _ HY.out.2.1, fun e => ((H12.out.1.lab _ HY.out.2.1).nil e).2⟩
        · exact ⟨H12.out.2.1 _ HY.out.2.2.1, fun e => ((H12.out.1.lab _ HY.out.2.2.1).nil e).2⟩
        · exact ⟨H12.out.2.1 _ HY.out.2.2.2, fun e => ((H12.out.1.lab _ HY.out.2.2.2).nil e).2⟩)
      obtain ⟨p0, p1, p2, p3, p4, p5, p6⟩ := en_cells hR6.b5
      obtain ⟨q0, q1, q2, q3, q4, q5, q6⟩ := en_cells hR6.b6
      obtain ⟨r0, r1, r2, r3, r4, r5, r6⟩ := en_cells hR6.b7
      obtain ⟨t0, t1, t2, t3, t4, t5, t6⟩ := en_cells hR6.b8
      obtain ⟨im, him, him6⟩ : ∃ q : Nat, (n : Int).tmod 6 = (q : Int) ∧ q < 6 := ⟨n % 6, by rw [Int.tmod_eq_emod_of_nonneg (by omega)]; omega, by omega⟩
      clear hR6 hia hib hic hie hPl hia9 hib9 hic9 hie9 za zb zc ze ya9 yb9 yc9 ye9 HSK H13
      go_wp2_with fail
      go_at_call 23
      refine at_worldS ?_
      intro WX hWX
      obtain ⟨hC, hbX⟩ := rndC_rd (HLB.out w14 (Below.refl _ _)) (show WX = _ from hWX)
      have hcall := tells_calls (some ⟨w14.heap.size + 1 + 1 + 1, 0, none⟩) 3 (rndC k1 k2 w14.heap.size ya yb yc yd) k2 ((im : Int) - 1) WX ((HE.out.1.below HB14.out).below hbX) hC
        (fun x hx => by unfold rndC at hx; simp only [List.mem_cons, List.not_mem_nil, or_false] at hx; rcases hx with rfl | rfl | rfl; (show k1.size ≤ _; rw [HK1.out]; decide); (show k2.size ≤ _; rw [HK2.out]; decide); (show k1.size ≤ _; rw [HK1.out]; decide))
        (fun x hx => ents_ok (fun y hy => (HSM.out y (rndC_mem hx hy)).1)) (fun x hx y hy => (HSM.out y (rndC_mem hx hy)).2) (by unfold rndC; simp) (by unfold rndC sumC; simp) (by rw [HK2.out]; decide) (by omega) (by omega)
      have HBX := Lib.hid hbX
      clear hWX hC hbX p0 p1 p2 p3 p4 p5 p6 q0 q1 q2 q3 q4 q5 q6 r0 r1 r2 r3 r4 r5 r6 t0 t1 t2 t3 t4 t5 t6
      refine hcall.mono ?_
      clear hcall
      rintro e w16 ⟨rfl, hb16⟩
      have h16 := H14.out.below (Bthen HBX.out hb16)
      have H16 := Lib.hid (And.intro h16 (Bthen HBX.out hb16))
      have HB16 := Lib.hid (Bthen HB14.out (Bthen HBX.out hb16))
      obtain ⟨p0, p1, p2, p3, p4, p5, p6⟩ := en_cells h16.b5
      obtain ⟨q0, q1, q2, q3, q4, q5, q6⟩ := en_cells h16.b6
      obtain ⟨r0, r1, r2, r3, r4, r5, r6⟩ := en_cells h16.b7
      obtain ⟨t0, t1, t2, t3, t4, t5, t6⟩ := en_cells h16.b8
      clear hb16 h16 HBX HB14
      have hrel : Value.int IntKind.i64 ((n : Int) + 2) = Value.int IntKind.i64 (2 * ((j + 1 : Nat) : Int)) := by
        have := HN.out.2
        congr 1
        omega
      have HREL := Lib.hid (And.intro hrel (show j + 1 ≤ 3281 by have := HN.out.1; omega))
      clear hrel
      obtain ⟨i3, hi3⟩ : ∃ q : Nat, (n : Int).tmod 3 = (q : Int) := ⟨n % 3, by rw [Int.tmod_eq_emod_of_nonneg (by omega)]; omega⟩
      by_cases h3 : i3 = 0
      · have h3' : ((i3 : Int) == 0) = true := by rw [h3]; rfl
        have HI3 := Lib.hid h3
        clear h3
        go_wp2_with fail
        go_at_call 24
        refine at_worldS ?_
        intro WY hWY
        obtain ⟨hJ, hbY⟩ := rndI_rd (k1 := k1) (k2 := k2) (fun x hx => HLB.out w16 H16.out.2 x hx) (show WY = _ from hWY)
        have hcall := checks_calls (some ⟨w16.heap.size, 0, none⟩) 4 (rndI k1 k2 ya yb yc yd) WY ((HE.out.1.below HB16.out).below hbY) hJ (items_ok (fun x hx => by
            have hx2 : x.key = k1 ∨ x.key = k2 := by
              unfold rndI at hx; simp only [List.mem_cons, List.not_mem_nil, or_false] at hx; rcases hx with rfl | rfl | rfl | rfl <;> simp
            rcases hx2 with e | e <;> rw [e]
            · rw [HK1.out]; decide
            · rw [HK2.out]; decide) (fun x hx => by
            unfold rndI at hx; simp only [List.mem_cons, List.not_mem_nil, or_false] at hx
            rcases hx with rfl | rfl | rfl | rfl
            · exact (HSM.out ya (by simp)).1
            · exact (HSM.out yb (by simp)).1
            · exact (HSM.out yc (by simp)).1
            · exact (HSM.out yd (by simp)).1)) (by show 4 ≤ _; decide)
        have HBY := Lib.hid hbY
        clear hWY hJ hbY p0 p1 p2 p3 p4 p5 p6 q0 q1 q2 q3 q4 q5 q6 r0 r1 r2 r3 r4 r5 r6 t0 t1 t2 t3 t4 t5 t6
        refine hcall.mono ?_
        clear hcall
        rintro e w17 ⟨rfl, hb17⟩
        have H17 := Lib.hid (show Below w12.heap.size w12 w17 from Bthen HB12.out (Bthen H16.out.1.bel (Bthen HBY.out hb17)))
        clear hb17
        go_wp2_with fail
        go_roundw
        case rel => exact ⟨j + 1, HREL.out.2, HREL.out.1, H17.out⟩
        case measure => have := HN.out.1; simp [intOf]; omega
      · have h3' : ((i3 : Int) == 0) = false := by rw [beq_eq_false_iff_ne]; omega
        have H17 := Lib.hid (show Below w12.heap.size w12 w16 from Bthen HB12.out H16.out.1.bel)
        clear h3 p0 p1 p2 p3 p4 p5 p6 q0 q1 q2 q3 q4 q5 q6 r0 r1 r2 r3 r4 r5 r6 t0 t1 t2 t3 t4 t5 t6
        go_wp2_with fail
        go_roundw
        case rel => exact ⟨j + 1, HREL.out.2, HREL.out.1, H17.out⟩
        case measure => have := HN.out.1; simp [intOf]; omega
    · obtain ⟨nE, hnE⟩ : ∃ x : Int, 2 * (j : Int) = x := ⟨_, rfl⟩
      rw [hnE]
      have dj : decide (nE < 6561) = false := decide_eq_false (by omega)
      clear hnE
      have HW12 := Lib.hid (Bthen H12.out.2.2 HB12.out)
      clear hj hlt
      go_wp2_with fail
      obtain ⟨NB, hNB⟩ : ∃ q, q = w13.heap.size := ⟨_, rfl⟩
      obtain ⟨wB, hwB⟩ : ∃ q, q = w13.alloc (.cells (numL.map (Value.int .i64)).toArray 3) := ⟨_, rfl⟩
      have hrowB : wB.heap[NB]? = some (.cells (numL.map (Value.int .i64)).toArray 3 (0, 0)) := by rw [hwB, hNB]; exact heap_alloc_new w13 _
      have hbB : Below w13.heap.size w13 wB := by rw [hwB]; exact (Below.refl _ _).alloc (Nat.le_refl _) _
      rw [show w13.alloc (.cells #[.int .i64 (-9223372036854775808), .int .i64 (-1), .int .i64 0, .int .i64 1, .int .i64 562949953421313, .int .i64 562949953421314, .int .i64 9223372036854775807] 3) = wB from hwB.symm, ← hNB]
      have HWB := Lib.hid (And.intro hrowB (Bthen HW12.out hbB))
      clear hNB hwB hrowB hbB HW12 dj
      go_loopw [103] (fun i wr => ∃ q : Nat, q ≤ 7 ∧ i = .int .i64 q ∧ Below wB.heap.size wB wr) (fun i _ => 7 - (intOf i).toNat)
      case atStart => exact ⟨0, by omega, rfl, Below.refl _ _⟩
      case round =>
        obtain ⟨q, hq, rfl, hb⟩ := hrel
        obtain ⟨v0, hv0⟩ : ∃ q, q = wr := ⟨_, rfl⟩
        subst hv0
        have HV := Lib.hid hb
        clear hb
        by_cases hq7 : q < 7
        · obtain ⟨nv, hnv⟩ : ∃ x, numL[q]? = some x := ⟨_, List.getElem?_eq_getElem hq7⟩
          have hnin := numL_in nv (List.mem_of_getElem? hnv)
          have hrow := (HV.out.block _ (isT_of HWB.out.1).lt).trans HWB.out.1
          have hcell : v0.cell? ⟨NB, q, none⟩ = some (.int .i64 nv) := block_cell hrow q _ (by rw [List.getElem?_toArray, List.getElem?_map, hnv]; rfl)
          have hbl := (isT_of hrow).lt
          have dq : decide ((q : Int) < 7) = true := decide_eq_true (by omega)
          obtain ⟨bu, hbu, bu0, bu1⟩ : ∃ x : Int, IntKind.u64.wrap nv = x ∧ 0 ≤ x ∧ x < 18446744073709551616 := ⟨_, rfl, by rw [IntKind.wrap_u64]; omega, by rw [IntKind.wrap_u64]; omega⟩
          have HNV := Lib.hid (And.intro hnin (And.intro bu0 bu1))
          clear hnv hrow hnin bu0 bu1
          go_wp2_with fail
          go_at_call 9
          refine (lone_s ⟨#[120]⟩ ⟨#[49]⟩ v0).mono ?_
          rintro e v1 ⟨m0, rfl, hl, hb⟩
          have HM0 := Lib.hid (And.intro (show Ll v1 m0 1 x1L from hl) (Bthen HV.out hb))
          clear hl hb
          go_wp2_with fail
          go_at_call 9
          refine (lone_s ⟨#[120]⟩ ⟨#[49]⟩ v1).mono ?_
          rintro e v2 ⟨m1, rfl, hl, hb⟩
          have HM1 := Lib.hid (show (Ll v2 m0 1 x1L ∧ Ll v2 m1 1 x1L) ∧ Below wB.heap.size wB v2 from ⟨⟨HM0.out.1.below hb (Nat.le_refl _), hl⟩, Bthen HM0.out.2 hb⟩)
          clear HM0
          clear hl hb
          go_wp2_with fail
          go_at_call 9
          refine (lone_s ⟨#[120]⟩ ⟨#[49]⟩ v2).mono ?_
          rintro e v3 ⟨m2, rfl, hl, hb⟩
          have HM2 := Lib.hid (show (Ll v3 m0 1 x1L ∧ Ll v3 m1 1 x1L ∧ Ll v3 m2 1 x1L) ∧ Below wB.heap.size wB v3 from ⟨⟨HM1.out.1.1.below hb (Nat.le_refl _), HM1.out.1.2.below hb (Nat.le_refl _), hl⟩, Bthen HM1.out.2 hb⟩)
          clear HM1
          clear hl hb
          go_wp2_with fail
          go_at_call 9
          refine (lone_s ⟨#[120]⟩ ⟨#[49]⟩ v3).mono ?_
          rintro e v4 ⟨m3, rfl, hl, hb⟩
          have HM3 := Lib.hid (show (Ll v4 m0 1 x1L ∧ Ll v4 m1 1 x1L ∧ Ll v4 m2 1 x1L ∧ Ll v4 m3 1 x1L) ∧ Below wB.heap.size wB v4 from ⟨⟨HM2.out.1.1.below hb (Nat.le_refl _), HM2.out.1.2.1.below hb (Nat.le_refl _), HM2.out.1.2.2.below hb (Nat.le_refl _), hl⟩, Bthen HM2.out.2 hb⟩)
          clear HM2
          clear hl hb
          go_wp2_with fail
          go_at_call 9
          refine (lone_s ⟨#[120]⟩ ⟨#[]⟩ v4).mono ?_
          rintro e v5 ⟨m4, rfl, hl, hb⟩
          have HM4 := Lib.hid (show (Ll v5 m0 1 x1L ∧ Ll v5 m1 1 x1L ∧ Ll v5 m2 1 x1L ∧ Ll v5 m3 1 x1L ∧ Ll v5 m4 1 [(xB, ⟨#[]⟩)]) ∧ Below wB.heap.size wB v5 from ⟨⟨HM3.out.1.1.below hb (Nat.le_refl _), HM3.out.1.2.1.below hb (Nat.le_refl _), HM3.out.1.2.2.1.below hb (Nat.le_refl _), HM3.out.1.2.2.2.below hb (Nat.le_refl _), hl⟩, Bthen HM3.out.2 hb⟩)
          clear HM3
          clear hl hb
          go_wp2_with fail
          go_at_call 9
          refine (lone_s ⟨#[49]⟩ ⟨#[120]⟩ v5).mono ?_
          rintro e v6 ⟨m5, rfl, hl, hb⟩
          have HM5 := Lib.hid (show (Ll v6 m0 1 x1L ∧ Ll v6 m1 1 x1L ∧ Ll v6 m2 1 x1L ∧ Ll v6 m3 1 x1L ∧ Ll v6 m4 1 [(xB, ⟨#[]⟩)] ∧ Ll v6 m5 1 [(⟨#[49]⟩, xB)]) ∧ Below wB.heap.size wB v6 from ⟨⟨HM4.out.1.1.below hb (Nat.le_refl _), HM4.out.1.2.1.below hb (Nat.le_refl _), HM4.out.1.2.2.1.below hb (Nat.le_refl _), HM4.out.1.2.2.2.1.below hb (Nat.le_refl _), HM4.out.1.2.2.2.2.below hb (Nat.le_refl _), hl⟩, Bthen HM4.out.2 hb⟩)
          clear HM4
          clear hl hb
          go_wp2_with fail
          refine wp_world ?_
          intro v7 hv7
          obtain ⟨L7, hL7⟩ : ∃ q, q = sevE nv bu m0 m1 m2 m3 m4 m5 := ⟨_, rfl⟩
          have hll : ∀ x ∈ L7, Ll v6 x.la x.lc x.e.lab := by
            rw [hL7]
            unfold sevE
            simp only [List.mem_cons, List.not_mem_nil, or_false]
            obtain ⟨h0, h1, h2, h3, h4, h5⟩ := HM5.out.1
            rintro x (rfl | rfl | rfl | rfl | rfl | rfl | rfl)
            · exact h0
            · exact ⟨fun h => absurd rfl h, fun _ => ⟨rfl, rfl⟩, fun h => absurd rfl h⟩
            all_goals assumption
          have hrd : RdE v7 (some ⟨v6.heap.size, 0, none⟩) L7 := by rw [hv7, hL7]; exact RdE.new v6 _ _ (by rfl) (hL7 ▸ hll)
          have hsm : ∀ x ∈ L7, SmE x.e := by rw [hL7]; exact sevE_ok HNV.out.1.1 HNV.out.1.2 HNV.out.2.1 HNV.out.2.2
          have hb7 : Below v6.heap.size v6 v7 := by rw [hv7]; exact (Below.refl _ _).alloc (Nat.le_refl _) _
          have hl7 : L7.length = 7 := by rw [hL7]; rfl
          obtain ⟨MB, hMB⟩ : ∃ q, q = v6.heap.size := ⟨_, rfl⟩
          rw [← hMB] at hrd ⊢
          have H7 := Lib.hid (And.intro hrd (And.intro hsm (Bthen HM5.out.2 hb7)))
          have HW7 := Lib.hid (Bthen HWB.out.2 (Bthen HM5.out.2 hb7))
          clear hrd hsm hb7 hL7 hMB hll hv7 HM5 hcell hbl dq hbu
          have hnv0 := HNV.out.1.1
          have hnv1 := HNV.out.1.2
          go_loopw [128] (fun i wr => ∃ r : Nat, r ≤ 7 ∧ i = .int .i64 r ∧ Below v7.heap.size v7 wr) (fun i _ => 7 - (intOf i).toNat)
          case atStart => exact ⟨0, by omega, rfl, Below.refl _ _⟩
          case round =>
            obtain ⟨r, hr, rfl, hb⟩ := hrel
            obtain ⟨v8, hv8⟩ : ∃ q, q = wr := ⟨_, rfl⟩
            subst hv8
            have H8 := Lib.hid hb
            clear hb
            by_cases hr7 : r < 7
            · obtain ⟨y, hy⟩ : ∃ x, L7[r]? = some x := ⟨_, List.getElem?_eq_getElem (by omega)⟩
              have hrd := H7.out.1.below H8.out (Nat.le_refl _)
              obtain ⟨b, off, e, hbl, ht, hc⟩ := hrd.at_ hy
              cases e
              simp only [Nat.zero_add] at hc
              have hym := List.mem_of_getElem? hy
              have HY := Lib.hid (And.intro (H7.out.2.1 y hym) (hrd.lab y hym))
              have c0 := hc 0 _ rfl
              rw [Nat.add_zero] at c0
              have c1 := hc 1 _ rfl
              have c2 := hc 2 _ rfl
              have c3 := hc 3 _ rfl
              have c4 := hc 4 _ rfl
              have c5 := hc 5 _ rfl
              have dr : decide ((r : Int) < 7) = true := decide_eq_true (by omega)
              clear hc hy hym ht hrd
              go_wp2_with fail
              refine wp_world ?_
              intro v9 hv9
              obtain ⟨YB, hYB⟩ : ∃ q, q = v8.heap.size := ⟨_, rfl⟩
              obtain ⟨NB2, hNB2⟩ : ∃ q, q = v8.heap.size + 1 := ⟨_, rfl⟩
              have hbx : v9.heap[YB]? = some (.cells (enA y) 34 (0, 0)) := by rw [hv9, hYB]; exact al_old (heap_alloc_new v8 _)
              have hrw : v9.heap[NB2]? = some (.cells ((namL k1).map Value.string).toArray 9 (0, 0)) := by
                have h1 : (v8.alloc (.cells (enA y) 34)).heap.size = v8.heap.size + 1 := by simp
                rw [hv9, hNB2, ← h1]
                exact heap_alloc_new _ _
              have hb9 : Below v8.heap.size v8 v9 := by rw [hv9]; exact ((Below.refl _ _).alloc (Nat.le_refl _) _).alloc (by simp) _
              rw [← hNB2, ← hYB]
              have H9 := Lib.hid (And.intro hbx (And.intro hrw (Bthen H8.out hb9)))
              have HY9 : Hid (∀ W, Below v9.heap.size v9 W → RdL W y.la y.e.lab) := Lib.hid (fun W hW => (HY.out.2.below (Bthen hb9 hW) (Nat.le_refl _)).rd)
              have HW9 := Lib.hid (Bthen HW7.out (Bthen H8.out hb9))
              clear hbx hrw hb9 hYB hNB2 hv9 c0 c1 c2 c3 c4 c5 dr hbl
              go_loopw [135] (fun i wr => ∃ q : Nat, q ≤ 8 ∧ i = .int .i64 q ∧ Below v9.heap.size v9 wr) (fun i _ => 8 - (intOf i).toNat)
              case atStart => exact ⟨0, by omega, rfl, Below.refl _ _⟩
              case round =>
                obtain ⟨t, ht, rfl, hb⟩ := hrel
                obtain ⟨v10, hv10⟩ : ∃ q, q = wr := ⟨_, rfl⟩
                subst hv10
                have H10 := Lib.hid hb
                have HW10 := Lib.hid (Bthen HW9.out hb)
                clear hb
                by_cases ht8 : t < 8
                · obtain ⟨nm, hnm⟩ : ∃ x, (namL k1)[t]? = some x := ⟨_, List.getElem?_eq_getElem ht8⟩
                  have hns : nm.size ≤ 100 := namL_in (by rw [HK1.out]; decide) nm (List.mem_of_getElem? hnm)
                  have hrow := (H10.out.block _ (isT_of H9.out.2.1).lt).trans H9.out.2.1
                  have hbox := (H10.out.block _ (isT_of H9.out.1).lt).trans H9.out.1
                  have hcell : v10.cell? ⟨NB2, t, none⟩ = some (.string nm) := block_cell hrow t _ (by rw [List.getElem?_toArray, List.getElem?_map, hnm]; rfl)
                  have hbl2 := (isT_of hrow).lt
                  obtain ⟨p0, p1, p2, p3, p4, p5, p6⟩ := en_cells hbox
                  have dt : decide ((t : Int) < 8) = true := decide_eq_true (by omega)
                  have HBX := Lib.hid hbox
                  clear hnm hrow hbox
                  go_wp2_with fail
                  go_at_call 24
                  refine at_worldS ?_
                  intro WA hWA
                  have hbA : Below v10.heap.size v10 WA := by rw [hWA]; exact (Below.refl _ _).alloc (Nat.le_refl _) _
                  have hJ : RdJ WA (some ⟨v10.heap.size, 0, none⟩) [⟨nm, y.la, y.lc, y.e⟩] := by
                    have h1 := heap_alloc_new v10 (.cells #[.string nm, .slice y.la y.e.lab.length y.lc, .bool y.e.mark, .int .u64 y.e.bits, .bool y.e.st, .int .i64 y.e.time, .int .i64 y.e.stamp] 40)
                    rw [← hWA] at h1
                    exact rdJ_blk h1 rfl (fun z hz => by rw [List.mem_singleton.1 hz]; exact HY9.out WA (Bthen H10.out hbA))
                  have hcall := checks_calls (some ⟨v10.heap.size, 0, none⟩) 1 [⟨nm, y.la, y.lc, y.e⟩] WA ((HE.out.1.below HW10.out).below hbA) hJ (items_ok (fun x hx => by rw [List.mem_singleton.1 hx]; exact hns) (fun x hx => by rw [List.mem_singleton.1 hx]; exact HY.out.1)) (by show 1 ≤ _; decide)
                  have HWA := Lib.hid hbA
                  clear hWA hbA hJ p0 p1 p2 p3 p4 p5 p6 hcell dt hbl2
                  refine hcall.mono ?_
                  clear hcall
                  rintro e v11 ⟨rfl, hb11⟩
                  have H11 := Lib.hid (Bthen HWA.out hb11)
                  have HW11 := Lib.hid (Bthen HW10.out H11.out)
                  have HX11 := Lib.hid ((H11.out.block _ (isT_of HBX.out).lt).trans HBX.out)
                  clear hb11 HWA
                  obtain ⟨p0, p1, p2, p3, p4, p5, p6⟩ := en_cells HX11.out
                  go_wp2_with fail
                  go_at_call 23
                  refine at_worldS ?_
                  intro WC hWC
                  obtain ⟨hC, hbC⟩ := twoC_rd (HY9.out v11 (Bthen H10.out H11.out)) (show WC = _ from hWC)
                  have hcall := tells_calls (some ⟨v11.heap.size + 1, 0, none⟩) 2 (twoC nm v11.heap.size y) nm nv WC ((HE.out.1.below HW11.out).below hbC) hC
                    (fun x hx => by unfold twoC at hx; simp only [List.mem_cons, List.not_mem_nil, or_false] at hx; rcases hx with rfl | rfl <;> exact Nat.le_trans hns (by decide))
                    (fun x hx => ents_ok (fun z hz => by
                      unfold twoC at hx; simp only [List.mem_cons, List.not_mem_nil, or_false] at hx
                      rcases hx with rfl | rfl
                      · rw [List.mem_singleton.1 hz]; exact HY.out.1
                      · cases hz))
                    (fun x hx z hz => by
                      unfold twoC at hx; simp only [List.mem_cons, List.not_mem_nil, or_false] at hx
                      rcases hx with rfl | rfl
                      · rw [List.mem_singleton.1 hz]; exact fun e => (HY.out.2.nil e).2
                      · cases hz) (by unfold twoC; simp) (by unfold twoC sumC; simp) (Nat.le_trans hns (by decide)) hnv0 hnv1
                  have HWC := Lib.hid hbC
                  clear hWC hC hbC p0 p1 p2 p3 p4 p5 p6
                  refine hcall.mono ?_
                  clear hcall
                  rintro e v12 ⟨rfl, hb12⟩
                  have H12b := Lib.hid (Bthen H11.out (Bthen HWC.out hb12))
                  have HW12b := Lib.hid (Bthen HW10.out H12b.out)
                  have HX12 := Lib.hid ((H12b.out.block _ (isT_of HBX.out).lt).trans HBX.out)
                  clear hb12 HWC H11 HW11 HX11
                  obtain ⟨p0, p1, p2, p3, p4, p5, p6⟩ := en_cells HX12.out
                  go_wp2_with fail
                  go_at_call 26
                  clear p0 p1 p2 p3 p4 p5 p6
                  refine (theirs_calls nm y.la y.e.lab.length y.lc y.e.mark y.e.st y.e.bits y.e.time y.e.stamp v12).mono ?_
                  rintro e v13 ⟨rfl, hb13⟩
                  have H13b := Lib.hid (Bthen H12b.out hb13)
                  clear hb13 HX12
                  go_wp2_with fail
                  go_at_call 25
                  have hcall := rtext_calls nm y.la y.lc y.e v13 (Nat.le_trans hns (by decide)) (HY9.out v13 (Bthen H10.out H13b.out)) (Nat.le_trans HY.out.1.ln (by decide)) HY.out.1.z HY.out.1.rg
                  obtain ⟨tx, htx⟩ : ∃ t : ByteArray, t = ⟨(textT (d nm) y.e).toArray⟩ := ⟨_, rfl⟩
                  obtain ⟨er, her⟩ : ∃ t : Int, t = textErr (d nm) y.e := ⟨_, rfl⟩
                  rw [← htx, ← her] at hcall
                  clear htx her
                  refine hcall.mono ?_
                  clear hcall
                  rintro e v14 ⟨rfl, hb14⟩
                  have H14b := Lib.hid (Bthen H13b.out hb14)
                  have HW14 := Lib.hid (Bthen HW10.out H14b.out)
                  have HR14 := Lib.hid (Bthen H10.out H14b.out)
                  clear hb14 H13b H12b HW12b
                  cases hez : (er == 0) with
                  | true =>
                    go_wp2_with fail
                    go_at_call 27
                    refine (reads_calls tx v14 (HE.out.1.below HW14.out) (HE.out.2.below HW14.out)).mono ?_
                    rintro e v15 ⟨rfl, hb15⟩
                    have H15 := Lib.hid (Bthen HR14.out hb15)
                    clear hb15
                    go_wp2_with fail
                    go_roundw
                    case rel => exact ⟨t + 1, by omega, by go_num, H15.out⟩
                    case measure => simp [intOf]; omega
                  | false =>
                    go_wp2_with fail
                    go_roundw
                    case rel => exact ⟨t + 1, by omega, by go_num, HR14.out⟩
                    case measure => simp [intOf]; omega
                · have HZ := Lib.hid (Bthen H9.out.2.2 H10.out)
                  have dt : decide ((t : Int) < 8) = false := decide_eq_false (by omega)
                  go_wp2_with fail
                  go_roundw
                  case rel => exact ⟨r + 1, by omega, by go_num, HZ.out⟩
                  case measure => simp [intOf]; omega
            · have HZ := Lib.hid (Bthen H7.out.2.2 H8.out)
              have dr : decide ((r : Int) < 7) = false := decide_eq_false (by omega)
              go_wp2_with fail
              go_roundw
              case rel => exact ⟨q + 1, by omega, by go_num, HZ.out⟩
              case measure => simp [intOf]; omega
        · have dq : decide ((q : Int) < 7) = false := decide_eq_false (by omega)
          have HZ := Lib.hid (Bthen HWB.out.2 HV.out)
          obtain ⟨x0, hx0⟩ : ∃ q, q = v0 := ⟨_, rfl⟩
          subst hx0
          go_wp2_with fail
          go_at_call 28
          have hk1 : k1 = kJ := by rw [HK1.out]; rfl
          rw [hk1]
          have HK := Lib.hid hk1
          have hZ := HZ.out
          clear hk1
          have HZ0 := Lib.hid hZ
          clear hZ
          refine (texts_calls x0 (HE.out.1.below HZ0.out) (HE.out.2.below HZ0.out)).mono ?_
          rintro e x1 ⟨rfl, hb1⟩
          have HZ1 := Lib.hid (Bthen HZ0.out hb1)
          clear hb1
          go_wp2_with fail
          go_at_call 29
          refine (full_calls kJ (by decide) (by kernel_rfl) x1 (HE.out.1.below HZ1.out)).mono ?_
          rintro e x2 ⟨rfl, hb2⟩
          have HZ2 := Lib.hid (Bthen HZ1.out hb2)
          clear hb2
          go_wp2_with fail
          go_at_call 30
          refine (lnone_calls kJ x2).mono ?_
          rintro e x3 ⟨rfl, hb3⟩
          have HZ3 := Lib.hid (Bthen HZ2.out hb3)
          clear hb3
          go_wp2_with fail
          go_at_call 5
          refine (awake_calls x3 (HE.out.1.below HZ3.out)).mono ?_
          rintro e x4 ⟨rfl, hb4⟩
          have HZ4 := Lib.hid (Bthen HZ3.out hb4)
          clear hb4
          go_wp2_with fail
          go_ret
          exact ⟨rfl, HZ4.out⟩
end Go.Proofs.YtdgfldeeflmnmaaGreatDoor.Sk
