/- Chapter 07: the law SyntaxWrong. -/
import Derived.Test.YtcklkjibhgbhiaaGreatDoorPTsP
namespace Go.Proofs.YtcklkjibhgbhiaaGreatDoor.Sy
open Go Go.RowKit
/-- a located tree in a box of its own -/
structure OneAt (w : World) (x : L) (A : Nat) (W : World) : Prop where
  bel : Below w.heap.size w W
  a : W.heap[A]? = some (.cells x.cs.toArray 27 (0, 0))
  r : RdT (fun _ => True) W x
theorem OneAt.next {w W W' : World} {x : L} {A : Nat} (h : OneAt w x A W) (hb : Below W.heap.size W W') : OneAt w x A W' :=
  ⟨h.bel.trans (hb.mono h.bel.size), (hb.block _ (isT_of h.a).lt).trans h.a, h.r.bel hb⟩
theorem one_part {P : Nat → Prop} {w W : World} {x : L} {E : Nat} {k mn mx : Int} {lz : Bool} (hx : RdT P w x) (hb : Below w.heap.size w W) (hE : W.heap[E]? = some (.cells x.cs.toArray 27 (0, 0))) (hPE : P E) (hk : 0 ≤ k ∧ k ≤ 255) (hmn : i64 mn) (hmx : i64 mx) :
    RdT P W (.mk k none 0 [] mn mx lz (some ⟨E, 0, none⟩) 1 [x]) :=
  RdT.node (l := [x]) hk hmn hmx (RdF.one hE) (by simp) (fun q e => by cases e; exact ⟨rfl, (isT_of hE).lt⟩) (fun q e => by cases e; exact hPE) (fun y hy => by rw [List.mem_singleton.1 hy]; exact hx.bel hb)
theorem size_al (W : World) (o : Obj) : (W.alloc o).heap.size = W.heap.size + 1 := by simp
theorem cd_world {P : Program} {c : Code} {Q : Exit → Act → World → Prop} {a : Act} {w : World} (h : ∀ W, W = w → Code.wp P c Q a W) : Code.wp P c Q a w := h _ rfl
/-- a tree that is wrong, in box D -/
def WrongAt (w : World) (t : T) (wy n : Int) (D : Nat) (W : World) : Prop := ∃ y : L, y.tree = wrongN t wy n ∧ W.heap[D]? = some (.cells y.cs.toArray 27 (0, 0)) ∧ RdT (fun b => b ≠ D) W y ∧ Below w.heap.size w W
theorem wrong_two {w w6 W7 w' : World} {x : L} {E D nc' : Nat} {na' : Option Addr} {o : Obj} {t : T} {wy n : Int} (hE6 : E = w6.heap.size) (hD6 : D = w6.heap.size + 1) (hDW : D < W7.heap.size) (hx : RdT (fun b => b ≠ D) w6 x)
    (hb7 : Below w6.heap.size w6 W7) (hbw : Below w.heap.size w w6) (hown : w'.ownsRow E 27 6 (.slice na' (1 + 1) nc') (1 + 1) (nFlat [x] ++ x.cs)) (hblk : (Value.slice na' (1 + 1) nc').ownBlock = some E ∨ (Value.slice na' (1 + 1) nc').ownBlock = some (W7.alloc o).heap.size)
    (hbel : ∀ w0, Below E w0 (W7.alloc o) → Below E w0 w') (gD : w'.heap[D]? = some (.cells #[.int .u8 6, .slice none 0 0, .int .i64 0, .int .i64 0, .bool false, .slice (some ⟨E, 0, none⟩) 1 1] 27 (0, 0))) (hq : wy / 10 % 6 = 2) (hX : x.tree = t) :
    WrongAt w t wy n D (w'.setCell ⟨D, 5, none⟩ (.slice na' (1 + 1) nc')) := by
  have hf := (Fr.refl (fun k => k = D) w').setCell (p := ⟨D, 5, none⟩) rfl (.slice na' (1 + 1) nc')
  have hb1 : Below w6.heap.size w6 w' := by
    rw [hE6] at hbel
    exact hbel _ (hb7.alloc hb7.size _)
  have hb := hb1.trans (hf.below (B := w6.heap.size) (fun k hk e => by omega) hb1.size)
  rw [size_al] at hblk
  rw [show nFlat [x] ++ x.cs = nFlat [x, x] by simp [nFlat]] at hown
  have hown' := own_fr hown hf (fun k hk e => by
    rw [hk] at hblk
    rcases hblk with h | h <;> cases h <;> omega)
  refine ⟨.mk 6 none 0 [] 0 0 false na' nc' [x, x], ?_, ?_, RdT.node (by omega) ⟨by omega, by omega⟩ ⟨by omega, by omega⟩ (RdF.of_own hown') (by simp) (fun q e => ?_) (fun q e => ?_) (fun y hy => ?_), hbw.trans (hb.mono hbw.size)⟩
  · unfold wrongN
    rw [if_neg (by omega), if_neg (by omega), if_pos hq, ← hX]; rfl
  · unfold World.setCell
    simp only [Array.getElem?_modify, gD]
    rfl
  · rcases own_cases hown' with ⟨_, e2, _⟩ | ⟨g, hg0, _, _, hT, _⟩
    · exact absurd e2 (by decide)
    · rw [hg0] at e
      cases e
      exact ⟨rfl, hT.lt⟩
  · subst e
    intro hqD
    rcases hblk with h | h
    · have h' : q.block = E := Option.some.inj h
      omega
    · have h' : q.block = W7.heap.size + 1 := Option.some.inj h
      omega
  · have hy' : y = x := by simpa using hy
    rw [hy']
    exact hx.bel hb
theorem wrong_cat {w wc W9 : World} {D : Nat} {ky : Int} {say : Option Addr} {scy : Nat} {sy : Rs.S} {mny mxy : Int} {lzy : Bool} {nay : Option Addr} {ncy : Nat} {ly : List L} (gy : wc.heap[D]? = some (.cells (L.mk ky say scy sy mny mxy lzy nay ncy ly).cs.toArray 27 (0, 0)))
    (hr : RdT (fun b => b ≠ D) wc (.mk ky say scy sy mny mxy lzy nay ncy ly)) (hb : Below w.heap.size w wc) (hD : w.heap.size ≤ D)
    (hW : W9 = (((((((wc.alloc (.cells #[.int .u8 1, .slice none 0 0, .int .i64 0, .int .i64 0, .bool false, .slice none 0 0, .int .u8 ky, .slice say sy.length scy, .int .i64 mny, .int .i64 mxy, .bool lzy, .slice nay ly.length ncy] 27)).setCell ⟨D, 0, none⟩ (.int .u8 3)).setCell ⟨D, 1, none⟩ (.slice none 0 0)).setCell ⟨D, 2, none⟩ (.int .i64 0)).setCell ⟨D, 3, none⟩ (.int .i64 0)).setCell ⟨D, 4, none⟩ (.bool false)).setCell ⟨D, 5, none⟩ (.slice (some ⟨wc.heap.size, 0, none⟩) 2 2))) :
    OneAt w (L.mk 3 none 0 [] 0 0 false (some ⟨wc.heap.size, 0, none⟩) 2 [.mk 1 none 0 [] 0 0 false none 0 [], .mk ky say scy sy mny mxy lzy nay ncy ly]) D W9 := by
  obtain ⟨V, hV⟩ : ∃ q, q = wc.alloc (.cells #[.int .u8 1, .slice none 0 0, .int .i64 0, .int .i64 0, .bool false, .slice none 0 0, .int .u8 ky, .slice say sy.length scy, .int .i64 mny, .int .i64 mxy, .bool lzy, .slice nay ly.length ncy] 27) := ⟨_, rfl⟩
  rw [← hV] at hW
  have hbV : Below wc.heap.size wc V := by rw [hV]; exact (Below.refl _ _).alloc (Nat.le_refl _) _
  have gV : V.heap[wc.heap.size]? = some (.cells #[.int .u8 1, .slice none 0 0, .int .i64 0, .int .i64 0, .bool false, .slice none 0 0, .int .u8 ky, .slice say sy.length scy, .int .i64 mny, .int .i64 mxy, .bool lzy, .slice nay ly.length ncy] 27 (0, 0)) := by rw [hV]; exact heap_alloc_new wc _
  have hDl := (isT_of gy).lt
  have gD := (hbV.block D hDl).trans gy
  have h6 : W9.heap[D]? = some (.cells #[.int .u8 3, .slice none 0 0, .int .i64 0, .int .i64 0, .bool false, .slice (some ⟨wc.heap.size, 0, none⟩) 2 2] 27 (0, 0)) := by rw [hW]; exact six_cells gD
  have hf : Fr (fun k => k = D) V W9 := by rw [hW]; exact six_frO (o := 0)
  have g9 := (hf.block wc.heap.size (isT_of gV).lt (by omega)).trans gV
  refine ⟨(hb.trans (hbV.mono hb.size)).trans (hf.below (B := w.heap.size) (fun k hk e => by omega) (hb.trans (hbV.mono hb.size)).size), h6, RdT.node (by omega) ⟨by omega, by omega⟩ ⟨by omega, by omega⟩ ?_ (by simp) (fun q e => ?_) (fun _ _ => trivial) (fun x hx => ?_)⟩
  · intro _
    refine ⟨wc.heap.size, 0, rfl, (isT_of g9).lt, fun j u hu => ?_⟩
    rw [Nat.zero_add]
    exact block_cell g9 j u (by simpa [nFlat, L.cs] using hu)
  · cases e; exact ⟨rfl, (isT_of g9).lt⟩
  · rcases List.mem_cons.1 hx with rfl | hx
    · exact RdT.empty _ _
    · rw [List.mem_singleton.1 hx]
      exact ((hr.bel hbV).fr hf (fun b hb _ e => hb e)).all
theorem badP_len (s : B) {w : Nat} (hw : w < 10) : (badP s w).length ≤ s.length + 6 := by
  rcases (show w = 0 ∨ w = 1 ∨ w = 2 ∨ w = 3 ∨ w = 4 ∨ w = 5 ∨ w = 6 ∨ w = 7 ∨ w = 8 ∨ w = 9 by omega) with rfl | rfl | rfl | rfl | rfl | rfl | rfl | rfl | rfl | rfl <;> simp [badP]
set_option maxRecDepth 100000 in
set_option maxHeartbeats 16000000 in
theorem wrong_law (a : Option Addr) (cap : Nat) (l : List Sm) (wy n : Int) (w : World) (hV : Vs w) (hrd : RdF w a (sFlat l)) (hnil : a = none → l = [] ∧ cap = 0) (hok : ∀ x ∈ l, SmOK x) (hl : l.length ≤ cap) (hcap : cap ≤ maxLen)
    (hwy : 0 ≤ wy ∧ wy ≤ 255) (hn : -9223372036854775808 ≤ n ∧ n ≤ 9223372036854775807) :
    Calls Tryz.prog 7 #[.slice a l.length cap, .int .u8 wy, .int .i64 n] w fun e w' => e = .returned (.bool true) ∧ Below w.heap.size w w' := by
  obtain ⟨N, hN⟩ : ∃ N : Nat, N = min l.length 15 := ⟨_, rfl⟩
  have HM : Hid (∀ W, Below w.heap.size w W → Calls Tryz.prog 10 #[.slice a N cap] W (GivesP (fun b => W.heap.size ≤ b) W (made (l.take 15)))) := Lib.hid (fun W h => made_take a cap l N 15 W (RdF.below hrd h) hnil hok hl hcap hN)
  obtain ⟨n1, hn1⟩ : ∃ q, q = l.length := ⟨_, rfl⟩
  rw [← hn1] at hl hN ⊢
  have hmin : min (n1 : Int) 15 = (N : Int) := by omega
  have hNn : N ≤ n1 := by omega
  unfold maxLen at hcap
  have HG := Lib.hid (made_ok (l.take 15))
  obtain ⟨T, hT⟩ : ∃ q, q = made (l.take 15) := ⟨_, rfl⟩
  rw [← hT] at HM HG
  have hcol := (made_good (l.take 15)).1.col
  rw [← hT] at hcol
  obtain ⟨u, hu⟩ : ∃ q, q = wr [] T := ⟨_, rfl⟩
  have hul : u.length ≤ 420 := by rw [hu]; exact HG.out.len
  obtain ⟨w0, hw0⟩ : ∃ q : Nat, wy % 10 = q := ⟨(wy % 10).toNat, by omega⟩
  have hw10 : w0 < 10 := by omega
  have HPE : Hid (parse (badP u w0) = .error 70) := Lib.hid (by rw [hu]; exact bad_all HG.out.right hcol (by have := HG.out.len; omega) w0 hw10)
  have HU := Lib.hid hu
  have HA := Lib.hid (awake_calls w hV)
  have HV := Lib.hid hV
  have HW := Lib.hid (And.intro hw0 hw10)
  clear hrd hnil hok hn1 hT hcol hu hV hN
  go_enter Tryz.func7, Tryz.ntmps7
  go_wp2_with fail
  go_at_call 9
  refine HA.out.mono ?_
  rintro e w1 ⟨rfl, hb1⟩
  have H1 := Lib.hid hb1
  clear hb1
  go_wp2_with fail
  go_at_call 10
  refine (HM.out w1 H1.out).mono ?_
  rintro e w2 ⟨⟨k1, sa1, sc1, s1, mn1, mx1, lz1, na1, nc1, l1⟩, rfl, hy1, hr1, hb2⟩
  rw [val_mk]
  have H2 := Lib.hid (And.intro (H1.out.trans (hb2.mono H1.out.size)) (And.intro hy1 hr1))
  clear hy1 hr1 hb2 hmin hNn hl hcap
  go_wp2_with fail
  refine at_world ?_
  intro W3 hW3
  obtain ⟨A, hA⟩ : ∃ q, q = w2.heap.size := ⟨_, rfl⟩
  rw [← hA]
  have hbW : Below w2.heap.size w2 W3 := by rw [hW3]; exact (Below.refl _ _).alloc (Nat.le_refl _) _
  have gA : W3.heap[A]? = some (.cells #[.int .u8 k1, .slice sa1 s1.length sc1, .int .i64 mn1, .int .i64 mx1, .bool lz1, .slice na1 l1.length nc1] 27 (0, 0)) := by
    rw [hW3, hA]
    exact heap_alloc_new w2 _
  have hT0 : OneAt w (L.mk k1 sa1 sc1 s1 mn1 mx1 lz1 na1 nc1 l1) A W3 := ⟨H2.out.1.trans (hbW.mono H2.out.1.size), gA, (H2.out.2.2.bel hbW).all⟩
  have HX : Hid (L.tree (L.mk k1 sa1 sc1 s1 mn1 mx1 lz1 na1 nc1 l1) = T) := Lib.hid H2.out.2.1
  clear hW3 hA hbW gA
  refine (text_made (L.mk k1 sa1 sc1 s1 mn1 mx1 lz1 na1 nc1 l1) T u w W3 HV.out hT0.bel hT0.r HX.out HG.out HU.out).mono ?_
  rintro e w4 ⟨rfl, hb4⟩
  have hT4 := hT0.next hb4
  have H4 := Lib.hid hT4
  clear hT0 hb4 hT4
  have ha0 : ∀ W, (Op.stringOp .add ⟨u.toArray⟩ ⟨#[41]⟩).run Tryz.prog W = .ok (.string ⟨(u ++ [41]).toArray⟩) W := fun W => run_string_add_lists W u [41] (by omega) (by simp)
  have ha1 : ∀ W, (Op.stringOp .add ⟨#[40]⟩ ⟨u.toArray⟩).run Tryz.prog W = .ok (.string ⟨(40 :: u).toArray⟩) W := fun W => run_string_add_lists W [40] u (by simp) (by omega)
  have ha2 : ∀ W, (Op.stringOp .add ⟨#[40, 63, 58]⟩ ⟨u.toArray⟩).run Tryz.prog W = .ok (.string ⟨(40 :: 63 :: 58 :: u).toArray⟩) W := fun W => run_string_add_lists W [40, 63, 58] u (by simp) (by omega)
  have ha3 : ∀ W, (Op.stringOp .add ⟨#[42]⟩ ⟨u.toArray⟩).run Tryz.prog W = .ok (.string ⟨(42 :: u).toArray⟩) W := fun W => run_string_add_lists W [42] u (by simp) (by omega)
  have ha4 : ∀ W, (Op.stringOp .add ⟨#[40, 63]⟩ ⟨u.toArray⟩).run Tryz.prog W = .ok (.string ⟨(40 :: 63 :: u).toArray⟩) W := fun W => run_string_add_lists W [40, 63] u (by simp) (by omega)
  have hb4 : ∀ W, (Op.stringOp .add ⟨(40 :: 63 :: u).toArray⟩ ⟨#[41]⟩).run Tryz.prog W = .ok (.string ⟨(40 :: 63 :: (u ++ [41])).toArray⟩) W := fun W => run_string_add_lists W (40 :: 63 :: u) [41] (by simp; omega) (by simp)
  have ha5 : ∀ W, (Op.stringOp .add ⟨#[97, 42, 42]⟩ ⟨u.toArray⟩).run Tryz.prog W = .ok (.string ⟨(97 :: 42 :: 42 :: u).toArray⟩) W := fun W => run_string_add_lists W [97, 42, 42] u (by simp) (by omega)
  have ha6 : ∀ W, (Op.stringOp .add ⟨u.toArray⟩ ⟨#[40, 97, 41, 63, 63, 43]⟩).run Tryz.prog W = .ok (.string ⟨(u ++ [40, 97, 41, 63, 63, 43]).toArray⟩) W := fun W => run_string_add_lists W u [40, 97, 41, 63, 63, 43] (by omega) (by simp)
  have ha7 : ∀ W, (Op.stringOp .add ⟨u.toArray⟩ ⟨#[94]⟩).run Tryz.prog W = .ok (.string ⟨(u ++ [94]).toArray⟩) W := fun W => run_string_add_lists W u [94] (by omega) (by simp)
  have ha8 : ∀ W, (Op.stringOp .add ⟨u.toArray⟩ ⟨#[255]⟩).run Tryz.prog W = .ok (.string ⟨(u ++ [255]).toArray⟩) W := fun W => run_string_add_lists W u [255] (by omega) (by simp)
  have ha9 : ∀ W, (Op.stringOp .add ⟨#[91, 93]⟩ ⟨u.toArray⟩).run Tryz.prog W = .ok (.string ⟨(91 :: 93 :: u).toArray⟩) W := fun W => run_string_add_lists W [91, 93] u (by simp) (by omega)
  have hel : ∀ h, ([.string ⟨((u ++ [41])).toArray⟩, .string ⟨(40 :: u).toArray⟩, .string ⟨(40 :: 63 :: 58 :: u).toArray⟩, .string ⟨(42 :: u).toArray⟩, .string ⟨(40 :: 63 :: (u ++ [41])).toArray⟩, .string ⟨(97 :: 42 :: 42 :: u).toArray⟩, .string ⟨((u ++ [40, 97, 41, 63, 63, 43])).toArray⟩, .string ⟨((u ++ [94])).toArray⟩, .string ⟨((u ++ [255])).toArray⟩, .string ⟨(91 :: 93 :: u).toArray⟩] : List Value)[w0]'h = .string ⟨(badP u w0).toArray⟩ := by
    intro h
    rcases (show w0 = 0 ∨ w0 = 1 ∨ w0 = 2 ∨ w0 = 3 ∨ w0 = 4 ∨ w0 = 5 ∨ w0 = 6 ∨ w0 = 7 ∨ w0 = 8 ∨ w0 = 9 by omega) with rfl | rfl | rfl | rfl | rfl | rfl | rfl | rfl | rfl | rfl <;> rfl
  go_wp2_with fail
  refine at_world ?_
  intro W4 hW4
  have hbW : Below w4.heap.size w4 W4 := by rw [hW4]; exact (Below.refl _ _).alloc (Nat.le_refl _) _
  have hT5 := H4.out.next hbW
  clear hW4 hbW
  refine (parse_erC ⟨(badP u w0).toArray⟩ 70 W4 (HV.out.below hT5.bel) (by have := badP_len u hw10; simp only [ByteArray.size, List.size_toArray]; omega) HPE.out).mono ?_
  rintro e w5 ⟨rfl, hb5⟩
  have hT6 := hT5.next hb5
  have H5 := Lib.hid hT6
  clear hT5 hb5 hT6 HPE ha0 ha1 ha2 ha3 ha4 ha5 ha6 ha7 ha8 ha9 hb4 hel
  have HZ := Lib.hid (fun W => same_all zeroL zeroL _ _ W (zero_rd (fun _ => True) W) (zero_rd (fun _ => True) W))
  go_wp2_with fail
  go_at_call 18
  refine (HZ.out _).mono ?_
  rintro e w6 ⟨rfl, hb6⟩
  have hT6 := H5.out.next (((Below.refl _ _).alloc (Nat.le_refl _) _).trans (hb6.mono (by simp)))
  have H6 := Lib.hid hT6
  have c0 : w6.cell? ⟨A, 0, none⟩ = some (.int .u8 k1) := block_cell hT6.a 0 _ rfl
  have c1 : w6.cell? ⟨A, 1, none⟩ = some (.slice sa1 s1.length sc1) := block_cell hT6.a 1 _ rfl
  have c2 : w6.cell? ⟨A, 2, none⟩ = some (.int .i64 mn1) := block_cell hT6.a 2 _ rfl
  have c3 : w6.cell? ⟨A, 3, none⟩ = some (.int .i64 mx1) := block_cell hT6.a 3 _ rfl
  have c4 : w6.cell? ⟨A, 4, none⟩ = some (.bool lz1) := block_cell hT6.a 4 _ rfl
  have c5 : w6.cell? ⟨A, 5, none⟩ = some (.slice na1 l1.length nc1) := block_cell hT6.a 5 _ rfl
  clear hb6 hT6
  rw [same_self]
  go_upto_region 12 with fail
  refine cd_world ?_
  intro W7 hW7
  obtain ⟨E, hE⟩ : ∃ q, q = w6.heap.size := ⟨_, rfl⟩
  obtain ⟨D, hD⟩ : ∃ q, q = w6.heap.size + 1 := ⟨_, rfl⟩
  rw [← hD, ← hE]
  have hb7 : Below w6.heap.size w6 W7 := by rw [hW7]; exact ((Below.refl _ _).alloc (Nat.le_refl _) _).alloc (by simp) _
  have gE : W7.heap[E]? = some (.cells #[.int .u8 k1, .slice sa1 s1.length sc1, .int .i64 mn1, .int .i64 mx1, .bool lz1, .slice na1 l1.length nc1] 27 (0, 0)) := by
    rw [hW7, hE]
    exact (((Below.refl (w6.alloc _).heap.size _).alloc (Nat.le_refl _) _).block _ (by simp)).trans (heap_alloc_new w6 _)
  have gD : W7.heap[D]? = some (.cells #[.int .u8 6, .slice none 0 0, .int .i64 0, .int .i64 0, .bool false, .slice (some ⟨E, 0, none⟩) 1 1] 27 (0, 0)) := by
    rw [hW7, hD, hE]
    have := heap_alloc_new (w6.alloc (.cells #[.int .u8 k1, .slice sa1 s1.length sc1, .int .i64 mn1, .int .i64 mx1, .bool lz1, .slice na1 l1.length nc1] 27)) (.cells #[.int .u8 6, .slice none 0 0, .int .i64 0, .int .i64 0, .bool false, .slice (some ⟨w6.heap.size, 0, none⟩) 1 1] 27)
    simpa using this
  have hx : RdT (fun b => b ≠ D) w6 (L.mk k1 sa1 sc1 s1 mn1 mx1 lz1 na1 nc1 l1) := H6.out.r.mono (fun b _ hlt => by omega)
  have hED : E ≠ D := by omega
  have h7 := H6.out.next hb7
  have H7 := Lib.hid (And.intro gE (And.intro gD (And.intro hx (And.intro hb7 (And.intro h7 (And.intro hE hD))))))
  have HED := Lib.hid hED
  clear hW7 hE hD hb7 gE gD hx hED h7 c0 c1 c2 c3 c4 c5
  have hmod : (wy.tdiv 10).tmod 6 = wy / 10 % 6 := by
    rw [Int.tdiv_eq_ediv_of_nonneg hwy.1, Int.tmod_eq_emod_of_nonneg (by omega)]
  go_cut [82] (fun s82 wx => s82 = .int .u8 (wy / 10 % 6) ∧ W7 = wx)
  case first =>
    go_wp2_with fail
    go_meet
    exact ⟨rfl, rfl⟩
  case rest =>
  obtain ⟨rfl, rfl⟩ := hcut
  apply_assumption
  clear hmod
  go_cut [] from 82 to 115 (fun wx => WrongAt w T wy n D wx)
  case first =>
    have d0 : W7.cell? ⟨D, 0, none⟩ = some (.int .u8 6) := block_cell H7.out.2.1 0 _ rfl
    have d1 : W7.cell? ⟨D, 1, none⟩ = some (.slice none 0 0) := block_cell H7.out.2.1 1 _ rfl
    have d2 : W7.cell? ⟨D, 2, none⟩ = some (.int .i64 0) := block_cell H7.out.2.1 2 _ rfl
    have d3 : W7.cell? ⟨D, 3, none⟩ = some (.int .i64 0) := block_cell H7.out.2.1 3 _ rfl
    have d4 : W7.cell? ⟨D, 4, none⟩ = some (.bool false) := block_cell H7.out.2.1 4 _ rfl
    have d5 : W7.cell? ⟨D, 5, none⟩ = some (.slice (some ⟨E, 0, none⟩) 1 1) := block_cell H7.out.2.1 5 _ rfl
    have f0 := block_froz H7.out.2.1 0
    have f2 := block_froz H7.out.2.1 2
    have f3 := block_froz H7.out.2.1 3
    have f4 := block_froz H7.out.2.1 4
    have f5 := block_froz H7.out.2.1 5
    obtain ⟨q0, hq0⟩ : ∃ q, q = wy / 10 % 6 := ⟨_, rfl⟩
    rcases (show wy / 10 % 6 = 0 ∨ wy / 10 % 6 = 1 ∨ wy / 10 % 6 = 2 ∨ wy / 10 % 6 = 3 ∨ wy / 10 % 6 = 4 ∨ wy / 10 % 6 = 5 by omega) with hq | hq | hq | hq | hq | hq
    · go_wp2_with fail
      go_meet
      have hf := ((Fr.refl (fun k => k = D) W7).setCell (p := ⟨D, 2, none⟩) rfl (.int .i64 (max n 1)))
      have hb := H7.out.2.2.2.1.trans (hf.below (B := w6.heap.size) (fun k hk e => by have := H7.out.2.2.2.2.2.2; omega) H7.out.2.2.2.1.size)
      refine ⟨.mk 6 none 0 [] (max n 1) 0 false (some ⟨E, 0, none⟩) 1 [(L.mk k1 sa1 sc1 s1 mn1 mx1 lz1 na1 nc1 l1)], ?_, ?_, one_part H7.out.2.2.1 hb ((hf.block _ (isT_of H7.out.1).lt (fun e => HED.out e)).trans H7.out.1) HED.out (by omega) ⟨by omega, by omega⟩ ⟨by omega, by omega⟩, H6.out.bel.trans (hb.mono H6.out.bel.size)⟩
      · unfold wrongN
        rw [if_pos hq]
        rw [← HX.out]; rfl
      · unfold World.setCell
        simp only [Array.getElem?_modify, H7.out.2.1]
        rfl
    · go_wp2_with fail
      go_meet
      have hf := ((Fr.refl (fun k => k = D) W7).setCell (p := ⟨D, 0, none⟩) rfl (.int .u8 (max wy 7)))
      have hb := H7.out.2.2.2.1.trans (hf.below (B := w6.heap.size) (fun k hk e => by have := H7.out.2.2.2.2.2.2; omega) H7.out.2.2.2.1.size)
      refine ⟨.mk (max wy 7) none 0 [] 0 0 false (some ⟨E, 0, none⟩) 1 [(L.mk k1 sa1 sc1 s1 mn1 mx1 lz1 na1 nc1 l1)], ?_, ?_, one_part H7.out.2.2.1 hb ((hf.block _ (isT_of H7.out.1).lt (fun e => HED.out e)).trans H7.out.1) HED.out (by omega) ⟨by omega, by omega⟩ ⟨by omega, by omega⟩, H6.out.bel.trans (hb.mono H6.out.bel.size)⟩
      · unfold wrongN
        rw [if_neg (by omega), if_pos hq]
        rw [← HX.out]; rfl
      · unfold World.setCell
        simp only [Array.getElem?_modify, H7.out.2.1]
        rfl
    · have a0 : W7.cell? ⟨A, 0, none⟩ = some (.int .u8 k1) := block_cell H7.out.2.2.2.2.1.a 0 _ rfl
      have a1 : W7.cell? ⟨A, 1, none⟩ = some (.slice sa1 s1.length sc1) := block_cell H7.out.2.2.2.2.1.a 1 _ rfl
      have a2 : W7.cell? ⟨A, 2, none⟩ = some (.int .i64 mn1) := block_cell H7.out.2.2.2.2.1.a 2 _ rfl
      have a3 : W7.cell? ⟨A, 3, none⟩ = some (.int .i64 mx1) := block_cell H7.out.2.2.2.2.1.a 3 _ rfl
      have a4 : W7.cell? ⟨A, 4, none⟩ = some (.bool lz1) := block_cell H7.out.2.2.2.2.1.a 4 _ rfl
      have a5 : W7.cell? ⟨A, 5, none⟩ = some (.slice na1 l1.length nc1) := block_cell H7.out.2.2.2.2.1.a 5 _ rfl
      obtain ⟨q1, hq1⟩ : ∃ q : Nat, q = 1 := ⟨_, rfl⟩
      obtain ⟨q2, hq2⟩ : ∃ q : Nat, q = 1 := ⟨_, rfl⟩
      have d5' : W7.cell? ⟨D, 5, none⟩ = some (.slice (some ⟨E, 0, none⟩) q1 q2) := by rw [hq1, hq2]; exact d5
      have HO : Hid (∀ o, (W7.alloc o).ownsRow E 27 6 (.slice (some ⟨E, 0, none⟩) q1 q2) q1 (nFlat [(L.mk k1 sa1 sc1 s1 mn1 mx1 lz1 na1 nc1 l1)])) := Lib.hid (fun o => by
        rw [hq1, hq2]
        exact ⟨by rw [nFlat_length]; rfl, .inr ⟨E, 1, _, rfl, Nat.le_refl _, (((Below.refl _ _).alloc (Nat.le_refl _) o).block E (isT_of H7.out.1).lt).trans H7.out.1, Nat.le_refl _, by unfold maxLen; omega, rfl, rfl⟩⟩)
      have HG7 : Hid (∀ o, (W7.alloc o).heap[D]? = some (.cells #[.int .u8 6, .slice none 0 0, .int .i64 0, .int .i64 0, .bool false, .slice (some ⟨E, 0, none⟩) 1 1] 27 (0, 0)) ∧ D < (W7.alloc o).heap.size) := Lib.hid (fun o => ⟨(((Below.refl _ _).alloc (Nat.le_refl _) o).block D (isT_of H7.out.2.1).lt).trans H7.out.2.1, by have := (isT_of H7.out.2.1).lt; simp; omega⟩)
      have HQ := Lib.hid hq1
      clear hq1 hq2 d5
      go_wp2_with (at_builtin; refine wpList_app rfl _ _ 25 27 6 80 _ rfl Tryz.underlying25 infoNode rfl (by decide) (by decide) E (.slice (some ⟨E, 0, none⟩) q1 q2) q1 (nFlat [(L.mk k1 sa1 sc1 s1 mn1 mx1 lz1 na1 nc1 l1)]) rfl (HO.out _) ⟨W7.heap.size, 0, none⟩ 1 1 [.int .u8 k1, .slice sa1 s1.length sc1, .int .i64 mn1, .int .i64 mx1, .bool lz1, .slice na1 l1.length nc1] rfl rfl (cells_new W7 #[.int .u8 k1, .slice sa1 s1.length sc1, .int .i64 mn1, .int .i64 mx1, .bool lz1, .slice na1 l1.length nc1] _ _ (by simp)) (cs_one (L.mk k1 sa1 sc1 s1 mn1 mx1 lz1 na1 nc1 l1)) (by have := HQ.out; omega) (by have := (isT_of H7.out.1).lt; simp; omega) ?_; intro v' w' hown hgrow hblk hbel; obtain ⟨na', nc', rfl⟩ := own_form hown; have gD' : w'.heap[D]? = some (.cells #[.int .u8 6, .slice none 0 0, .int .i64 0, .int .i64 0, .bool false, .slice (some ⟨E, 0, none⟩) 1 1] 27 (0, 0)) := (hgrow.block D (HG7.out _).2 (fun e => HED.out (by injection e with e; exact e.symm))).trans (HG7.out _).1; have e0 : w'.cell? ⟨D, 0, none⟩ = some (.int .u8 6) := block_cell gD' 0 _ rfl; have e1 : w'.cell? ⟨D, 1, none⟩ = some (.slice none 0 0) := block_cell gD' 1 _ rfl; have e2 : w'.cell? ⟨D, 2, none⟩ = some (.int .i64 0) := block_cell gD' 2 _ rfl; have e3 : w'.cell? ⟨D, 3, none⟩ = some (.int .i64 0) := block_cell gD' 3 _ rfl; have e4 : w'.cell? ⟨D, 4, none⟩ = some (.bool false) := block_cell gD' 4 _ rfl; have e5 : w'.cell? ⟨D, 5, none⟩ = some (.slice (some ⟨E, 0, none⟩) 1 1) := block_cell gD' 5 _ rfl; have g5 := block_froz gD' 5; have HV2 := Lib.hid (And.intro hown (And.intro hblk (And.intro hbel gD'))); clear hown hgrow hblk hbel gD')
      go_meet
      obtain rfl := HQ.out
      exact wrong_two (x := (L.mk k1 sa1 sc1 s1 mn1 mx1 lz1 na1 nc1 l1)) H7.out.2.2.2.2.2.1 H7.out.2.2.2.2.2.2 (isT_of H7.out.2.1).lt H7.out.2.2.1 H7.out.2.2.2.1 H6.out.bel HV2.out.1 HV2.out.2.1 HV2.out.2.2.1 HV2.out.2.2.2 hq HX.out
    · go_wp2_with fail
      go_meet
      have hf := ((((Fr.refl (fun k => k = D) W7).setCell (p := ⟨D, 0, none⟩) rfl (.int .u8 5)).setCell (p := ⟨D, 2, none⟩) rfl (.int .i64 (max n 2))).setCell (p := ⟨D, 3, none⟩) rfl (.int .i64 1))
      have hb := H7.out.2.2.2.1.trans (hf.below (B := w6.heap.size) (fun k hk e => by have := H7.out.2.2.2.2.2.2; omega) H7.out.2.2.2.1.size)
      refine ⟨.mk 5 none 0 [] (max n 2) 1 false (some ⟨E, 0, none⟩) 1 [(L.mk k1 sa1 sc1 s1 mn1 mx1 lz1 na1 nc1 l1)], ?_, ?_, one_part H7.out.2.2.1 hb ((hf.block _ (isT_of H7.out.1).lt (fun e => HED.out e)).trans H7.out.1) HED.out (by omega) ⟨by omega, by omega⟩ ⟨by omega, by omega⟩, H6.out.bel.trans (hb.mono H6.out.bel.size)⟩
      · unfold wrongN
        rw [if_neg (by omega), if_neg (by omega), if_neg (by omega), if_pos hq]
        rw [← HX.out]; rfl
      · unfold World.setCell
        simp only [Array.getElem?_modify, H7.out.2.1]
        rfl
    · go_wp2_with fail
      go_meet
      have hf := (((Fr.refl (fun k => k = D) W7).setCell (p := ⟨D, 0, none⟩) rfl (.int .u8 5)).setCell (p := ⟨D, 3, none⟩) rfl (.int .i64 (max n 1001)))
      have hb := H7.out.2.2.2.1.trans (hf.below (B := w6.heap.size) (fun k hk e => by have := H7.out.2.2.2.2.2.2; omega) H7.out.2.2.2.1.size)
      refine ⟨.mk 5 none 0 [] 0 (max n 1001) false (some ⟨E, 0, none⟩) 1 [(L.mk k1 sa1 sc1 s1 mn1 mx1 lz1 na1 nc1 l1)], ?_, ?_, one_part H7.out.2.2.1 hb ((hf.block _ (isT_of H7.out.1).lt (fun e => HED.out e)).trans H7.out.1) HED.out (by omega) ⟨by omega, by omega⟩ ⟨by omega, by omega⟩, H6.out.bel.trans (hb.mono H6.out.bel.size)⟩
      · unfold wrongN
        rw [if_neg (by omega), if_neg (by omega), if_neg (by omega), if_neg (by omega), if_pos hq]
        rw [← HX.out]; rfl
      · unfold World.setCell
        simp only [Array.getElem?_modify, H7.out.2.1]
        rfl
    · go_wp2_with fail
      go_meet
      have hf := ((Fr.refl (fun k => k = D) W7).setCell (p := ⟨D, 4, none⟩) rfl (.bool true))
      have hb := H7.out.2.2.2.1.trans (hf.below (B := w6.heap.size) (fun k hk e => by have := H7.out.2.2.2.2.2.2; omega) H7.out.2.2.2.1.size)
      refine ⟨.mk 6 none 0 [] 0 0 true (some ⟨E, 0, none⟩) 1 [(L.mk k1 sa1 sc1 s1 mn1 mx1 lz1 na1 nc1 l1)], ?_, ?_, one_part H7.out.2.2.1 hb ((hf.block _ (isT_of H7.out.1).lt (fun e => HED.out e)).trans H7.out.1) HED.out (by omega) ⟨by omega, by omega⟩ ⟨by omega, by omega⟩, H6.out.bel.trans (hb.mono H6.out.bel.size)⟩
      · unfold wrongN
        rw [if_neg (by omega), if_neg (by omega), if_neg (by omega), if_neg (by omega), if_neg (by omega)]
        rw [← HX.out]; rfl
      · unfold World.setCell
        simp only [Array.getElem?_modify, H7.out.2.1]
        rfl
  case rest =>
  obtain ⟨⟨ky, say, scy, sy, mny, mxy, lzy, nay, ncy, ly⟩, hy, gy, hr, hb⟩ := hcut
  have d0 : wc.cell? ⟨D, 0, none⟩ = some (.int .u8 ky) := block_cell gy 0 _ rfl
  have d1 : wc.cell? ⟨D, 1, none⟩ = some (.slice say sy.length scy) := block_cell gy 1 _ rfl
  have d2 : wc.cell? ⟨D, 2, none⟩ = some (.int .i64 mny) := block_cell gy 2 _ rfl
  have d3 : wc.cell? ⟨D, 3, none⟩ = some (.int .i64 mxy) := block_cell gy 3 _ rfl
  have d4 : wc.cell? ⟨D, 4, none⟩ = some (.bool lzy) := block_cell gy 4 _ rfl
  have d5 : wc.cell? ⟨D, 5, none⟩ = some (.slice nay ly.length ncy) := block_cell gy 5 _ rfl
  have e0 : ∀ o, (wc.alloc o).cell? ⟨D, 0, none⟩ = some (.int .u8 ky) := fun o => al_cell d0 o
  have e1 : ∀ o, (wc.alloc o).cell? ⟨D, 1, none⟩ = some (.slice say sy.length scy) := fun o => al_cell d1 o
  have e2 : ∀ o, (wc.alloc o).cell? ⟨D, 2, none⟩ = some (.int .i64 mny) := fun o => al_cell d2 o
  have e3 : ∀ o, (wc.alloc o).cell? ⟨D, 3, none⟩ = some (.int .i64 mxy) := fun o => al_cell d3 o
  have e4 : ∀ o, (wc.alloc o).cell? ⟨D, 4, none⟩ = some (.bool lzy) := fun o => al_cell d4 o
  have e5 : ∀ o, (wc.alloc o).cell? ⟨D, 5, none⟩ = some (.slice nay ly.length ncy) := fun o => al_cell d5 o
  have f0 : ∀ o, (wc.alloc o).frozen? ⟨D, 0, none⟩ = false := fun o => al_froz (isT_of gy).lt (block_froz gy 0) o
  have f1 : ∀ o, (wc.alloc o).frozen? ⟨D, 1, none⟩ = false := fun o => al_froz (isT_of gy).lt (block_froz gy 1) o
  have f2 : ∀ o, (wc.alloc o).frozen? ⟨D, 2, none⟩ = false := fun o => al_froz (isT_of gy).lt (block_froz gy 2) o
  have f3 : ∀ o, (wc.alloc o).frozen? ⟨D, 3, none⟩ = false := fun o => al_froz (isT_of gy).lt (block_froz gy 3) o
  have f4 : ∀ o, (wc.alloc o).frozen? ⟨D, 4, none⟩ = false := fun o => al_froz (isT_of gy).lt (block_froz gy 4) o
  have f5 : ∀ o, (wc.alloc o).frozen? ⟨D, 5, none⟩ = false := fun o => al_froz (isT_of gy).lt (block_froz gy 5) o
  have HC := Lib.hid (And.intro hy (And.intro gy (And.intro hr hb)))
  clear hy gy hr hb
  go_upto_region 25 with fail
  refine cd_world ?_
  intro W9 hW9
  have hy9 : OneAt w (L.mk 3 none 0 [] 0 0 false (some ⟨wc.heap.size, 0, none⟩) 2 [.mk 1 none 0 [] 0 0 false none 0 [], .mk ky say scy sy mny mxy lzy nay ncy ly]) D W9 := wrong_cat HC.out.2.1 HC.out.2.2.1 HC.out.2.2.2 (by have := H7.out.2.2.2.2.2.2; have := H6.out.bel.size; omega) hW9
  have hR : right (L.tree (L.mk 3 none 0 [] 0 0 false (some ⟨wc.heap.size, 0, none⟩) 2 [.mk 1 none 0 [] 0 0 false none 0 [], .mk ky say scy sy mny mxy lzy nay ncy ly])) = false := by
    show right (.mk 3 [] 0 0 false [.mk 1 [] 0 0 false [], L.tree (.mk ky say scy sy mny mxy lzy nay ncy ly)]) = false
    rw [HC.out.1]
    exact wrong_no T wy n
  obtain ⟨G, hG⟩ : ∃ q, q = wc.heap.size := ⟨_, rfl⟩
  rw [← hG] at hy9 hR ⊢
  clear hW9 hG d0 d1 d2 d3 d4 d5 e0 e1 e2 e3 e4 e5 f0 f1 f2 f3 f4 f5
  have HT1 : Hid (∀ W, OneAt w (L.mk 3 none 0 [] 0 0 false (some ⟨G, 0, none⟩) 2 [.mk 1 none 0 [] 0 0 false none 0 [], .mk ky say scy sy mny mxy lzy nay ncy ly]) D W → Calls Tryz.prog 15 #[.agg #[.int .u8 3, .slice none 0 0, .int .i64 0, .int .i64 0, .bool false, .slice (some ⟨G, 0, none⟩) 2 2]] W fun e w' => e = .returned (.tuple #[.string ⟨#[]⟩, .int .i64 73]) ∧ Below W.heap.size W w') := Lib.hid (fun W h => text_no (L.mk 3 none 0 [] 0 0 false (some ⟨G, 0, none⟩) 2 [.mk 1 none 0 [] 0 0 false none 0 [], .mk ky say scy sy mny mxy lzy nay ncy ly]) W h.r hR)
  have HT2 : Hid (∀ W, OneAt w (L.mk 3 none 0 [] 0 0 false (some ⟨G, 0, none⟩) 2 [.mk 1 none 0 [] 0 0 false none 0 [], .mk ky say scy sy mny mxy lzy nay ncy ly]) D W → Calls Tryz.prog 11 #[.agg #[.int .u8 3, .slice none 0 0, .int .i64 0, .int .i64 0, .bool false, .slice (some ⟨G, 0, none⟩) 2 2]] W fun e w' => e = .returned (.tuple #[.bool false, .int .i64 73]) ∧ Below W.heap.size W w') := Lib.hid (fun W h => (nullable_tree (L.mk 3 none 0 [] 0 0 false (some ⟨G, 0, none⟩) 2 [.mk 1 none 0 [] 0 0 false none 0 [], .mk ky say scy sy mny mxy lzy nay ncy ly]) W h.r).mono (fun e w' h2 => ⟨by rw [h2.1, show rightF (look (L.tree (L.mk 3 none 0 [] 0 0 false (some ⟨G, 0, none⟩) 2 [.mk 1 none 0 [] 0 0 false none 0 [], .mk ky say scy sy mny mxy lzy nay ncy ly]))) = false from hR]; rfl, h2.2⟩))
  have HT3 : Hid (∀ W, OneAt w (L.mk 3 none 0 [] 0 0 false (some ⟨G, 0, none⟩) 2 [.mk 1 none 0 [] 0 0 false none 0 [], .mk ky say scy sy mny mxy lzy nay ncy ly]) D W → Calls Tryz.prog 13 #[.agg #[.int .u8 3, .slice none 0 0, .int .i64 0, .int .i64 0, .bool false, .slice (some ⟨G, 0, none⟩) 2 2]] W fun e w' => e = .returned (.tuple #[.int .i64 0, .int .i64 73]) ∧ Below W.heap.size W w') := Lib.hid (fun W h => (groups_tree (L.mk 3 none 0 [] 0 0 false (some ⟨G, 0, none⟩) 2 [.mk 1 none 0 [] 0 0 false none 0 [], .mk ky say scy sy mny mxy lzy nay ncy ly]) W h.r).mono (fun e w' h2 => ⟨by rw [h2.1, show rightF (look (L.tree (L.mk 3 none 0 [] 0 0 false (some ⟨G, 0, none⟩) 2 [.mk 1 none 0 [] 0 0 false none 0 [], .mk ky say scy sy mny mxy lzy nay ncy ly]))) = false from hR]; rfl, h2.2⟩))
  have HT4 : Hid (∀ W, OneAt w (L.mk 3 none 0 [] 0 0 false (some ⟨G, 0, none⟩) 2 [.mk 1 none 0 [] 0 0 false none 0 [], .mk ky say scy sy mny mxy lzy nay ncy ly]) D W → Calls Tryz.prog 12 #[.agg #[.int .u8 3, .slice none 0 0, .int .i64 0, .int .i64 0, .bool false, .slice (some ⟨G, 0, none⟩) 2 2]] W fun e w' => e = .returned (.tuple #[.int .i64 0, .int .i64 0, .int .i64 73]) ∧ Below W.heap.size W w') := Lib.hid (fun W h => (lengths_tree (L.mk 3 none 0 [] 0 0 false (some ⟨G, 0, none⟩) 2 [.mk 1 none 0 [] 0 0 false none 0 [], .mk ky say scy sy mny mxy lzy nay ncy ly]) W h.r).mono (fun e w' h2 => ⟨by rw [h2.1, hR]; rfl, h2.2⟩))
  have HT5 : Hid (∀ W, OneAt w (L.mk 3 none 0 [] 0 0 false (some ⟨G, 0, none⟩) 2 [.mk 1 none 0 [] 0 0 false none 0 [], .mk ky say scy sy mny mxy lzy nay ncy ly]) D W → Calls Tryz.prog 17 #[.agg #[.int .u8 3, .slice none 0 0, .int .i64 0, .int .i64 0, .bool false, .slice (some ⟨G, 0, none⟩) 2 2]] W fun e w' => e = .returned (.bool false) ∧ Below W.heap.size W w') := Lib.hid (fun W h => (right_tree (L.mk 3 none 0 [] 0 0 false (some ⟨G, 0, none⟩) 2 [.mk 1 none 0 [] 0 0 false none 0 [], .mk ky say scy sy mny mxy lzy nay ncy ly]) W h.r).mono (fun e w' h2 => ⟨by rw [h2.1, hR], h2.2⟩))
  have K0 := Lib.hid hy9
  clear hR
  have hy0 := hy9
  clear hy9
  have c0 : W9.cell? ⟨D, 0, none⟩ = some (.int .u8 3) := block_cell hy0.a 0 _ rfl
  have c1 : W9.cell? ⟨D, 1, none⟩ = some (.slice none 0 0) := block_cell hy0.a 1 _ rfl
  have c2 : W9.cell? ⟨D, 2, none⟩ = some (.int .i64 0) := block_cell hy0.a 2 _ rfl
  have c3 : W9.cell? ⟨D, 3, none⟩ = some (.int .i64 0) := block_cell hy0.a 3 _ rfl
  have c4 : W9.cell? ⟨D, 4, none⟩ = some (.bool false) := block_cell hy0.a 4 _ rfl
  have c5 : W9.cell? ⟨D, 5, none⟩ = some (.slice (some ⟨G, 0, none⟩) 2 2) := block_cell hy0.a 5 _ rfl
  clear hy0
  go_wp2_with fail
  go_at_call 15
  refine (HT1.out _ K0.out).mono ?_
  rintro e V1 ⟨rfl, hb⟩
  have K1 := Lib.hid (K0.out.next hb)
  clear hb c0 c1 c2 c3 c4 c5
  have hy1 := K1.out
  have c0 : V1.cell? ⟨D, 0, none⟩ = some (.int .u8 3) := block_cell hy1.a 0 _ rfl
  have c1 : V1.cell? ⟨D, 1, none⟩ = some (.slice none 0 0) := block_cell hy1.a 1 _ rfl
  have c2 : V1.cell? ⟨D, 2, none⟩ = some (.int .i64 0) := block_cell hy1.a 2 _ rfl
  have c3 : V1.cell? ⟨D, 3, none⟩ = some (.int .i64 0) := block_cell hy1.a 3 _ rfl
  have c4 : V1.cell? ⟨D, 4, none⟩ = some (.bool false) := block_cell hy1.a 4 _ rfl
  have c5 : V1.cell? ⟨D, 5, none⟩ = some (.slice (some ⟨G, 0, none⟩) 2 2) := block_cell hy1.a 5 _ rfl
  clear hy1
  go_wp2_with fail
  go_at_call 11
  refine (HT2.out _ K1.out).mono ?_
  rintro e V2 ⟨rfl, hb⟩
  have K2 := Lib.hid (K1.out.next hb)
  clear hb c0 c1 c2 c3 c4 c5
  have hy2 := K2.out
  have c0 : V2.cell? ⟨D, 0, none⟩ = some (.int .u8 3) := block_cell hy2.a 0 _ rfl
  have c1 : V2.cell? ⟨D, 1, none⟩ = some (.slice none 0 0) := block_cell hy2.a 1 _ rfl
  have c2 : V2.cell? ⟨D, 2, none⟩ = some (.int .i64 0) := block_cell hy2.a 2 _ rfl
  have c3 : V2.cell? ⟨D, 3, none⟩ = some (.int .i64 0) := block_cell hy2.a 3 _ rfl
  have c4 : V2.cell? ⟨D, 4, none⟩ = some (.bool false) := block_cell hy2.a 4 _ rfl
  have c5 : V2.cell? ⟨D, 5, none⟩ = some (.slice (some ⟨G, 0, none⟩) 2 2) := block_cell hy2.a 5 _ rfl
  clear hy2
  go_wp2_with fail
  go_at_call 13
  refine (HT3.out _ K2.out).mono ?_
  rintro e V3 ⟨rfl, hb⟩
  have K3 := Lib.hid (K2.out.next hb)
  clear hb c0 c1 c2 c3 c4 c5
  have hy3 := K3.out
  have c0 : V3.cell? ⟨D, 0, none⟩ = some (.int .u8 3) := block_cell hy3.a 0 _ rfl
  have c1 : V3.cell? ⟨D, 1, none⟩ = some (.slice none 0 0) := block_cell hy3.a 1 _ rfl
  have c2 : V3.cell? ⟨D, 2, none⟩ = some (.int .i64 0) := block_cell hy3.a 2 _ rfl
  have c3 : V3.cell? ⟨D, 3, none⟩ = some (.int .i64 0) := block_cell hy3.a 3 _ rfl
  have c4 : V3.cell? ⟨D, 4, none⟩ = some (.bool false) := block_cell hy3.a 4 _ rfl
  have c5 : V3.cell? ⟨D, 5, none⟩ = some (.slice (some ⟨G, 0, none⟩) 2 2) := block_cell hy3.a 5 _ rfl
  clear hy3
  go_wp2_with fail
  go_at_call 12
  refine (HT4.out _ K3.out).mono ?_
  rintro e V4 ⟨rfl, hb⟩
  have K4 := Lib.hid (K3.out.next hb)
  clear hb c0 c1 c2 c3 c4 c5
  have hy4 := K4.out
  have c0 : V4.cell? ⟨D, 0, none⟩ = some (.int .u8 3) := block_cell hy4.a 0 _ rfl
  have c1 : V4.cell? ⟨D, 1, none⟩ = some (.slice none 0 0) := block_cell hy4.a 1 _ rfl
  have c2 : V4.cell? ⟨D, 2, none⟩ = some (.int .i64 0) := block_cell hy4.a 2 _ rfl
  have c3 : V4.cell? ⟨D, 3, none⟩ = some (.int .i64 0) := block_cell hy4.a 3 _ rfl
  have c4 : V4.cell? ⟨D, 4, none⟩ = some (.bool false) := block_cell hy4.a 4 _ rfl
  have c5 : V4.cell? ⟨D, 5, none⟩ = some (.slice (some ⟨G, 0, none⟩) 2 2) := block_cell hy4.a 5 _ rfl
  clear hy4
  go_wp2_with fail
  go_at_call 17
  refine (HT5.out _ K4.out).mono ?_
  rintro e V5 ⟨rfl, hb⟩
  have K5 := Lib.hid (K4.out.next hb)
  clear hb c0 c1 c2 c3 c4 c5
  go_wp2_with fail
  go_ret
  exact ⟨rfl, K5.out.bel⟩
end Go.Proofs.YtcklkjibhgbhiaaGreatDoor.Sy
