/- Chapter 07: awake: the examples of the chapter. -/
import Derived.Test.YtimahlimmblgkaaGreatDoorPTsE
import Derived.Test.YtimahlimmblgkaaGreatDoorPTqD
import Derived.Deep.LoopGhost
namespace Go.Proofs.YtimahlimmblgkaaGreatDoor.Sy
open Go Go.RowKit
/-- the text of a tree, or the error -/
def textP (t : T) : B × Int := if right t then (if 1024 < (wr [] t).length then ([], 3) else (wr [] t, 0)) else ([], 73)
def TextPost (t : T) (w : World) (e : Ending) (w' : World) : Prop := e = .returned (.tuple #[.string ⟨(textP t).1.toArray⟩, .int .i64 (textP t).2]) ∧ Below w.heap.size w w'
theorem bd_slice {w : World} {b : Nat} {l : List UInt8} (h : Bd w b l) : ∃ p ao cap, w.heap[b]? = some (.cells #[p, .slice ao l.length cap] 98 (0, 0)) := by
  obtain ⟨p, hAt⟩ : ∃ p, Lib.BuilderAtF 98 5 b b p (Lib.byteCells l) w := by
    rcases h with h | h
    · exact ⟨_, h⟩
    · exact ⟨_, h⟩
  obtain ⟨hB, v, hbk, hown, hne⟩ := hAt
  rw [Lib.byteCells_length] at hown
  rcases hown.2 with ⟨rfl, h0⟩ | ⟨g, cap, cur, fz, rfl, _⟩
  · exact ⟨p, none, 0, by rw [hbk, h0]⟩
  · exact ⟨p, _, cap, hbk⟩
set_option maxRecDepth 100000 in
set_option maxHeartbeats 2000000 in
theorem bl_calls (b : Nat) (l : List UInt8) (w : World) (h : Bd w b l) : Calls Tryz.prog 50 #[.pointer (some ⟨b, 0, none⟩)] w fun e w' => e = .returned (.int .i64 (l.length : Int)) ∧ w' = w := by
  obtain ⟨p, ao, cap, hbk⟩ := bd_slice h
  have c0 : w.cell? ⟨b, 0, none⟩ = some p := block_cell hbk 0 _ rfl
  have c1 : w.cell? ⟨b, 1, none⟩ = some (.slice ao l.length cap) := block_cell hbk 1 _ rfl
  obtain ⟨n, hn⟩ : ∃ q, q = l.length := ⟨_, rfl⟩
  rw [← hn] at c1 ⊢
  clear hn hbk h
  go_enter Tryz.func50, Tryz.ntmps50
  go_wp2_with fail
  go_ret
  exact ⟨rfl, rfl⟩
set_option maxRecDepth 100000 in
set_option maxHeartbeats 4000000 in
theorem text_tree {P : Nat → Prop} (x : L) (w : World) (h : RdT P w x) (hV : Vs w) (hlen : (wr [] x.tree).length ≤ 100000000000000) : Calls Tryz.prog 17 #[x.val] w (TextPost x.tree w) := by
  have HL : Hid (∀ W, Below w.heap.size w W → Calls Tryz.prog 45 #[x.val] W fun e w' => e = .returned (.bool (right x.tree)) ∧ Below W.heap.size W w') := Lib.hid (fun W hb => right_tree x W (h.bel hb))
  have HW : Hid (right x.tree = true → ∀ W b, Below w.heap.size w W → w.heap.size ≤ b → Bd W b [] → Calls Tryz.prog 49 #[.pointer (some ⟨b, 0, none⟩), x.val, .slice none 0 0] W (WrPost b [] (wr [] x.tree) W)) :=
    Lib.hid (fun hr W b hb hge hbd => write_all x w W b [] [] none 0 ⟨hV, hV.lv, hb, hge⟩ (h.chg (fun q _ hq => hb.block q hq) hb.size (fun q _ hq => by omega)) hbd (RdF.nil _ _) (by decide) (right_parts hr).1 (by simpa using hlen))
  obtain ⟨t, ht⟩ : ∃ q, q = x.tree := ⟨_, rfl⟩
  rw [← ht] at HL HW hlen ⊢
  clear ht h
  obtain ⟨k, sa, sc, s, mn, mx, lz, na, nc, l⟩ := x
  rw [val_mk] at HL HW ⊢
  cases hr : right t
  · have HR := Lib.hid hr
    rw [hr] at HL
    clear HW hr
    go_enter Tryz.func17, Tryz.ntmps17
    go_wp2_with fail
    refine at_world ?_
    intro W hW
    have hbW : Below w.heap.size w W := by rw [hW]; exact (Below.refl _ _).alloc (Nat.le_refl _) _
    clear hW
    refine (HL.out W hbW).mono ?_
    rintro e w5 ⟨rfl, hb5⟩
    have H5 := Lib.hid (Bthen hbW hb5)
    clear hb5 hbW
    go_wp2_with fail
    go_ret2
    exact ⟨by unfold textP; rw [HR.out]; rfl, H5.out⟩
  · have HR := Lib.hid hr
    rw [hr] at HL
    have HW2 := Lib.hid (HW.out hr)
    clear HW hr
    obtain ⟨u, hu⟩ : ∃ q, q = wr [] t := ⟨_, rfl⟩
    rw [← hu] at HW2 hlen
    have HU := Lib.hid hu
    clear hu
    go_enter Tryz.func17, Tryz.ntmps17
    go_wp2_with fail
    refine at_world ?_
    intro W hW
    have hbW : Below w.heap.size w W := by rw [hW]; exact (Below.refl _ _).alloc (Nat.le_refl _) _
    have g0 : W.heap[w.heap.size]? = some (.cells #[.int .u8 k, .slice sa s.length sc, .int .i64 mn, .int .i64 mx, .bool lz, .slice na l.length nc] 27 (0, 0)) := by rw [hW]; exact heap_alloc_new w _
    clear hW
    refine (HL.out W hbW).mono ?_
    rintro e w5 ⟨rfl, hb5⟩
    have g5 := (hb5.block _ (isT_of g0).lt).trans g0
    have g6 : ∀ o, (w5.alloc o).heap[w.heap.size]? = some (.cells #[.int .u8 k, .slice sa s.length sc, .int .i64 mn, .int .i64 mx, .bool lz, .slice na l.length nc] 27 (0, 0)) := fun o => (((Below.refl w5.heap.size w5).alloc (Nat.le_refl _) o).block _ (isT_of g5).lt).trans g5
    have c0 := fun o => block_cell (g6 o) 0 _ rfl
    have c1 := fun o => block_cell (g6 o) 1 _ rfl
    have c2 := fun o => block_cell (g6 o) 2 _ rfl
    have c3 := fun o => block_cell (g6 o) 3 _ rfl
    have c4 := fun o => block_cell (g6 o) 4 _ rfl
    have c5 := fun o => block_cell (g6 o) 5 _ rfl
    have H5 := Lib.hid (Bthen hbW hb5)
    clear hb5 hbW g0 g5 g6
    go_wp2_with fail
    go_at_call 49
    refine (HW2.out _ w5.heap.size (H5.out.alloc H5.out.size _) H5.out.size (Bd.new w5)).mono ?_
    rintro e w6 ⟨rfl, hbd6, hb6, _⟩
    have H6 := Lib.hid (show Below w.heap.size w w6 from (H5.out.alloc H5.out.size _).trans (hb6.mono H5.out.size))
    rw [List.nil_append] at hbd6
    have HB6 := Lib.hid hbd6
    clear hb6 c0 c1 c2 c3 c4 c5
    go_wp2_with fail
    go_at_call 50
    refine (bl_calls w5.heap.size u w6 HB6.out).mono ?_
    rintro e w7 ⟨rfl, rfl⟩
    by_cases hlong : 1024 < u.length
    · have hd : decide ((1024 : Int) < (u.length : Int)) = true := by simp; omega
      have HG := Lib.hid hlong
      clear hlong
      go_wp2_with fail
      go_ret2
      exact ⟨by unfold textP; rw [HR.out, ← HU.out, if_pos rfl, if_pos HG.out]; rfl, H6.out⟩
    · have hd : decide ((1024 : Int) < (u.length : Int)) = false := by simp; omega
      have HG := Lib.hid hlong
      clear hlong
      go_wp2_with fail
      go_at_call 51
      refine (bs_calls w5.heap.size u _ HB6.out).mono ?_
      rintro e w8 ⟨rfl, hb8, _⟩
      have H8 := Lib.hid (H6.out.trans (hb8.mono H5.out.size))
      clear hb8
      go_wp2_with fail
      go_ret2
      exact ⟨by unfold textP; rw [HR.out, ← HU.out, if_pos rfl, if_neg HG.out]; rfl, H8.out⟩
/-- a pattern that has a tree, a pattern that has none -/
def OkPost (t : T) (w : World) (e : Ending) (w' : World) : Prop := ∃ y : L, e = .returned (.tuple #[y.val, .int .i64 0]) ∧ y.tree = t ∧ RdT (fun b => w.heap.size ≤ b) w' y ∧ Below w.heap.size w w'
abbrev zeroV : Value := .agg #[.int .u8 0, .slice none 0 0, .int .i64 0, .int .i64 0, .bool false, .slice none 0 0]
def ErPost (x : Int) (w : World) (e : Ending) (w' : World) : Prop := e = .returned (.tuple #[zeroV, .int .i64 x]) ∧ Below w.heap.size w w'
theorem parse_okC (s : ByteArray) (t : T) (w : World) (hV : Vs w) (hs : s.size ≤ 4611686018427387904) (h : parse s.data.toList = .ok t) : Calls Tryz.prog 18 #[.string s] w (OkPost t w) := by
  refine (parse_calls s w hV hs).mono ?_
  rintro e w' ⟨h1 | ⟨x, h1, _⟩, hb⟩
  · obtain ⟨m, y, hp, rfl, hy, hr⟩ := h1
    rw [h] at hp
    cases hp
    exact ⟨y, rfl, hy, hr, hb⟩
  · rw [h] at h1; cases h1
theorem parse_erC (s : ByteArray) (x : Int) (w : World) (hV : Vs w) (hs : s.size ≤ 4611686018427387904) (h : parse s.data.toList = .error x) : Calls Tryz.prog 18 #[.string s] w (ErPost x w) := by
  refine (parse_calls s w hV hs).mono ?_
  rintro e w' ⟨h1 | ⟨z, h1, rfl⟩, hb⟩
  · obtain ⟨m, y, hp, _⟩ := h1
    rw [h] at hp; cases hp
  · rw [h] at h1
    cases h1
    exact ⟨rfl, hb⟩
end Go.Proofs.YtimahlimmblgkaaGreatDoor.Sy
namespace Go.Proofs.YtimahlimmblgkaaGreatDoor.Sy
open Go Go.RowKit
/-- the located tree of a known tree -/
theorem L.of_mk {y : L} {k : Int} {s : Rs.S} {mn mx : Int} {lz : Bool} {t : List T} (h : y.tree = .mk k s mn mx lz t) : ∃ sa sc na nc l, y = .mk k sa sc s mn mx lz na nc l ∧ treeL l = t := by
  obtain ⟨k', sa, sc, s', mn', mx', lz', na, nc, l⟩ := y
  rw [L.tree] at h
  injection h with h1 h2 h3 h4 h5 h6
  subst h1 h2 h3 h4 h5
  exact ⟨sa, sc, na, nc, l, rfl, h6⟩
theorem treeL_two {l : List L} {a b : T} (h : treeL l = [a, b]) : ∃ x y, l = [x, y] ∧ x.tree = a ∧ y.tree = b := by
  match l, h with
  | [], h => simp [treeL] at h
  | [x], h => simp [treeL] at h
  | [x, y], h => simp [treeL] at h; exact ⟨x, y, rfl, h.1, h.2⟩
  | _ :: _ :: _ :: _, h => simp [treeL] at h
theorem al_cell {W : World} {b o : Nat} {v : Value} (h : W.cell? ⟨b, o, none⟩ = some v) (x : Obj) : (W.alloc x).cell? ⟨b, o, none⟩ = some v := (((Below.refl W.heap.size W).alloc (Nat.le_refl _) x).cell (p := ⟨b, o, none⟩) (cell_lt h)).trans h
theorem treeL_one {l : List L} {a : T} (h : treeL l = [a]) : ∃ x, l = [x] ∧ x.tree = a := by
  match l, h with
  | [], h => simp [treeL] at h
  | [x], h => simp [treeL] at h; exact ⟨x, rfl, h⟩
  | _ :: _ :: _, h => simp [treeL] at h
theorem RdT.part {P : Nat → Prop} {w : World} {k : Int} {sa : Option Addr} {sc : Nat} {s : Rs.S} {mn mx : Int} {lz : Bool} {na : Option Addr} {nc : Nat} {l : List L} (h : RdT P w (.mk k sa sc s mn mx lz na nc l)) : RdF w na (nFlat l) ∧ Sl w sa sc s ∧ ∀ x, x ∈ l → RdT P w x := by
  cases h with
  | mk hk hmn hmx hs hsl hn hnl hnb hP sub => exact ⟨hn, hs, sub⟩
/-- the pairs of a list of strings, and strings, as they lie in memory -/
def pairC (p : B × B) : List Value := [.string ⟨p.1.toArray⟩, .string ⟨p.2.toArray⟩]
theorem awP_at {j : Nat} {p : B × B} (h : awP[j]? = some p) : (awP.flatMap pairC)[j * 2]? = some (.string ⟨p.1.toArray⟩) ∧ (awP.flatMap pairC)[j * 2 + 1]? = some (.string ⟨p.2.toArray⟩) :=
  ⟨flat_at pairC 2 (fun _ => rfl) (j := 0) h rfl, flat_at pairC 2 (fun _ => rfl) (j := 1) h rfl⟩
def strV (s : B) : Value := .string ⟨s.toArray⟩
/-- the text of a known tree -/
theorem text_known {P : Nat → Prop} (x : L) (w : World) (h : RdT P w x) (hV : Vs w) {u : B} (hr : right x.tree = true) (hw : wr [] x.tree = u) (hl : u.length ≤ 1024) : Calls Tryz.prog 17 #[x.val] w fun e w' => e = .returned (.tuple #[.string ⟨u.toArray⟩, .int .i64 0]) ∧ Below w.heap.size w w' := by
  refine (text_tree x w h hV (by rw [hw]; omega)).mono ?_
  rintro e w' ⟨he, hb⟩
  have e2 : textP x.tree = (u, 0) := by unfold textP; rw [hr, hw, if_pos rfl, if_neg (by omega)]
  rw [e2] at he
  exact ⟨he, hb⟩
/-- at the head of awake's loops -/
def ARel (w : World) (g : Nat) (cs : List Value) (T : TypeId) (n : Nat) (G : Nat) (v : Value) (wr : World) : Prop :=
  ∃ j : Nat, j ≤ n ∧ G = n - j ∧ v = .int .i64 (j : Int) ∧ wr.heap[g]? = some (.cells cs.toArray T (0, 0)) ∧ Below w.heap.size w wr
/-- the lengths of a known tree -/
theorem len_known {P : Nat → Prop} (x : L) (w : World) (h : RdT P w x) {a b : Int} (hl : lens x.tree = (a, b)) (hr : right x.tree = true) : Calls Tryz.prog 14 #[x.val] w fun e w' => e = .returned (.tuple #[.int .i64 a, .int .i64 b, .int .i64 0]) ∧ Below w.heap.size w w' := by
  refine (lengths_tree x w h).mono ?_
  rintro e w' ⟨he, hb⟩
  rw [hr, hl] at he
  exact ⟨he, hb⟩
set_option maxRecDepth 100000 in
set_option maxHeartbeats 8000000 in
theorem awake_calls (w : World) (hV : Vs w) : Calls Tryz.prog 11 #[] w fun e w' => e = .returned (.bool true) ∧ Below w.heap.size w w' := by
  have HV := Lib.hid hV
  have HP : Hid (∀ (s : B) (W : World), okB s = true → s.length ≤ 20 → Below w.heap.size w W → Calls Tryz.prog 18 #[.string ⟨s.toArray⟩] W (OkPost (treeOf s) W)) :=
    Lib.hid (fun s W ho hs hb => parse_okC ⟨s.toArray⟩ (treeOf s) W (hV.below hb) (by simp only [ByteArray.size, List.size_toArray]; omega) (ok_tree ho))
  have HE : Hid (∀ (s : B) (x : Int) (W : World), errP s = x → x ≠ 0 → s.length ≤ 20 → Below w.heap.size w W → Calls Tryz.prog 18 #[.string ⟨s.toArray⟩] W (ErPost x W)) :=
    Lib.hid (fun s x W ho hx hs hb => parse_erC ⟨s.toArray⟩ x W (hV.below hb) (by simp only [ByteArray.size, List.size_toArray]; omega) (err_of ho hx))
  clear hV
  go_enter Tryz.func11, Tryz.ntmps11
  go_wp2_with fail
  go_at_call 18
  refine (HP.out aw1 w aw1_ok.1 (by decide) (Below.refl _ _)).mono ?_
  rintro e w1 ⟨y, rfl, hy, hr, hb1⟩
  rw [aw1_form] at hy
  obtain ⟨sa, sc, na, nc, l, rfl, hl⟩ := L.of_mk hy
  obtain ⟨ya, yb, rfl, hya, hyb⟩ := treeL_two hl
  have hyt : (L.mk 4 sa sc [] 0 0 false na nc [ya, yb]).tree = treeOf aw1 := by rw [aw1_form]; exact hy
  have HY1 := Lib.hid (And.intro hyt (And.intro hr hb1))
  have hL1 : Hid (∀ W, Below w1.heap.size w1 W → Calls Tryz.prog 14 #[.agg #[.int .u8 4, .slice sa 0 sc, .int .i64 0, .int .i64 0, .bool false, .slice na 2 nc]] W fun e w' => e = .returned (.tuple #[.int .i64 1, .int .i64 (-1), .int .i64 0]) ∧ Below W.heap.size W w') :=
    Lib.hid (fun W hb => len_known (.mk 4 sa sc [] 0 0 false na nc [ya, yb]) W (hr.bel hb) (by rw [hyt]; exact aw1_ok.2.1) (by rw [hyt]; exact aw1_ok.2.2))
  rw [show (L.mk 4 sa sc [] 0 0 false na nc [ya, yb]).val = .agg #[.int .u8 4, .slice sa 0 sc, .int .i64 0, .int .i64 0, .bool false, .slice na 2 nc] from rfl]
  clear hy hya hyb hl hr hb1 hyt
  go_wp2_with fail
  refine at_world ?_
  intro W1 hW1
  have hbW1 : Below w1.heap.size w1 W1 := by rw [hW1]; exact (Below.refl _ _).alloc (Nat.le_refl _) _
  have gA : W1.heap[w1.heap.size]? = some (.cells #[.int .u8 4, .slice sa 0 sc, .int .i64 0, .int .i64 0, .bool false, .slice na 2 nc] 27 (0, 0)) := by rw [hW1]; exact heap_alloc_new w1 _
  clear hW1
  refine (hL1.out W1 hbW1).mono ?_
  rintro e w2 ⟨rfl, hb2⟩
  have gA2 := (hb2.block _ (isT_of gA).lt).trans gA
  have H2 := Lib.hid (HY1.out.2.2.trans ((Bthen hbW1 hb2).mono HY1.out.2.2.size))
  clear hL1 hbW1 hb2 gA
  go_wp2_with fail
  go_at_call 18
  refine (HP.out aw2 w2 aw2_ok.1 (by decide) H2.out).mono ?_
  rintro e w3 ⟨y2, rfl, hy2, hr2, hb3⟩
  rw [aw2_form] at hy2
  obtain ⟨sa2, sc2, na2, nc2, l2, rfl, hl2⟩ := L.of_mk hy2
  obtain ⟨x0, x1, rfl, hx0, hx1⟩ := treeL_two hl2
  obtain ⟨sa0, sc0, na0, nc0, l0, rfl, hl0⟩ := L.of_mk hx0
  obtain ⟨sa1, sc1, na1, nc1, l1, rfl, hl1⟩ := L.of_mk hx1
  obtain ⟨x10, rfl, hx10⟩ := treeL_one hl1
  obtain ⟨sa10, sc10, na10, nc10, l10, rfl, hl10⟩ := L.of_mk (show x10.tree = .mk 2 [(120, 120)] 0 0 false [] from hx10)
  have hyt : (L.mk 3 sa2 sc2 [] 0 0 false na2 nc2 [.mk 6 sa0 sc0 [] 0 0 false na0 nc0 l0, .mk 5 sa1 sc1 [] 2 3 true na1 nc1 [.mk 2 sa10 sc10 [(120, 120)] 0 0 false na10 nc10 l10]]).tree = treeOf aw2 := by rw [aw2_form]; exact hy2
  have HY2 := Lib.hid (And.intro hyt (And.intro hr2 hb3))
  have hL2 : Hid (∀ W, Below w3.heap.size w3 W → Calls Tryz.prog 14 #[.agg #[.int .u8 3, .slice sa2 0 sc2, .int .i64 0, .int .i64 0, .bool false, .slice na2 2 nc2]] W fun e w' => e = .returned (.tuple #[.int .i64 2, .int .i64 4, .int .i64 0]) ∧ Below W.heap.size W w') :=
    Lib.hid (fun W hb => len_known (.mk 3 sa2 sc2 [] 0 0 false na2 nc2 [.mk 6 sa0 sc0 [] 0 0 false na0 nc0 l0, .mk 5 sa1 sc1 [] 2 3 true na1 nc1 [.mk 2 sa10 sc10 [(120, 120)] 0 0 false na10 nc10 l10]]) W (hr2.bel hb) (by rw [hyt]; exact aw2_ok.2.1) (by rw [hyt]; exact aw2_ok.2.2))
  rw [show (L.mk 3 sa2 sc2 [] 0 0 false na2 nc2 [.mk 6 sa0 sc0 [] 0 0 false na0 nc0 l0, .mk 5 sa1 sc1 [] 2 3 true na1 nc1 [.mk 2 sa10 sc10 [(120, 120)] 0 0 false na10 nc10 l10]]).val = .agg #[.int .u8 3, .slice sa2 0 sc2, .int .i64 0, .int .i64 0, .bool false, .slice na2 2 nc2] from rfl]
  have gA3 := (hb3.block _ (isT_of gA2).lt).trans gA2
  clear hy2 hx0 hx1 hl2 hl0 hl1 hx10 hl10 hr2 hb3 hyt gA2
  go_wp2_with fail
  refine at_world ?_
  intro W3 hW3
  have hbW3 : Below w3.heap.size w3 W3 := by rw [hW3]; exact (Below.refl _ _).alloc (Nat.le_refl _) _
  have gB : W3.heap[w3.heap.size]? = some (.cells #[.int .u8 3, .slice sa2 0 sc2, .int .i64 0, .int .i64 0, .bool false, .slice na2 2 nc2] 27 (0, 0)) := by rw [hW3]; exact heap_alloc_new w3 _
  have gA4 := (hbW3.block _ (isT_of gA3).lt).trans gA3
  clear hW3 gA3
  refine (hL2.out W3 hbW3).mono ?_
  rintro e w4 ⟨rfl, hb4⟩
  have gA5 := (hb4.block _ (isT_of gA4).lt).trans gA4
  have gB5 := (hb4.block _ (isT_of gB).lt).trans gB
  have hr4 := HY2.out.2.1.bel (Bthen hbW3 hb4)
  have H4 := Lib.hid (show Below w.heap.size w w4 from (H2.out.trans (HY2.out.2.2.mono H2.out.size)).trans ((Bthen hbW3 hb4).mono (Nat.le_trans H2.out.size HY2.out.2.2.size)))
  clear hL2 hbW3 hb4 gA4 gB
  obtain ⟨hn4, _, hs4⟩ := hr4.part
  obtain ⟨hn1, _, hs1⟩ := (hs4 _ (List.mem_cons_of_mem _ (List.mem_singleton.2 rfl))).part
  obtain ⟨_, hsl10, _⟩ := (hs1 _ (List.mem_singleton.2 rfl)).part
  obtain ⟨b2, o2, rfl, hb2, hcx⟩ := RdF.nat (i := 0) hn4 rfl
  obtain ⟨b2', o2', e2, _, hcy⟩ := RdF.nat (i := 1) hn4 rfl
  cases e2
  obtain ⟨b1, o1, rfl, hb1, hcz⟩ := RdF.nat (i := 0) hn1 rfl
  obtain ⟨b10, o10, rfl, hb10, hcr⟩ := hsl10.rd (by simp)
  have k0 := hcx 0 _ rfl
  have r0 := hcy 0 _ rfl
  have r1 := hcy 1 _ rfl
  have r2 := hcy 2 _ rfl
  have r3 := hcy 3 _ rfl
  have r4 := hcy 4 _ rfl
  have r5 := hcy 5 _ rfl
  have p1 := fun o => al_cell (hcz 1 _ rfl) o
  have q0 := fun o => al_cell (hcr 0 (120, 120) rfl).1 o
  have q1 := fun o => al_cell (hcr 0 (120, 120) rfl).2 o
  simp only [Nat.zero_mul, Nat.add_zero, Nat.one_mul, List.length_nil, List.length_singleton] at k0 r0 r1 r2 r3 r4 r5 p1 q0 q1
  have a0 := block_cell gA5 0 _ rfl
  have a5 := block_cell gA5 5 _ rfl
  have b0 := block_cell gB5 0 _ rfl
  have b5 := block_cell gB5 5 _ rfl
  clear hn4 hs4 hn1 hs1 hsl10 hcx hcy hcz hcr hr4 gA5 gB5
  go_wp2_with fail
  obtain ⟨g, hg⟩ : ∃ g, g = w4.heap.size + 1 := ⟨_, rfl⟩
  rw [← hg]
  have HG := Lib.hid hg
  clear hg
  go_loopg [152] 6 (fun G v wr => ARel w g (awP.flatMap pairC) 85 6 G v wr)
  case atStart =>
    refine ⟨0, Nat.zero_le _, rfl, rfl, ?_, (H4.out.alloc H4.out.size _).alloc (by have := H4.out.size; simp; omega) _⟩
    rw [HG.out]
    have e := heap_alloc_new (w4.alloc (.cells #[.int .u8 5, .slice sa1 0 sc1, .int .i64 2, .int .i64 3, .bool true, .slice (some ⟨b1, o1, none⟩) 1 nc1] 27)) (.cells (awP.flatMap pairC).toArray 85)
    rw [show (w4.alloc (.cells #[.int .u8 5, .slice sa1 0 sc1, .int .i64 2, .int .i64 3, .bool true, .slice (some ⟨b1, o1, none⟩) 1 nc1] 27)).heap.size = w4.heap.size + 1 by simp] at e
    exact e
  case round =>
    clear k0 r0 r1 r2 r3 r4 r5 p1 q0 q1 a0 a5 b0 b5
    unfold ARel at hrel
    obtain ⟨j, hj, rfl, rfl, hgr, hbr⟩ := hrel
    obtain ⟨wA, hwA⟩ : ∃ q, q = wr := ⟨_, rfl⟩
    subst hwA
    have HR := Lib.hid (And.intro hgr hbr)
    by_cases hlt : j < 6
    · obtain ⟨p, hp⟩ : ∃ p, awP[j]? = some p := ⟨_, List.getElem?_eq_getElem (by show j < 6; exact hlt)⟩
      have hpc := awP_at hp
      have d0 := block_cell hgr (j * 2) _ (by rw [List.getElem?_toArray]; exact hpc.1)
      have d1 := block_cell hgr (j * 2 + 1) _ (by rw [List.getElem?_toArray]; exact hpc.2)
      obtain ⟨p1, p2⟩ := p
      dsimp only at d0 d1
      have HPK := Lib.hid (awP_ok _ (List.mem_of_getElem? hp))
      clear hgr hbr hp hpc
      go_wp2_with fail
      refine at_world ?_
      intro W1 hW1
      have hbW : Below wA.heap.size wA W1 := by rw [hW1]; exact (Below.refl _ _).alloc (Nat.le_refl _) _
      have gP : W1.heap[wA.heap.size]? = some (.cells #[.string ⟨p1.toArray⟩, .string ⟨p2.toArray⟩] 85 (0, 0)) := by rw [hW1]; exact heap_alloc_new wA _
      clear hW1
      refine (HP.out p1 W1 HPK.out.1 HPK.out.2.2.2.1 (HR.out.2.trans (hbW.mono HR.out.2.size))).mono ?_
      rintro e w5 ⟨y, he, hyt, hyr, hb5⟩
      obtain ⟨ky, say, scy, sy, mny, mxy, lzy, nay, ncy, ly⟩ := y
      replace he : e = .returned (.tuple #[.agg #[.int .u8 ky, .slice say sy.length scy, .int .i64 mny, .int .i64 mxy, .bool lzy, .slice nay ly.length ncy], .int .i64 0]) := he
      subst he
      have gP5 := (hb5.block _ (isT_of gP).lt).trans gP
      have HY := Lib.hid (And.intro hyt hyr)
      have H5 := Lib.hid (And.intro (Bthen hbW hb5) gP5)
      have HT : Hid (∀ W, Below w5.heap.size w5 W → Calls Tryz.prog 17 #[.agg #[.int .u8 ky, .slice say sy.length scy, .int .i64 mny, .int .i64 mxy, .bool lzy, .slice nay ly.length ncy]] W fun e w' => e = .returned (.tuple #[.string ⟨p2.toArray⟩, .int .i64 0]) ∧ Below W.heap.size W w') :=
        Lib.hid (fun W hb => text_known (.mk ky say scy sy mny mxy lzy nay ncy ly) W (hyr.bel hb) (HV.out.below ((HR.out.2.trans ((Bthen hbW hb5).mono HR.out.2.size)).trans (hb.mono (by have := HR.out.2.size; have := hbW.size; have := hb5.size; omega)))) (by rw [hyt]; exact HPK.out.2.1) (by rw [hyt]; exact HPK.out.2.2.1) (by have := HPK.out.2.2.2.2; omega))
      clear hbW hb5 gP gP5 hyt hyr d0 d1
      go_wp2_with fail
      refine at_world ?_
      intro W2 hW2
      have hbW : Below w5.heap.size w5 W2 := by rw [hW2]; exact (Below.refl _ _).alloc (Nat.le_refl _) _
      clear hW2
      refine (HT.out W2 hbW).mono ?_
      rintro e w6 ⟨rfl, hb6⟩
      have h6 := H5.out.1.trans ((Bthen hbW hb6).mono H5.out.1.size)
      have gP6 := ((Bthen hbW hb6).block _ (isT_of H5.out.2).lt).trans H5.out.2
      have e1 := block_cell gP6 1 _ rfl
      have H6 := Lib.hid (And.intro ((h6.block _ (isT_of HR.out.1).lt).trans HR.out.1) (HR.out.2.trans (h6.mono HR.out.2.size)))
      clear hbW hb6 h6 gP6
      go_wp2_with fail
      go_roundg (6 - (j + 1))
      case measure => omega
      case rel => exact ⟨j + 1, hlt, rfl, by simp, H6.out.1, H6.out.2⟩
    · obtain rfl : j = 6 := by omega
      clear hgr hbr
      go_wp2_with fail
      go_loopg [180] 9 (fun G v wr => ARel w wA.heap.size (aw9.map strV) 9 9 G v wr)
      case atStart => exact ⟨0, Nat.zero_le _, rfl, rfl, heap_alloc_new wA (.cells (aw9.map strV).toArray 9), HR.out.2.alloc HR.out.2.size _⟩
      case round =>
        unfold ARel at hrel
        obtain ⟨i, hi, rfl, rfl, hgr, hbr⟩ := hrel
        obtain ⟨wB, hwB⟩ : ∃ q, q = wr := ⟨_, rfl⟩
        subst hwB
        have HS := Lib.hid (And.intro hgr hbr)
        by_cases hlt : i < 9
        · obtain ⟨p, hp⟩ : ∃ p, aw9[i]? = some p := ⟨_, List.getElem?_eq_getElem (by show i < 9; exact hlt)⟩
          have d0 := block_cell hgr i (.string ⟨p.toArray⟩) (by rw [List.getElem?_toArray, List.getElem?_map, hp]; rfl)
          have HPK := Lib.hid (aw9_ok _ (List.mem_of_getElem? hp))
          clear hgr hbr hp
          go_wp2_with fail
          go_at_call 18
          refine (HE.out p 70 wB HPK.out.1 (by decide) HPK.out.2 HS.out.2).mono ?_
          rintro e w5 ⟨rfl, hb5⟩
          have H5 := Lib.hid hb5
          clear hb5 d0
          go_wp2_with fail
          go_roundg (9 - (i + 1))
          case measure => omega
          case rel =>
            have hb6 := H5.out.alloc (Nat.le_trans (Nat.le_refl _) H5.out.size) (.cells #[.int .u8 0, .slice none 0 0, .int .i64 0, .int .i64 0, .bool false, .slice none 0 0] 27)
            exact ⟨i + 1, hlt, rfl, by simp, (hb6.block _ (isT_of HS.out.1).lt).trans HS.out.1, HS.out.2.trans (hb6.mono HS.out.2.size)⟩
        · obtain rfl : i = 9 := by omega
          clear hgr hbr
          go_wp2_with fail
          go_at_call 18
          refine (HE.out [40, 97, 42, 41, 42] 71 wB aw71.1 (by decide) (by decide) HS.out.2).mono ?_
          rintro e w5 ⟨rfl, hb5⟩
          have H5 := Lib.hid (HS.out.2.trans (hb5.mono HS.out.2.size))
          clear hb5
          go_wp2_with fail
          go_at_call 18
          refine (HE.out [40, 97, 124, 41, 123, 48, 44, 50, 125] 71 w5 aw71.2 (by decide) (by decide) H5.out).mono ?_
          rintro e w6 ⟨rfl, hb6⟩
          have H6 := Lib.hid (H5.out.trans (hb6.mono H5.out.size))
          clear hb6
          go_wp2_with fail
          go_ret
          exact ⟨rfl, H6.out⟩
end Go.Proofs.YtimahlimmblgkaaGreatDoor.Sy
