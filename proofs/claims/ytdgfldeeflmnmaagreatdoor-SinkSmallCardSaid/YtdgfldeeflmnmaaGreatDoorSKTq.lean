/- Texts of the claim, put together: KTq. -/
import Derived.Test.YtdgfldeeflmnmaaGreatDoorSKTm
import Derived.Test.YtdgfldeeflmnmaaGreatDoorSKTr
import Derived.Test.YtdgfldeeflmnmaaGreatDoorSKiA
import Derived.Test.YtdgfldeeflmnmaaGreatDoorSKJb
namespace Go.Proofs.YtdgfldeeflmnmaaGreatDoor.Sk
open Go Go.RowKit
theorem Tryz.info34 : (Tryz.prog.info? 34).map (fun i => (i.zero, i.size, i.bytes)) = some (some (.agg #[.slice none 0 0, .bool false, .int .u64 0, .bool false, .int .i64 0, .int .i64 0]), 6, 64) := by kernel_rfl
theorem lFlat_oneJ {l : List Lab} : ∀ u ∈ lFlat l, u.oneCell' = true := by
  intro u hu
  unfold lFlat at hu
  obtain ⟨x, _, h⟩ := List.mem_flatMap.1 hu
  unfold labB at h
  simp only [List.mem_cons, List.not_mem_nil, or_false] at h
  rcases h with rfl | rfl <;> rfl
set_option maxRecDepth 100000 in
set_option maxHeartbeats 2000000 in
theorem copyL_calls (la : Option Addr) (lc : Nat) (lab : List Lab) (w : World) (h : RdL w la lab) (hnil : la = none → lc = 0) (hn : lab.length ≤ 1000000) :
    Calls Tryz.prog 106 #[.slice la lab.length lc] w fun e w' => ∃ a c, e = .returned (.slice a lab.length c) ∧ LlF w.heap.size w' a c lab ∧ Below w.heap.size w w' := by
  cases la with
  | none =>
    have h0 : lab = [] := by
      rcases Nat.eq_zero_or_pos lab.length with h1 | h1
      · exact List.eq_nil_of_length_eq_zero h1
      · obtain ⟨b, off, e, _⟩ := h (by intro e; subst e; simp at h1)
        cases e
    subst h0
    rw [hnil rfl]
    obtain ⟨i0, hi0, hz0, hz1, hz2⟩ := info_parts Tryz.info79
    have HI0 := Lib.hid hi0
    have HOW : Hid (w.ownsRow w.heap.size 79 2 (.slice none 0 0) 0 []) := Lib.hid (World.ownsRow_nil _ _ _ _)
    clear hi0 hz0 hz1 hz2
    go_enter Tryz.func106, Tryz.ntmps106
    go_wp2_with (at_builtin; refine wpList_append_own_none rfl _ _ 31 rfl w.heap.size 79 i0 2 Tryz.underlying31 HI0.out _ 0 [] rfl HOW.out rfl ?_)
    go_ret
    exact ⟨none, 0, rfl, ⟨⟨RdL.nil _ _, fun _ => ⟨rfl, rfl⟩, fun h => absurd rfl h⟩, fun q e => by cases e⟩, Below.refl _ _⟩
  | some ad =>
    have hnews : ∀ j u, (lFlat lab)[j]? = some u → w.cell? (ad.add j) = some u := fun j u hu => by
      obtain ⟨b, off, e, _, hc⟩ := h.flat (by intro e; rw [e] at hu; cases hu)
      cases e
      rw [Addr.add_lit]
      exact hc j u hu
    have HN := Lib.hid hnews
    have HOW : Hid (w.ownsRow w.heap.size 79 2 (.slice none 0 0) 0 []) := Lib.hid (World.ownsRow_nil _ _ _ _)
    clear hnews h hnil
    go_enter Tryz.func106, Tryz.ntmps106
    go_wp2_with (at_builtin; refine wpList_app rfl _ _ 31 79 2 32 _ rfl Tryz.underlying31 Tryz.info79 rfl (by decide) (by decide) w.heap.size _ 0 [] rfl HOW.out ad lab.length lc (lFlat lab) rfl (lFlat_length lab) HN.out lFlat_oneJ (by omega) (Nat.le_refl _) ?_; intro v4 w4 hown4 _ _ hbel4; have H4 := Lib.hid (And.intro hown4 (hbel4 _ (Below.refl _ _))); clear hown4 hbel4)
    have hown := H4.out.1
    rw [List.nil_append, Nat.zero_add] at hown
    obtain ⟨a9, c9, rfl⟩ := own_form hown
    have H5 := Lib.hid (And.intro hown H4.out.2)
    clear hown H4
    go_wp2_with fail
    go_ret
    exact ⟨a9, c9, rfl, ⟨Ll.of_own H5.out.1, LZ.of_own H5.out.1⟩, H5.out.2⟩
def CpLInv (l : List SE) (w : World) (out i : Value) (wr : World) : Prop :=
  ∃ (k : Nat) (xs : List SE), k ≤ l.length ∧ i = .int .i64 k ∧ wr.ownsRow w.heap.size 34 6 out xs.length (eFlat xs) ∧ xs.map SE.e = (l.take k).map SE.e ∧ (∀ x ∈ xs, LlF w.heap.size wr x.la x.lc x.e.lab) ∧ Below w.heap.size w wr
set_option maxRecDepth 100000 in
set_option maxHeartbeats 4000000 in
theorem copiedJ_calls (a : Option Addr) (c : Nat) (l : List SE) (w : World) (hl : RdEj w a l) (hnil : ∀ x ∈ l, x.la = none → x.lc = 0) (hln : ∀ x ∈ l, x.e.lab.length ≤ 1000000) (hn : l.length ≤ 1000000) :
    Calls Tryz.prog 65 #[.slice a l.length c] w fun e w' => ∃ a' c' xs, e = .returned (.slice a' (List.length xs) c') ∧ w'.ownsRow w.heap.size 34 6 (.slice a' xs.length c') xs.length (eFlat xs) ∧ xs.map SE.e = l.map SE.e ∧ (∀ x ∈ xs, LlF w.heap.size w' x.la x.lc x.e.lab) ∧ Below w.heap.size w w' := by
  have HR := Lib.hid (And.intro hl (And.intro hnil hln))
  clear hl hnil hln
  go_enter Tryz.func65, Tryz.ntmps65
  go_wp2_with fail
  go_loopw [3, 8] (fun out i wr => CpLInv l w out i wr) (fun _ i _ => l.length - (intOf i).toNat)
  case atStart => exact ⟨0, [], Nat.zero_le _, rfl, World.ownsRow_nil _ _ _ _, rfl, (fun x hx => by cases hx), Below.refl _ _⟩
  case round =>
    obtain ⟨k, xs, hk, rfl, hown, hm, hlx, hb⟩ := hrel
    obtain ⟨w1, hw1⟩ : ∃ q, q = wr := ⟨_, rfl⟩
    subst hw1
    have hxl : xs.length = k := by have := congrArg List.length hm; rw [List.length_map, List.length_map, List.length_take] at this; omega
    have hs1 := hb.size
    have H1 := Lib.hid (And.intro hown (And.intro hm (And.intro hlx hb)))
    clear hown hm hlx hb
    by_cases hlt : k < l.length
    · obtain ⟨x, hx⟩ : ∃ x, l[k]? = some x := ⟨_, List.getElem?_eq_getElem hlt⟩
      have hxm := List.mem_of_getElem? hx
      obtain ⟨b, off, rfl, hbl, hc⟩ := (HR.out.1.below H1.out.2.2.2).at_ hx
      have c0 := hc 0 _ rfl
      rw [Nat.add_zero] at c0
      have c1 := hc 1 _ rfl
      have c2 := hc 2 _ rfl
      have c3 := hc 3 _ rfl
      have c4 := hc 4 _ rfl
      have c5 := hc 5 _ rfl
      have HX := Lib.hid (And.intro hx hxm)
      clear hc hx hxm
      go_wp2_with fail
      go_at_call 106
      obtain ⟨w2, hw2⟩ : ∃ q, q = w1.alloc (.cells #[.slice x.la x.e.lab.length x.lc, .bool x.e.mark, .int .u64 x.e.bits, .bool x.e.st, .int .i64 x.e.time, .int .i64 x.e.stamp] 34) := ⟨_, rfl⟩
      obtain ⟨gY, hgY⟩ : ∃ q, q = w1.heap.size := ⟨_, rfl⟩
      have hb2 : Below w1.heap.size w1 w2 := by rw [hw2]; exact (Below.refl _ _).alloc (Nat.le_refl _) _
      have hk2 : w2.heap[gY]? = some (.cells #[.slice x.la x.e.lab.length x.lc, .bool x.e.mark, .int .u64 x.e.bits, .bool x.e.st, .int .i64 x.e.time, .int .i64 x.e.stamp] 34 (0, 0)) := by rw [hw2, hgY]; exact heap_alloc_new w1 _
      rw [← hw2, ← hgY]
      have H2 := Lib.hid (And.intro hb2 (And.intro hk2 (show w1.heap.size ≤ gY by omega)))
      clear hw2 hgY hb2 hk2 c0 c1 c2 c3 c4 c5
      refine (copyL_calls x.la x.lc x.e.lab w2 ((HR.out.1.lab x HX.out.2).below (Bthen H1.out.2.2.2 H2.out.1) (Nat.le_refl _)) (HR.out.2.1 x HX.out.2) (HR.out.2.2 x HX.out.2)).mono ?_
      rintro e w3 ⟨a3, c3, rfl, hl3, hb3⟩
      have hk3 := (hb3.block _ (isT_of H2.out.2.1).lt).trans H2.out.2.1
      have hb13 := Bthen H2.out.1 hb3
      obtain ⟨w4, hw4⟩ : ∃ q, q = w3.setCell ⟨gY, 0, none⟩ (.slice a3 x.e.lab.length c3) := ⟨_, rfl⟩
      have hk4 : w4.heap[gY]? = some (.cells #[.slice a3 x.e.lab.length c3, .bool x.e.mark, .int .u64 x.e.bits, .bool x.e.st, .int .i64 x.e.time, .int .i64 x.e.stamp] 34 (0, 0)) := by rw [hw4]; exact blk_setM hk3 0 _
      have hf34 : Fr (fun k => k = gY) w3 w4 := by rw [hw4]; exact Fr.setCell (X := fun k => k = gY) (p := ⟨gY, 0, none⟩) (Fr.refl (fun k => k = gY) w3) rfl _
      have hb14 : Below w1.heap.size w1 w4 := by rw [hw4]; exact hb13.setCell (p := ⟨gY, 0, none⟩) H2.out.2.2 _
      have hl4 : LlF w.heap.size w4 a3 c3 x.e.lab := (hl3.mono (by have := H2.out.1.size; omega)).fr hf34 (fun b hb e => hb.ne (isT_of hk3) (by decide) e)
      have z0 := block_froz hk3 0
      have y0 := block_cell hk3 0 _ rfl
      have hyl := (isT_of hk3).lt
      have H4 := Lib.hid (And.intro hk4 (And.intro hb14 (And.intro hl4 hw4)))
      clear hl3 hb3 hk3 hb13 hw4 hk4 hf34 hb14 hl4
      go_upto_region 6 with fail
      rw [← H4.out.2.2.2]
      have x0 := block_cell H4.out.1 0 _ rfl
      have x1 := block_cell H4.out.1 1 _ rfl
      have x2 := block_cell H4.out.1 2 _ rfl
      have x3 := block_cell H4.out.1 3 _ rfl
      have x4 := block_cell H4.out.1 4 _ rfl
      have x5 := block_cell H4.out.1 5 _ rfl
      have hxl4 := (isT_of H4.out.1).lt
      have H5 := Lib.hid (And.intro (own_fr H1.out.1 (Fr.of_below H4.out.2.1) (fun b hb hx => by have h1 := (own_isT H1.out.1 hb).lt; have hx : w1.heap.size ≤ b := hx; omega)) (And.intro (H1.out.2.2.2.trans (H4.out.2.1.mono hs1)) (And.intro H4.out.2.2.1 (fun y (hy : y ∈ xs) => (H1.out.2.2.1 y hy).below H4.out.2.1 (Nat.le_refl _)))))
      have hs4 := H5.out.2.1.size
      clear y0 z0 hyl H4 H2
      go_wp2_with (at_builtin; refine wpList_app rfl _ _ 45 34 6 64 _ rfl Tryz.underlying45 Tryz.info34 rfl (by decide) (by decide) w.heap.size _ xs.length (eFlat xs) rfl (H5.out.1.alloc _) ⟨w4.heap.size, 0, none⟩ 1 1 (eB ⟨a3, c3, x.e⟩) rfl rfl (cells_new w4 #[.slice a3 x.e.lab.length c3, .bool x.e.mark, .int .u64 x.e.bits, .bool x.e.st, .int .i64 x.e.time, .int .i64 x.e.stamp] _ _ rfl) eB_oneJ (by omega) (by simp; omega) ?_; intro v6 w6 hown6 hgrow6 _ hbel6; have H6 := Lib.hid (And.intro hown6 (And.intro (hbel6 _ (H5.out.2.1.alloc hs4 _)) hgrow6)); clear hown6 hbel6 hgrow6)
      go_roundw
      case rel =>
        have hba : Below w4.heap.size w4 (w4.alloc (.cells #[.slice a3 x.e.lab.length c3, .bool x.e.mark, .int .u64 x.e.bits, .bool x.e.st, .int .i64 x.e.time, .int .i64 x.e.stamp] 34)) := (Below.refl _ _).alloc (Nat.le_refl _) _
        have hg : ∀ {a : Option Addr} {c : Nat} {m : List Lab}, LlF w.heap.size w4 a c m → LlF w.heap.size w6 a c m := fun h => llF_grown (H5.out.1.alloc _) (by decide) H6.out.2.2 (h.below hba (Nat.le_refl _))
        refine ⟨k + 1, xs ++ [⟨a3, c3, x.e⟩], by omega, by go_num, by rw [eFlat_snoc, List.length_append]; exact H6.out.1, ?_, fun y hy => ?_, H6.out.2.1⟩
        · rw [List.map_append, H1.out.2.1, List.take_add_one, HX.out.1, List.map_append]
          rfl
        · rcases List.mem_append.1 hy with h | h
          · exact hg (H5.out.2.2.2 y h)
          · rw [List.mem_singleton.1 h]
            exact hg H5.out.2.2.1
      case measure => simp [intOf]; omega
    · obtain rfl : k = l.length := by omega
      obtain ⟨ao, co, rfl⟩ := own_form H1.out.1
      have hm := H1.out.2.1
      rw [List.take_of_length_le (Nat.le_refl _)] at hm
      have HM := Lib.hid hm
      clear hm
      go_wp2_with fail
      go_ret
      exact ⟨ao, co, xs, rfl, H1.out.1, HM.out, H1.out.2.2.1, H1.out.2.2.2⟩
set_option maxRecDepth 100000 in
set_option maxHeartbeats 4000000 in
theorem entries1_yes (la lb : Option Addr) (lc cb : Nat) (e : Ent) (w : World) (ha : RdL w la e.lab) (hb : RdL w lb e.lab) (hl : e.lab.length ≤ 1000000000) (zl : LabZ e.lab) :
    Calls Tryz.prog 109 #[.agg #[.slice la e.lab.length lc, .bool e.mark, .int .u64 e.bits, .bool e.st, .int .i64 e.time, .int .i64 e.stamp], .agg #[.slice lb e.lab.length cb, .bool e.mark, .int .u64 e.bits, .bool e.st, .int .i64 e.time, .int .i64 e.stamp]] w (TdPost (.bool true) w) := by
  obtain ⟨w2, hw2⟩ : ∃ q, q = (w.alloc (.cells #[.slice la e.lab.length lc, .bool e.mark, .int .u64 e.bits, .bool e.st, .int .i64 e.time, .int .i64 e.stamp] 34)).alloc (.cells #[.slice lb e.lab.length cb, .bool e.mark, .int .u64 e.bits, .bool e.st, .int .i64 e.time, .int .i64 e.stamp] 68) := ⟨_, rfl⟩
  have hb2 : Below w.heap.size w w2 := by rw [hw2]; exact ((Below.refl _ _).alloc (Nat.le_refl _) _).alloc (by simp) _
  have HC := Lib.hid (And.intro (same_yes ⟨#[]⟩ la lb lc cb e w2 (ha.below hb2 (Nat.le_refl _)) (hb.below hb2 (Nat.le_refl _)) hl zl) (And.intro hb2 hw2))
  clear ha hb hl zl hb2
  go_enter Tryz.func109, Tryz.ntmps109
  go_wp2_with fail
  go_at_call 78
  rw [← HC.out.2.2]
  refine HC.out.1.mono ?_
  rintro en w3 ⟨rfl, hb3⟩
  have HB := Lib.hid (HC.out.2.1.trans (hb3.mono HC.out.2.1.size))
  clear hb3 hw2
  go_wp2_with fail
  go_ret
  exact ⟨rfl, HB.out⟩
theorem mapE_at {l m : List SE} (h : l.map SE.e = m.map SE.e) {k : Nat} {x : SE} (hx : l[k]? = some x) : ∃ y, m[k]? = some y ∧ y.e = x.e := by
  have h1 : (l.map SE.e)[k]? = some x.e := by rw [List.getElem?_map, hx]; rfl
  rw [h, List.getElem?_map] at h1
  cases hy : m[k]? with
  | none => rw [hy] at h1; cases h1
  | some y =>
    rw [hy] at h1
    exact ⟨y, rfl, Option.some.inj h1⟩
set_option maxRecDepth 100000 in
set_option maxHeartbeats 4000000 in
theorem eqE_yes (a b : Option Addr) (ca cb : Nat) (l m : List SE) (w : World) (ha : RdEj w a l) (hb : RdEj w b m) (ho : EOk l) (hs : l.length ≤ 1000000000) (he : l.map SE.e = m.map SE.e) :
    Calls Tryz.prog 108 #[.slice a l.length ca, .slice b m.length cb, .func (Fn.func 109) #[] #[]] w (TdPost (.bool true) w) := by
  have hlen : l.length = m.length := by have := congrArg List.length he; simpa using this
  have hneq : ((l.length : Int) != (m.length : Int)) = false := by simp; omega
  have hl1 : l.length ≤ m.length := by omega
  have hl2 : m.length ≤ l.length := by omega
  have H := Lib.hid (And.intro ha (And.intro hb (And.intro ho he)))
  clear ha hb ho he hlen
  go_enter Tryz.func108, Tryz.ntmps108
  go_wp2_with fail
  go_loopw [17] (fun i wr => ∃ k : Nat, k ≤ l.length ∧ i = .int .i64 k ∧ Below w.heap.size w wr) (fun i _ => l.length - (intOf i).toNat)
  case atStart => exact ⟨0, Nat.zero_le _, rfl, Below.refl _ _⟩
  case round =>
    obtain ⟨k, hk, rfl, hbr⟩ := hrel
    have hbs := hbr.size
    have HB := Lib.hid hbr
    clear hbr
    by_cases hlt : k < l.length
    · obtain ⟨x, hx⟩ : ∃ x, l[k]? = some x := ⟨_, List.getElem?_eq_getElem hlt⟩
      obtain ⟨y, hy, ee⟩ := mapE_at H.out.2.2.2 hx
      obtain ⟨ba, oa, rfl, hla, hca⟩ := (H.out.1.below HB.out).at_ hx
      obtain ⟨bb, ob, rfl, hlb, hcb⟩ := (H.out.2.1.below HB.out).at_ hy
      have hxm := List.mem_of_getElem? hx
      have hym := List.mem_of_getElem? hy
      have hrx := (H.out.1.lab x hxm).below HB.out (Nat.le_refl _)
      have hry := (H.out.2.1.lab y hym).below HB.out (Nat.le_refl _)
      have hox := And.intro (H.out.2.2.1.ln x hxm) (H.out.2.2.1.sz x hxm)
      obtain ⟨ya, yc, ye⟩ := y
      dsimp only at ee
      subst ee
      have HX := Lib.hid (And.intro hrx (And.intro hry hox))
      have c0 := hca 0 _ rfl
      rw [Nat.add_zero] at c0
      have c1 := hca 1 _ rfl
      have c2 := hca 2 _ rfl
      have c3 := hca 3 _ rfl
      have c4 := hca 4 _ rfl
      have c5 := hca 5 _ rfl
      have d0 := hcb 0 _ rfl
      rw [Nat.add_zero] at d0
      have d1 := hcb 1 _ rfl
      have d2 := hcb 2 _ rfl
      have d3 := hcb 3 _ rfl
      have d4 := hcb 4 _ rfl
      have d5 := hcb 5 _ rfl
      have hlt2 : k < m.length := by omega
      obtain ⟨w0, hw0⟩ : ∃ q, q = wr := ⟨_, rfl⟩
      subst hw0
      clear hca hcb hx hy hxm hym hrx hry hox
      go_wp2_with fail
      go_at_call 109
      have hb2 : Below w0.heap.size w0 ((w0.alloc (.cells (eB x).toArray 34)).alloc (.cells (eB ⟨ya, yc, x.e⟩).toArray 68)) := ((Below.refl _ _).alloc (Nat.le_refl _) _).alloc (by simp) _
      refine (entries1_yes x.la ya x.lc yc x.e _ (HX.out.1.below hb2 (Nat.le_refl _)) (HX.out.2.1.below hb2 (Nat.le_refl _)) HX.out.2.2.1 HX.out.2.2.2).mono ?_
      rintro en w1 ⟨rfl, hb1⟩
      have HB1 : Hid (Below w.heap.size w w1) := Lib.hid ((HB.out.trans (hb2.mono hbs)).trans (hb1.mono (by simp; omega)))
      clear hb1 hb2 c0 c1 c2 c3 c4 c5 d0 d1 d2 d3 d4 d5
      go_wp2
      go_roundw
      case rel => exact ⟨k + 1, by omega, by go_num, HB1.out⟩
      case measure => simp [intOf]; omega
    · go_wp2
      go_ret
      exact ⟨rfl, HB.out⟩
set_option maxRecDepth 100000 in
theorem entries_yes (a b : Option Addr) (ca cb : Nat) (l m : List SE) (w : World) (ha : RdEj w a l) (hb : RdEj w b m) (ho : EOk l) (hs : l.length ≤ 1000000000) (he : l.map SE.e = m.map SE.e) :
    Calls Tryz.prog 67 #[.slice a l.length ca, .slice b m.length cb] w (TdPost (.bool true) w) := by
  have H := Lib.hid (eqE_yes a b ca cb l m w ha hb ho hs he)
  clear ha hb ho he
  go_enter Tryz.func67, Tryz.ntmps67
  go_wp2_with fail
  go_at_call 108
  refine H.out.mono ?_
  rintro en w1 ⟨rfl, hb1⟩
  have HB := Lib.hid hb1
  clear hb1
  go_wp2
  go_ret
  exact ⟨rfl, HB.out⟩
end Go.Proofs.YtdgfldeeflmnmaaGreatDoor.Sk
namespace Go.Proofs.YtdgfldeeflmnmaaGreatDoor.Sk
open Go Go.RowKit
/-- a call of Append: a key, and entries with their place -/
structure CA where
  key : ByteArray
  ea : Option Addr
  ec : Nat
  es : List SE
def cB2 (x : CA) : List Value := [.string x.key, .slice x.ea x.es.length x.ec]
def cFlat (l : List CA) : List Value := l.flatMap cB2
theorem cFlat_length (l : List CA) : (cFlat l).length = l.length * 2 := flat_len cB2 2 (fun _ => rfl) l
/-- the slice at a reads as the calls l -/
structure RdC (w : World) (a : Option Addr) (l : List CA) : Prop where
  rd : RdF w a (cFlat l)
  es : ∀ x ∈ l, RdEj w x.ea x.es
theorem RdC.below {w w' : World} {a : Option Addr} {l : List CA} (h : RdC w a l) (hb : Below w.heap.size w w') : RdC w' a l := ⟨h.rd.below hb, fun x hx => (h.es x hx).below hb⟩
theorem RdC.at_ {w : World} {a : Option Addr} {l : List CA} (h : RdC w a l) {k : Nat} {x : CA} (hx : l[k]? = some x) :
    ∃ b off, a = some ⟨b, off, none⟩ ∧ b < w.heap.size ∧ ∀ j u, (cB2 x)[j]? = some u → w.cell? ⟨b, off + k * 2 + j, none⟩ = some u := by
  obtain ⟨b, off, e, hl, hc⟩ := h.rd (by
    intro e
    have h1 := congrArg List.length e
    rw [cFlat_length] at h1
    have h2 := (List.getElem?_eq_some_iff.1 hx).1
    simp at *
    omega)
  refine ⟨b, off, e, hl, fun j u hu => ?_⟩
  rw [Nat.add_assoc]
  exact hc _ _ (flat_at cB2 2 (fun _ => rfl) hx hu)
/-- how many entries they have together -/
def sumC (l : List CA) : Nat := (l.map fun x => x.es.length).sum
theorem sumC_snoc {l : List CA} {k : Nat} {x : CA} (hx : l[k]? = some x) : sumC (l.take (k + 1)) = sumC (l.take k) + x.es.length := by
  unfold sumC
  rw [List.take_add_one, hx]
  simp
theorem sumC_le (l : List CA) (k : Nat) : sumC (l.take k) ≤ sumC l := by
  have h : sumC l = sumC (l.take k) + sumC (l.drop k) := by
    unfold sumC
    rw [← List.sum_append, ← List.map_append, List.take_append_drop]
  omega
def LitOk (l : List CA) : Prop := l.length ≤ 30 ∧ sumC l ≤ 60 ∧ ∀ x ∈ l, ∀ y ∈ x.es, y.e.lab.length ≤ 70
def LitPost (l : List CA) (e : Ending) : Prop := ∃ b, e = .returned (.bool b) ∧ (b = true → LitOk l)
set_option maxRecDepth 100000 in
set_option maxHeartbeats 4000000 in
theorem little_calls (a : Option Addr) (c : Nat) (l : List CA) (w : World) (hl : RdC w a l) (hn : l.length ≤ 1100000) (hs : sumC l ≤ 1100000) :
    Calls Tryz.prog 64 #[.slice a l.length c] w fun e w' => LitPost l e ∧ Below w.heap.size w w' := by
  have HR := Lib.hid hl
  clear hl
  go_enter Tryz.func64, Tryz.ntmps64
  go_wp2_with fail
  go_loopw [3, 10] (fun n i wr => ∃ k m : Nat, k ≤ l.length ∧ i = .int .i64 k ∧ n = .int .i64 m ∧ m = sumC (l.take k) ∧ (∀ x ∈ l.take k, ∀ y ∈ x.es, y.e.lab.length ≤ 70) ∧ Below w.heap.size w wr) (fun _ i _ => l.length - (intOf i).toNat)
  case atStart => exact ⟨0, 0, Nat.zero_le _, rfl, rfl, rfl, (fun x hx => by cases hx), Below.refl _ _⟩
  case round =>
    obtain ⟨k, m, hk, rfl, rfl, hm, hall, hb⟩ := hrel
    obtain ⟨w1, hw1⟩ : ∃ q, q = wr := ⟨_, rfl⟩
    subst hw1
    have hmle : m ≤ 1100000 := by rw [hm]; exact Nat.le_trans (sumC_le l k) hs
    have H1 := Lib.hid (And.intro hm (And.intro hall hb))
    clear hm hall hb
    by_cases hlt : k < l.length
    · obtain ⟨x, hx⟩ : ∃ x, l[k]? = some x := ⟨_, List.getElem?_eq_getElem hlt⟩
      have hxm := List.mem_of_getElem? hx
      obtain ⟨b, off, rfl, hbl, hc⟩ := (HR.out.below H1.out.2.2).at_ hx
      have c0 := hc 0 _ rfl
      rw [Nat.add_zero] at c0
      have c1 := hc 1 _ rfl
      have hsum : m + x.es.length ≤ 1100000 := by
        have h1 := sumC_le l (k + 1)
        rw [sumC_snoc hx, ← H1.out.1] at h1
        omega
      have HX := Lib.hid (And.intro hx hxm)
      clear hc hx hxm
      go_wp2_with fail
      obtain ⟨w2, hw2⟩ : ∃ q, q = w1.alloc (.cells #[.string x.key, .slice x.ea x.es.length x.ec] 61) := ⟨_, rfl⟩
      have hb2 : Below w1.heap.size w1 w2 := by rw [hw2]; exact (Below.refl _ _).alloc (Nat.le_refl _) _
      rw [← hw2]
      have H2 := Lib.hid (Bthen H1.out.2.2 hb2)
      clear hw2 hb2 c0 c1
      go_loopw [22] (fun i wr => ∃ j : Nat, j ≤ x.es.length ∧ i = .int .i64 j ∧ (∀ y ∈ x.es.take j, y.e.lab.length ≤ 70) ∧ Below w2.heap.size w2 wr) (fun i _ => x.es.length - (intOf i).toNat)
      case atStart => exact ⟨0, Nat.zero_le _, rfl, (fun y hy => by cases hy), Below.refl _ _⟩
      case round =>
        obtain ⟨j, hj, rfl, hall, hb3⟩ := hrel
        obtain ⟨w3, hw3⟩ : ∃ q, q = wr := ⟨_, rfl⟩
        subst hw3
        have hs3 := hb3.size
        have H3 := Lib.hid (And.intro hall (And.intro hb3 (Bthen H2.out hb3)))
        clear hall hb3
        by_cases hjl : j < x.es.length
        · obtain ⟨y, hy⟩ : ∃ y, x.es[j]? = some y := ⟨_, List.getElem?_eq_getElem hjl⟩
          obtain ⟨be, oe, hea, hbe, hce⟩ := ((HR.out.es x HX.out.2).below H3.out.2.2).at_ hy
          rw [hea]
          have d0 := hce 0 _ rfl
          rw [Nat.add_zero] at d0
          have d1 := hce 1 _ rfl
          have d2 := hce 2 _ rfl
          have d3 := hce 3 _ rfl
          have d4 := hce 4 _ rfl
          have d5 := hce 5 _ rfl
          have HY := Lib.hid (And.intro hy hea)
          clear hce hy hea
          have HB3 : Hid (∀ o, Below w2.heap.size w2 (w3.alloc o) ∧ Below w.heap.size w (w3.alloc o)) := Lib.hid (fun o => ⟨H3.out.2.1.alloc hs3 _, H3.out.2.2.alloc H3.out.2.2.size _⟩)
          by_cases h70 : 70 < y.e.lab.length
          · go_wp2_with fail
            go_ret
            exact ⟨⟨false, rfl, fun h => by cases h⟩, (HB3.out _).2⟩
          · have HN : Hid (∀ z ∈ x.es.take (j + 1), z.e.lab.length ≤ 70) := Lib.hid (fun z hz => by
              rw [List.take_add_one, HY.out.1] at hz
              rcases List.mem_append.1 hz with h | h
              · exact H3.out.1 z h
              · rw [List.mem_singleton.1 h]; omega)
            go_wp2_with fail
            go_roundw
            case rel => exact ⟨j + 1, by omega, by go_num, HN.out, (HB3.out _).1⟩
            case measure => simp [intOf]; omega
        · obtain rfl : j = x.es.length := by omega
          have hall := H3.out.1
          rw [List.take_of_length_le (Nat.le_refl _)] at hall
          have HA := Lib.hid hall
          clear hall
          go_wp2_with fail
          go_roundw
          case rel =>
            refine ⟨k + 1, m + x.es.length, by omega, by go_num, by go_num, ?_, fun z hz => ?_, H3.out.2.2⟩
            · rw [sumC_snoc HX.out.1, ← H1.out.1]
            · rw [List.take_add_one, HX.out.1] at hz
              rcases List.mem_append.1 hz with h | h
              · exact H1.out.2.1 z h
              · rw [List.mem_singleton.1 h]; exact HA.out
          case measure => simp [intOf]; omega
    · obtain rfl : k = l.length := by omega
      have h1 := H1.out.1
      have h2 := H1.out.2.1
      rw [List.take_of_length_le (Nat.le_refl _)] at h1 h2
      have HE := Lib.hid (And.intro h1 h2)
      clear h1 h2
      by_cases h30 : l.length ≤ 30
      · by_cases h60 : m ≤ 60
        · have HL : Hid (LitOk l) := Lib.hid ⟨h30, by rw [← HE.out.1]; exact h60, HE.out.2⟩
          go_wp2_with fail
          go_ret
          exact ⟨⟨_, rfl, fun _ => HL.out⟩, H1.out.2.2⟩
        · go_wp2_with fail
          go_ret
          exact ⟨⟨decide ((m : Int) ≤ 60), rfl, fun h => absurd (of_decide_eq_true h) (by omega)⟩, H1.out.2.2⟩
      · go_wp2_with fail
        go_ret
        exact ⟨⟨false, rfl, fun h => by cases h⟩, H1.out.2.2⟩
/-- the blocks of lists of labels -/
def SlX (l : List LL) (k : Nat) : Prop := ∃ x ∈ l, ∃ q : Addr, x.la = some q ∧ k = q.block
def SlS (l : List LL) (w : World) : Prop := ∀ x ∈ l, (x.la = none → x.lab = [] ∧ x.lc = 0) ∧ ∀ q, x.la = some q → q = ⟨q.block, 0, none⟩ ∧ x.lab.length ≤ x.lc ∧ x.lc ≤ 9223372036854775807 ∧ LBk w q.block x.lc
theorem slS_of {B : Nat} {l : List LL} {w : World} (h : ∀ x ∈ l, LlF B w x.la x.lc x.lab) : SlS l w := fun x hx => ⟨(h x hx).ll.nil, fun q e => by
  obtain ⟨h1, h2⟩ := (h x hx).lz.bk e
  obtain ⟨_, _, _, _, _, _, h3⟩ := (h x hx).lz q e
  exact ⟨h1, (h x hx).le, h3, h2⟩⟩
set_option maxRecDepth 100000 in
set_option maxHeartbeats 4000000 in
theorem over_nil (w : World) : Calls Tryz.prog 158 #[.slice none 0 0] w fun e w' => e = .returned (.tuple #[]) ∧ w' = w := by
  go_enter Tryz.func158, Tryz.ntmps158
  go_wp2_with fail
  go_loopw [3] (fun i wr => i = .int .i64 0 ∧ wr = w) (fun _ _ => 0)
  case atStart => exact ⟨rfl, rfl⟩
  case round =>
    obtain ⟨rfl, rfl⟩ := hrel
    go_wp2_with fail
    go_end0
    exact ⟨rfl, rfl⟩
theorem SlS.fr {l : List LL} {w w' : World} {b c : Nat} (h : SlS l w) (hf : Fr (fun k => k = b) w w') (hb : LBk w' b c) (hbc : ∀ x ∈ l, ∀ q : Addr, x.la = some q → q.block = b → x.lc = c) : SlS l w' := fun x hx => ⟨(h x hx).1, fun q e => by
  obtain ⟨h1, h2, h3, h4⟩ := (h x hx).2 q e
  refine ⟨h1, h2, h3, ?_⟩
  by_cases hq : q.block = b
  · rw [hbc x hx q e hq, hq]; exact hb
  · obtain ⟨cur, k1, k2⟩ := h4
    exact ⟨cur, (hf.block _ (isT_of k1).lt hq).trans k1, k2⟩⟩
theorem SlS.same {l : List LL} {w : World} (h : SlS l w) {x y : LL} (hx : x ∈ l) (hy : y ∈ l) {p q : Addr} (hp : x.la = some p) (hq : y.la = some q) (e : q.block = p.block) : y.lc = x.lc := by
  obtain ⟨_, _, _, c1, k1, k2⟩ := (h x hx).2 p hp
  obtain ⟨_, _, _, c2, j1, j2⟩ := (h y hy).2 q hq
  rw [e, k1] at j1
  cases j1
  omega
set_option maxRecDepth 100000 in
set_option maxHeartbeats 4000000 in
theorem spoilLL_calls (a : Option Addr) (c : Nat) (l : List LL) (w : World) (hl : RdF w a (l.map llB)) (hrow : ∀ q, a = some q → isT w q.block 31) (hs : SlS l w) (hn : l.length ≤ 1000000) :
    Calls Tryz.prog 115 #[.slice a l.length c] w fun e w' => e = .returned (.tuple #[]) ∧ Fr (SlX l) w w' := by
  have HR := Lib.hid (And.intro hl (And.intro hrow hs))
  clear hl hrow hs
  go_enter Tryz.func115, Tryz.ntmps115
  go_wp2_with fail
  go_loopw [2] (fun i wr => ∃ k : Nat, k ≤ l.length ∧ i = .int .i64 k ∧ Fr (SlX l) w wr ∧ SlS l wr) (fun i _ => l.length - (intOf i).toNat)
  case atStart => exact ⟨0, Nat.zero_le _, rfl, Fr.refl _ _, HR.out.2.2⟩
  case round =>
    obtain ⟨k, hk, rfl, hf, hsp⟩ := hrel
    obtain ⟨w1, hw1⟩ : ∃ q, q = wr := ⟨_, rfl⟩
    subst hw1
    by_cases hlt : k < l.length
    · obtain ⟨x, hx⟩ : ∃ x, l[k]? = some x := ⟨_, List.getElem?_eq_getElem hlt⟩
      have hxm := List.mem_of_getElem? hx
      have hne : ∀ q, a = some q → ¬ SlX l q.block := fun q e hX => by
        obtain ⟨y, hy, p, ep, e2⟩ := hX
        have h1 := (((HR.out.2.2 y hy).2 p ep).2.2.2).isT
        exact h1.ne (HR.out.2.1 q e) (by decide) e2.symm
      have hrd : RdF w1 a (l.map llB) := HR.out.1.fr hf hne
      obtain ⟨b, off, e, hbl, hc⟩ := hrd (by intro e; have h1 := congrArg List.length e; rw [List.length_map] at h1; simp only [List.length_nil] at h1; omega)
      subst e
      have c0 := hc k (llB x) (by rw [List.getElem?_map, hx]; rfl)
      have H1 := Lib.hid (And.intro hf (And.intro hsp hxm))
      clear hf hne hrd hc hx
      rcases hla : x.la with _ | q
      · obtain ⟨h0, hc0⟩ := (hsp x hxm).1 hla
        rw [show llB x = .slice none 0 0 by unfold llB; rw [hla, h0, hc0]; rfl] at c0
        clear hsp hxm h0 hc0 hla
        go_wp2_with fail
        go_at_call 158
        refine (over_nil w1).mono ?_
        rintro e w2 ⟨rfl, rfl⟩
        go_wp2_with fail
        go_roundw
        case rel => exact ⟨k + 1, by omega, by go_num, H1.out.1, H1.out.2.1⟩
        case measure => simp [intOf]; omega
      · obtain ⟨hq, hle, hcm, hbk⟩ := (hsp x hxm).2 q hla
        rw [show llB x = .slice (some ⟨q.block, 0, none⟩) x.lab.length x.lc by unfold llB; rw [hla, hq]] at c0
        have HX := Lib.hid hla
        have hcall := over_calls q.block x.lab.length x.lc w1 hbk hle hcm
        clear hsp hxm hq hbk hla
        go_wp2_with fail
        go_at_call 158
        refine hcall.mono ?_
        clear hcall
        rintro e w2 ⟨rfl, hf2, hb2⟩
        have H2 : Hid (Fr (SlX l) w w2 ∧ SlS l w2) := Lib.hid ⟨H1.out.1.trans ⟨hf2.os, hf2.tape, hf2.output, hf2.size, fun j hj hX => hf2.block j hj (fun e => hX ⟨x, H1.out.2.2, q, HX.out, e⟩)⟩, H1.out.2.1.fr hf2 hb2 (fun y hy p ep e => H1.out.2.1.same H1.out.2.2 hy HX.out ep e)⟩
        clear hf2 hb2
        go_wp2_with fail
        go_roundw
        case rel => exact ⟨k + 1, by omega, by go_num, H2.out.1, H2.out.2⟩
        case measure => simp [intOf]; omega
    · have HE := Lib.hid hf
      clear hf hsp
      go_wp2_with fail
      go_end0
      exact ⟨rfl, HE.out⟩
end Go.Proofs.YtdgfldeeflmnmaaGreatDoor.Sk
namespace Go.Proofs.YtdgfldeeflmnmaaGreatDoor.Sk
open Go Go.RowKit
set_option maxRecDepth 100000 in
set_option maxHeartbeats 4000000 in
theorem same1G_yes (key : ByteArray) (la lb : Option Addr) (lc cb : Nat) (e : Ent) (w : World) (ha : RdL w la e.lab) (hb : RdL w lb e.lab) (hl : e.lab.length ≤ 1000000000) (zl : LabZ e.lab) :
    Calls Tryz.prog 119 #[.agg #[.string key, .slice la e.lab.length lc, .bool e.mark, .int .u64 e.bits, .bool e.st, .int .i64 e.time, .int .i64 e.stamp], .agg #[.string key, .slice lb e.lab.length cb, .bool e.mark, .int .u64 e.bits, .bool e.st, .int .i64 e.time, .int .i64 e.stamp]] w
      (TdPost (.bool true) w) := by
  obtain ⟨w1, hw1⟩ : ∃ q, q = w.alloc (.cells #[.string key, .slice la e.lab.length lc, .bool e.mark, .int .u64 e.bits, .bool e.st, .int .i64 e.time, .int .i64 e.stamp] 40) := ⟨_, rfl⟩
  obtain ⟨w2, hw2⟩ : ∃ q, q = w1.alloc (.cells #[.string key, .slice lb e.lab.length cb, .bool e.mark, .int .u64 e.bits, .bool e.st, .int .i64 e.time, .int .i64 e.stamp] 70) := ⟨_, rfl⟩
  have hz1 : w1.heap.size = w.heap.size + 1 := by rw [hw1]; simp
  have hb1 : Below w.heap.size w w1 := by rw [hw1]; exact (Below.refl _ _).alloc (Nat.le_refl _) _
  have hb2 : Below w1.heap.size w1 w2 := by rw [hw2]; exact (Below.refl _ _).alloc (Nat.le_refl _) _
  have hbk1 : w2.heap[w.heap.size]? = some (.cells #[.string key, .slice la e.lab.length lc, .bool e.mark, .int .u64 e.bits, .bool e.st, .int .i64 e.time, .int .i64 e.stamp] 40 (0, 0)) := (hb2.block _ (by omega)).trans (by rw [hw1]; exact heap_alloc_new w _)
  obtain ⟨gy, hgy⟩ : ∃ q, q = w.heap.size + 1 := ⟨_, rfl⟩
  obtain ⟨gx, hgx⟩ : ∃ q, q = w.heap.size := ⟨_, rfl⟩
  rw [← hgx] at hbk1
  have hbk2 : w2.heap[gy]? = some (.cells #[.string key, .slice lb e.lab.length cb, .bool e.mark, .int .u64 e.bits, .bool e.st, .int .i64 e.time, .int .i64 e.stamp] 70 (0, 0)) := by rw [hgy, ← hz1, hw2]; exact heap_alloc_new w1 _
  have hbw := Bthen hb1 hb2
  have HL := Lib.hid (And.intro (ha.below hbw (Nat.le_refl _)) (And.intro hl (And.intro zl hbw)))
  have HLB := Lib.hid (hb.below hbw (Nat.le_refl _))
  have HSK : Hid (∀ w' : World, Below w2.heap.size w2 w' → w'.cell? ⟨gx, 0, none⟩ = some (.string key) ∧ w'.cell? ⟨gx, 1, none⟩ = some (.slice la e.lab.length lc) ∧ w'.cell? ⟨gx, 2, none⟩ = some (.bool e.mark) ∧ w'.cell? ⟨gx, 3, none⟩ = some (.int .u64 e.bits) ∧ w'.cell? ⟨gx, 4, none⟩ = some (.bool e.st) ∧ w'.cell? ⟨gx, 5, none⟩ = some (.int .i64 e.time) ∧ w'.cell? ⟨gx, 6, none⟩ = some (.int .i64 e.stamp) ∧ w'.cell? ⟨gy, 0, none⟩ = some (.string key) ∧ w'.cell? ⟨gy, 1, none⟩ = some (.slice lb e.lab.length cb) ∧ w'.cell? ⟨gy, 2, none⟩ = some (.bool e.mark) ∧ w'.cell? ⟨gy, 3, none⟩ = some (.int .u64 e.bits) ∧ w'.cell? ⟨gy, 4, none⟩ = some (.bool e.st) ∧ w'.cell? ⟨gy, 5, none⟩ = some (.int .i64 e.time) ∧ w'.cell? ⟨gy, 6, none⟩ = some (.int .i64 e.stamp)) := Lib.hid (fun w' hb => by
    have h := (hb.block _ (isT_of hbk2).lt).trans hbk2
    have h1 := (hb.block _ (isT_of hbk1).lt).trans hbk1
    exact ⟨block_cell h1 0 _ rfl, block_cell h1 1 _ rfl, block_cell h1 2 _ rfl, block_cell h1 3 _ rfl, block_cell h1 4 _ rfl, block_cell h1 5 _ rfl, block_cell h1 6 _ rfl, block_cell h 0 _ rfl, block_cell h 1 _ rfl, block_cell h 2 _ rfl, block_cell h 3 _ rfl, block_cell h 4 _ rfl, block_cell h 5 _ rfl, block_cell h 6 _ rfl⟩)
  have hl1 := (isT_of hbk1).lt
  have hl2 := (isT_of hbk2).lt
  have c0 := block_cell hbk1 0 _ rfl
  have c1 := block_cell hbk1 1 _ rfl
  have c2 := block_cell hbk1 2 _ rfl
  have c3 := block_cell hbk1 3 _ rfl
  have c4 := block_cell hbk1 4 _ rfl
  have c5 := block_cell hbk1 5 _ rfl
  have c6 := block_cell hbk1 6 _ rfl
  have d0 := block_cell hbk2 0 _ rfl
  have d1 := block_cell hbk2 1 _ rfl
  have d2 := block_cell hbk2 2 _ rfl
  have d3 := block_cell hbk2 3 _ rfl
  have d4 := block_cell hbk2 4 _ rfl
  have d5 := block_cell hbk2 5 _ rfl
  have d6 := block_cell hbk2 6 _ rfl
  have HW := Lib.hid (And.intro hw2 (And.intro hw1 (And.intro hgy hgx)))
  clear hbk1 hbk2 hb1 hb2 hbw ha hb hl zl hw1 hw2 hgy hgx hz1
  go_enter Tryz.func119, Tryz.ntmps119
  go_upto_region 1 with fail
  rw [← HW.out.2.1, ← HW.out.1, ← HW.out.2.2.1, ← HW.out.2.2.2]
  clear HW
  go_region_held_law (fun w' : World => w'.cell? ⟨gx, 0, none⟩ = some (.string key) ∧ w'.cell? ⟨gx, 1, none⟩ = some (.slice la e.lab.length lc) ∧ w'.cell? ⟨gx, 2, none⟩ = some (.bool e.mark) ∧ w'.cell? ⟨gx, 3, none⟩ = some (.int .u64 e.bits) ∧ w'.cell? ⟨gx, 4, none⟩ = some (.bool e.st) ∧ w'.cell? ⟨gx, 5, none⟩ = some (.int .i64 e.time) ∧ w'.cell? ⟨gx, 6, none⟩ = some (.int .i64 e.stamp) ∧ w'.cell? ⟨gy, 0, none⟩ = some (.string key) ∧ w'.cell? ⟨gy, 1, none⟩ = some (.slice lb e.lab.length cb) ∧ w'.cell? ⟨gy, 2, none⟩ = some (.bool e.mark) ∧ w'.cell? ⟨gy, 3, none⟩ = some (.int .u64 e.bits) ∧ w'.cell? ⟨gy, 4, none⟩ = some (.bool e.st) ∧ w'.cell? ⟨gy, 5, none⟩ = some (.int .i64 e.time) ∧ w'.cell? ⟨gy, 6, none⟩ = some (.int .i64 e.stamp)) (first | go_keep | (with_reducible exact HSK.out _ hA) | (with_reducible exact HSK.out _ hC))
    (first
      | (go_at_call 26; refine at_worldB ?_; intro W1 hW1; have hb1 : Below w2.heap.size w2 W1 := (by rw [hW1]; first | exact Below.refl _ _ | exact (Below.refl _ _).drew | exact below_drewN (Below.refl _ _) _); clear hW1; refine (theirs_calls key la e.lab.length lc e.mark e.st e.bits e.time e.stamp W1).mono ?_; rintro en w4 ⟨rfl, hb4⟩; have hA : Below w2.heap.size w2 w4 := hb1.trans (hb4.mono hb1.size); clear hb1 hb4)
      | (go_at_call 78; refine at_worldB ?_; intro W3 hW3; have hb3 : Below w4.heap.size w4 W3 := (by rw [hW3]; first | exact Below.refl _ _ | exact (Below.refl _ _).drew | exact below_drewN (Below.refl _ _) _); clear hW3; refine (same_yes key la lb lc cb e W3 ((HL.out.1.below hA (Nat.le_refl _)).below hb3 (Nat.le_refl _)) ((HLB.out.below hA (Nat.le_refl _)).below hb3 (Nat.le_refl _)) HL.out.2.1 HL.out.2.2.1).mono ?_; rintro en w5 ⟨rfl, hb5⟩; have hC : Below w2.heap.size w2 w5 := hA.trans ((hb3.trans (hb5.mono hb3.size)).mono hA.size); have hB : Below w.heap.size w w5 := HL.out.2.2.2.trans (hC.mono HL.out.2.2.2.size); clear hb3 hb5))
  all_goals
    have HB := Lib.hid hB
    clear hB hA hC
    go_wp2_with fail
    go_ret
    exact ⟨rfl, HB.out⟩
set_option maxRecDepth 100000 in
set_option maxHeartbeats 4000000 in
theorem eqG_yes (a b : Option Addr) (ca cb : Nat) (l m : List SI) (w : World) (ha : RdJ w a l) (hb : RdJ w b m) (ho : JOk l) (hs : l.length ≤ 1000000000) (he : l.map SI.it = m.map SI.it) :
    Calls Tryz.prog 118 #[.slice a l.length ca, .slice b m.length cb, .func (Fn.func 119) #[] #[]] w
      (TdPost (.bool true) w) := by
  have hlen : l.length = m.length := by have := congrArg List.length he; simpa using this
  have hneq : ((l.length : Int) != (m.length : Int)) = false := by simp; omega
  have hl1 : l.length ≤ m.length := by omega
  have hl2 : m.length ≤ l.length := by omega
  have H := Lib.hid (And.intro ha (And.intro hb (And.intro ho he)))
  clear ha hb ho he hlen
  go_enter Tryz.func118, Tryz.ntmps118
  go_wp2_with fail
  go_loopw [17] (fun i wr => ∃ k : Nat, k ≤ l.length ∧ i = .int .i64 k ∧ Below w.heap.size w wr) (fun i _ => l.length - (intOf i).toNat)
  case atStart => exact ⟨0, Nat.zero_le _, rfl, Below.refl _ _⟩
  case round =>
    obtain ⟨k, hk, rfl, hbr⟩ := hrel
    have hbs := hbr.size
    have HB := Lib.hid hbr
    clear hbr
    by_cases hlt : k < l.length
    · obtain ⟨x, hx⟩ : ∃ x, l[k]? = some x := ⟨_, List.getElem?_eq_getElem hlt⟩
      obtain ⟨y, hy, ek, ee⟩ := map_at H.out.2.2.2 hx
      obtain ⟨ba, oa, rfl, hla, hca⟩ := (H.out.1.below HB.out).at_ hx
      obtain ⟨bb, ob, rfl, hlb, hcb⟩ := (H.out.2.1.below HB.out).at_ hy
      have hxm := List.mem_of_getElem? hx
      have hym := List.mem_of_getElem? hy
      have hry := (H.out.2.1.lab y hym).below HB.out (Nat.le_refl _)
      obtain ⟨yk, ya, yc, ye⟩ := y
      dsimp only at ek ee
      subst ek ee
      have HX := Lib.hid (And.intro ((H.out.1.lab x hxm).below HB.out (Nat.le_refl _)) (And.intro (And.intro (H.out.2.2.1.ln x hxm) (H.out.2.2.1.sz x hxm)) hry))
      have hlt2 : k < m.length := by omega
      have c0 := hca 0 _ rfl
      rw [Nat.add_zero] at c0
      have c1 := hca 1 _ rfl
      have c2 := hca 2 _ rfl
      have c3 := hca 3 _ rfl
      have c4 := hca 4 _ rfl
      have c5 := hca 5 _ rfl
      have c6 := hca 6 _ rfl
      have d0 := hcb 0 _ rfl
      rw [Nat.add_zero] at d0
      have d1 := hcb 1 _ rfl
      have d2 := hcb 2 _ rfl
      have d3 := hcb 3 _ rfl
      have d4 := hcb 4 _ rfl
      have d5 := hcb 5 _ rfl
      have d6 := hcb 6 _ rfl
      obtain ⟨w0, hw0⟩ : ∃ q, q = wr := ⟨_, rfl⟩
      subst hw0
      clear hca hcb hx hxm hy hym hry
      go_wp2_with fail
      go_at_call 119
      have hb2 : Below w0.heap.size w0 ((w0.alloc (.cells (iB x).toArray 40)).alloc (.cells (iB ⟨x.key, ya, yc, x.e⟩).toArray 70)) := ((Below.refl _ _).alloc (Nat.le_refl _) _).alloc (by simp) _
      refine (same1G_yes x.key x.la ya x.lc yc x.e _ (HX.out.1.below hb2 (Nat.le_refl _)) (HX.out.2.2.below hb2 (Nat.le_refl _)) HX.out.2.1.1 HX.out.2.1.2).mono ?_
      rintro en w1 ⟨rfl, hb1⟩
      have HB1 : Hid (Below w.heap.size w w1) := Lib.hid ((HB.out.trans (hb2.mono hbs)).trans (hb1.mono (by simp; omega)))
      clear hb1 hb2 c0 c1 c2 c3 c4 c5 c6 d0 d1 d2 d3 d4 d5 d6
      go_wp2
      go_roundw
      case rel => exact ⟨k + 1, by omega, by go_num, HB1.out⟩
      case measure => simp [intOf]; omega
    · go_wp2
      go_ret
      exact ⟨rfl, HB.out⟩
set_option maxRecDepth 100000 in
theorem sameG_yes (a b : Option Addr) (ca cb : Nat) (l m : List SI) (w : World) (ha : RdJ w a l) (hb : RdJ w b m) (ho : JOk l) (hs : l.length ≤ 1000000000) (he : l.map SI.it = m.map SI.it) :
    Calls Tryz.prog 72 #[.slice a l.length ca, .slice b m.length cb] w (TdPost (.bool true) w) := by
  have H := Lib.hid (eqG_yes a b ca cb l m w ha hb ho hs he)
  clear ha hb ho he
  go_enter Tryz.func72, Tryz.ntmps72
  go_wp2_with fail
  go_at_call 118
  refine H.out.mono ?_
  rintro en w1 ⟨rfl, hb1⟩
  have HB := Lib.hid hb1
  clear hb1
  go_wp2
  go_ret
  exact ⟨rfl, HB.out⟩
end Go.Proofs.YtdgfldeeflmnmaaGreatDoor.Sk
