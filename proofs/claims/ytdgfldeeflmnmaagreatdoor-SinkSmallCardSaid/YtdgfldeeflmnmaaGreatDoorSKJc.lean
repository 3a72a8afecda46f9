/- Texts of the claim, put together: KJc. -/
import Derived.Test.YtdgfldeeflmnmaaGreatDoorSKJb
import Derived.Test.YtdgfldeeflmnmaaGreatDoorSKRl
import Derived.Test.YtdgfldeeflmnmaaGreatDoorSKtD
import Derived.Test.YtdgfldeeflmnmaaGreatDoorSKwA
import Derived.Deep.RegionHeldLaw
namespace Go.Proofs.YtdgfldeeflmnmaaGreatDoor.Sk
open Go Go.RowKit
theorem Tryz.info70 : (Tryz.prog.info? 70).map (fun i => (i.zero, i.size, i.bytes)) = some (some (.agg #[.string ⟨#[]⟩, .slice none 0 0, .bool false, .int .u64 0, .bool false, .int .i64 0, .int .i64 0]), 7, 80) := by kernel_rfl
/-- what checks asks of items -/
structure CkOk (l : List SI) : Prop where
  ky : ∀ x ∈ l, x.key.size ≤ 1100000
  ln : ∀ x ∈ l, x.e.lab.length ≤ 1000000000
  sz : ∀ x ∈ l, LabZ x.e.lab
  rg : ∀ x ∈ l, EntIn x.e
theorem CkOk.j {l : List SI} (h : CkOk l) : JOk l := ⟨h.ky, h.ln, h.sz⟩
theorem CkOk.i {l : List SI} (h : CkOk l) : IsOk l := ⟨h.ky, h.ln, fun x hx y hy => (h.sz x hx y hy).2⟩
def CkInv (l : List SI) (w : World) (refs i : Value) (wr : World) : Prop :=
  ∃ k : Nat, k ≤ l.length ∧ i = .int .i64 k ∧ wr.ownsRow w.heap.size 70 7 refs k (iFlat (l.take k)) ∧ Below w.heap.size w wr
theorem iFlat_snoc (l : List SI) {k : Nat} {x : SI} (hx : l[k]? = some x) : iFlat (l.take (k + 1)) = iFlat (l.take k) ++ iB x := by
  rw [List.take_add_one, hx]
  simp [iFlat]
theorem iB_one' {x : SI} : ∀ u ∈ iB x, u.oneCell' = true := by
  intro u hu
  unfold iB at hu
  simp only [List.mem_cons, List.not_mem_nil, or_false] at hu
  rcases hu with rfl | rfl | rfl | rfl | rfl | rfl | rfl <;> rfl
theorem RdJ.own {w : World} {base n cap k : Nat} {a : Option Addr} {l : List SI} {T : TypeId} (h : w.ownsRow base T 7 (.slice a n cap) k (iFlat l)) (hl : ∀ x ∈ l, RdL w x.la x.e.lab) : RdJ w a l := by
  refine ⟨fun hx => ?_, hl⟩
  obtain ⟨g, e, _, ht, hc⟩ := own_at0 h hx
  exact ⟨g, 0, e, ht.lt, fun j u hu => by rw [Nat.zero_add]; exact hc j u hu⟩
set_option maxRecDepth 100000 in
set_option maxHeartbeats 8000000 in
theorem checks_calls (a : Option Addr) (cap : Nat) (l : List SI) (w : World) (hE : Ev w) (hl : RdJ w a l) (ho : CkOk l) (hn : l.length ≤ 1100000) :
    Calls Tryz.prog 24 #[.slice a l.length cap] w (TdPost (.bool true) w) := by
  have HR := Lib.hid (And.intro hE (And.intro hl ho))
  clear hE hl ho
  go_enter Tryz.func24, Tryz.ntmps24
  go_wp2_with fail
  go_loopw [3, 18] (fun refs i wr => CkInv l w refs i wr) (fun _ i _ => l.length - (intOf i).toNat)
  case atStart => exact ⟨0, Nat.zero_le _, rfl, World.ownsRow_nil _ _ _ _, Below.refl _ _⟩
  case round =>
    obtain ⟨k, hk, rfl, hown, hb⟩ := hrel
    obtain ⟨w1, hw1⟩ : ∃ q, q = wr := ⟨_, rfl⟩
    subst hw1
    have hbs := hb.size
    have H1 := Lib.hid (And.intro hown hb)
    clear hown hb
    by_cases hlt : k < l.length
    · obtain ⟨x, hx⟩ : ∃ x, l[k]? = some x := ⟨_, List.getElem?_eq_getElem hlt⟩
      obtain ⟨b, off, rfl, hbl, hc⟩ := (HR.out.2.1.below H1.out.2).at_ hx
      have c0 := hc 0 _ rfl
      rw [Nat.add_zero] at c0
      have c1 := hc 1 _ rfl
      have c2 := hc 2 _ rfl
      have c3 := hc 3 _ rfl
      have c4 := hc 4 _ rfl
      have c5 := hc 5 _ rfl
      have c6 := hc 6 _ rfl
      have HX := Lib.hid hx
      clear hc hx
      by_cases h70 : 70 < x.e.lab.length
      · have HB : Hid (Below w.heap.size w (w1.alloc (.cells #[.string x.key, .slice x.la x.e.lab.length x.lc, .bool x.e.mark, .int .u64 x.e.bits, .bool x.e.st, .int .i64 x.e.time, .int .i64 x.e.stamp] 40))) := Lib.hid (H1.out.2.alloc hbs _)
        go_wp2_with fail
        go_ret
        exact ⟨rfl, HB.out⟩
      · by_cases h60 : 60 < l.length
        · have HB : Hid (Below w.heap.size w (w1.alloc (.cells #[.string x.key, .slice x.la x.e.lab.length x.lc, .bool x.e.mark, .int .u64 x.e.bits, .bool x.e.st, .int .i64 x.e.time, .int .i64 x.e.stamp] 40))) := Lib.hid (H1.out.2.alloc hbs _)
          go_wp2_with fail
          go_ret
          exact ⟨rfl, HB.out⟩
        · go_wp2_with fail
          go_at_call 26
          obtain ⟨w2, hw2⟩ : ∃ q, q = w1.alloc (.cells #[.string x.key, .slice x.la x.e.lab.length x.lc, .bool x.e.mark, .int .u64 x.e.bits, .bool x.e.st, .int .i64 x.e.time, .int .i64 x.e.stamp] 40) := ⟨_, rfl⟩
          have hb2 : Below w1.heap.size w1 w2 := by rw [hw2]; exact (Below.refl _ _).alloc (Nat.le_refl _) _
          rw [← hw2]
          refine (theirs_calls x.key x.la x.e.lab.length x.lc x.e.mark x.e.st x.e.bits x.e.time x.e.stamp w2).mono ?_
          rintro e w3 ⟨rfl, hb3⟩
          have hb13 := Bthen hb2 hb3
          have H3 := Lib.hid (And.intro (own_fr H1.out.1 (Fr.of_below hb13) (fun b hb hx => by have h1 := (own_isT H1.out.1 hb).lt; have hx : w1.heap.size ≤ b := hx; omega)) (Bthen H1.out.2 hb13))
          have hs3 := H3.out.2.size
          clear hw2 hb2 hb3 hb13 c0 c1 c2 c3 c4 c5 c6
          go_wp2_with (at_builtin; refine wpList_app rfl _ _ 125 70 7 80 _ rfl Tryz.underlying125 Tryz.info70 rfl (by decide) (by decide) w.heap.size _ k (iFlat (l.take k)) rfl (H3.out.1.alloc _) ⟨w3.heap.size, 0, none⟩ 1 1 (iB x) rfl rfl (cells_new w3 #[.string x.key, .slice x.la x.e.lab.length x.lc, .bool x.e.mark, .int .u64 x.e.bits, .bool x.e.st, .int .i64 x.e.time, .int .i64 x.e.stamp] _ _ rfl) iB_one' (by omega) (by simp; omega) ?_; intro v4 w4 hown4 _ _ hbel4; have H4 := Lib.hid (And.intro hown4 (hbel4 _ (H3.out.2.alloc hs3 _))); clear hown4 hbel4)
          go_roundw
          case rel => exact ⟨k + 1, by omega, by go_num, by rw [iFlat_snoc l HX.out]; exact H4.out.1, H4.out.2⟩
          case measure => simp [intOf]; omega
    · obtain rfl : k = l.length := by omega
      obtain ⟨a2, c2, rfl⟩ := own_form H1.out.1
      have hown := H1.out.1
      rw [List.take_of_length_le (Nat.le_refl _)] at hown
      have hc2 : l.length ≤ c2 := by
        rcases hown.2 with ⟨hv, h0⟩ | ⟨g, cap', cur, hv, _, _, h1, _⟩
        · omega
        · cases hv; exact h1
      have HJ : Hid (RdJ w1 a2 l) := Lib.hid (RdJ.own hown (fun x hx => (HR.out.2.1.lab x hx).below H1.out.2 (Nat.le_refl _)))
      have HB1 := Lib.hid H1.out.2
      clear hown H1
      go_wp2_with fail
      go_at_call 15
      refine (check_callsJ a cap l w1 (HR.out.1.below HB1.out).kv (HR.out.2.1.below HB1.out) HR.out.2.2.i hn).mono ?_
      rintro e w2 ⟨rfl, hb2⟩
      obtain ⟨r1, hr1⟩ : ∃ q, q = (check (l.map SI.it)).1 := ⟨_, rfl⟩
      obtain ⟨r2, hr2⟩ : ∃ q, q = (check (l.map SI.it)).2 := ⟨_, rfl⟩
      rw [← hr1, ← hr2]
      have HCK := Lib.hid (And.intro hr1 hr2)
      have HB2 := Lib.hid (Bthen HB1.out hb2)
      have HJ2 := Lib.hid (HJ.out.below hb2)
      clear hb2 hr1 hr2 HJ HB1
      go_wp2_with fail
      go_at_call 70
      refine (rcheck38_calls a2 c2 l w2 HJ2.out HR.out.2.2.j hn hc2).mono ?_
      rintro e w3 ⟨rfl, hb3⟩
      rw [← HCK.out.1, ← HCK.out.2]
      have HB3 := Lib.hid (Bthen HB2.out hb3)
      have HJ3 := Lib.hid (HJ2.out.below hb3)
      clear hb3 HJ2 HB2
      go_wp2_with fail
      go_loopw [58] (fun i wr => ∃ k : Nat, k ≤ l.length ∧ i = .int .i64 k ∧ Below w3.heap.size w3 wr) (fun i _ => l.length - (intOf i).toNat)
      case atStart => exact ⟨0, Nat.zero_le _, rfl, Below.refl _ _⟩
      case round =>
        obtain ⟨k, hk, rfl, hb⟩ := hrel
        obtain ⟨w4, hw4⟩ : ∃ q, q = wr := ⟨_, rfl⟩
        subst hw4
        have HB4 := Lib.hid (And.intro hb (Bthen HB3.out hb))
        clear hb
        by_cases hlt : k < l.length
        · obtain ⟨x, hx⟩ : ∃ x, l[k]? = some x := ⟨_, List.getElem?_eq_getElem hlt⟩
          have hxm := List.mem_of_getElem? hx
          obtain ⟨b, off, rfl, hbl, hc⟩ := (HR.out.2.1.below HB4.out.2).at_ hx
          obtain ⟨rb, ro, rfl, hrl, hd⟩ := (HJ3.out.below HB4.out.1).at_ hx
          have c0 := hc 0 _ rfl
          rw [Nat.add_zero] at c0
          have c1 := hc 1 _ rfl
          have c2 := hc 2 _ rfl
          have c3 := hc 3 _ rfl
          have c4 := hc 4 _ rfl
          have c5 := hc 5 _ rfl
          have c6 := hc 6 _ rfl
          have HX := Lib.hid (And.intro ((HR.out.2.1.lab x hxm).below HB4.out.2 (Nat.le_refl _)) (And.intro (HR.out.2.2.ky x hxm) (And.intro (HR.out.2.2.ln x hxm) (And.intro (HR.out.2.2.sz x hxm) (HR.out.2.2.rg x hxm)))))
          have HD := Lib.hid hd
          clear hc hx hxm hd
          obtain ⟨T, hT⟩ : ∃ q, q = (⟨(textT (d x.key) x.e).toArray⟩ : ByteArray) := ⟨_, rfl⟩
          obtain ⟨er, her⟩ : ∃ q, q = textErr (d x.key) x.e := ⟨_, rfl⟩
          have HT := Lib.hid (And.intro hT her)
          clear hT her
          go_wp2_with fail
          go_at_call 10
          obtain ⟨w5, hw5⟩ : ∃ q, q = w4.alloc (.cells #[.string x.key, .slice x.la x.e.lab.length x.lc, .bool x.e.mark, .int .u64 x.e.bits, .bool x.e.st, .int .i64 x.e.time, .int .i64 x.e.stamp] 40) := ⟨_, rfl⟩
          obtain ⟨gB, hgB⟩ : ∃ q, q = w4.heap.size := ⟨_, rfl⟩
          have hb5 : Below w4.heap.size w4 w5 := by rw [hw5]; exact (Below.refl _ _).alloc (Nat.le_refl _) _
          have hk5 : w5.heap[gB]? = some (.cells #[.string x.key, .slice x.la x.e.lab.length x.lc, .bool x.e.mark, .int .u64 x.e.bits, .bool x.e.st, .int .i64 x.e.time, .int .i64 x.e.stamp] 40 (0, 0)) := by rw [hw5, hgB]; exact heap_alloc_new w4 _
          rw [← hw5, ← hgB]
          have H5 := Lib.hid (And.intro hb5 hk5)
          clear hw5 hgB hb5 hk5 c0 c1 c2 c3 c4 c5 c6
          refine (text_calls x.key x.la x.lc x.e w5 (HR.out.1.below (Bthen HB4.out.2 H5.out.1)) HX.out.2.2.2.2 HX.out.2.1 (HX.out.1.below H5.out.1 (Nat.le_refl _)) HX.out.2.2.1 (fun y hy => (HX.out.2.2.2.1 y hy).2)).mono ?_
          rintro e w6 ⟨rfl, hb6⟩
          rw [← HT.out.1, ← HT.out.2]
          have hb46 := Bthen H5.out.1 hb6
          have H6 := Lib.hid (And.intro hb46 ((hb6.block _ (isT_of H5.out.2).lt).trans H5.out.2))
          have hrl6 : rb < w6.heap.size := Nat.lt_of_lt_of_le hrl hb46.size
          have hd6 : ∀ j u, (iB x)[j]? = some u → w6.cell? ⟨rb, ro + k * 7 + j, none⟩ = some u := fun j u hu => (hb46.cell (p := ⟨rb, ro + k * 7 + j, none⟩) hrl).trans (HD.out j u hu)
          have d0 := hd6 0 _ rfl
          rw [Nat.add_zero] at d0
          have d1 := hd6 1 _ rfl
          have d2 := hd6 2 _ rfl
          have d3 := hd6 3 _ rfl
          have d4 := hd6 4 _ rfl
          have d5 := hd6 5 _ rfl
          have d6 := hd6 6 _ rfl
          clear hb6 hb46 hd6
          go_wp2_with fail
          go_at_call 25
          refine (rtext_calls x.key x.la x.lc x.e w6 HX.out.2.1 (HX.out.1.below H6.out.1 (Nat.le_refl _)) HX.out.2.2.1 HX.out.2.2.2.1 HX.out.2.2.2.2).mono ?_
          rintro e w7 ⟨rfl, hb7⟩
          rw [← HT.out.1, ← HT.out.2]
          have hb47 := Bthen H6.out.1 hb7
          have hk7 := (hb7.block _ (isT_of H6.out.2).lt).trans H6.out.2
          have H7 := Lib.hid (And.intro hb47 hk7)
          have hrl7 : rb < w7.heap.size := Nat.lt_of_lt_of_le hrl hb47.size
          have hgl7 : gB < w7.heap.size := (isT_of hk7).lt
          have hd7 : ∀ j u, (iB x)[j]? = some u → w7.cell? ⟨rb, ro + k * 7 + j, none⟩ = some u := fun j u hu => (hb47.cell (p := ⟨rb, ro + k * 7 + j, none⟩) hrl).trans (HD.out j u hu)
          clear hb7 hb47 d0 d1 d2 d3 d4 d5 d6
          have d0 := hd7 0 _ rfl
          rw [Nat.add_zero] at d0
          have d1 := hd7 1 _ rfl
          have d2 := hd7 2 _ rfl
          have d3 := hd7 3 _ rfl
          have d4 := hd7 4 _ rfl
          have d5 := hd7 5 _ rfl
          have d6 := hd7 6 _ rfl
          have k0 := block_cell hk7 0 _ rfl
          have k1 := block_cell hk7 1 _ rfl
          have k2 := block_cell hk7 2 _ rfl
          have k3 := block_cell hk7 3 _ rfl
          have k4 := block_cell hk7 4 _ rfl
          have k5 := block_cell hk7 5 _ rfl
          have k6 := block_cell hk7 6 _ rfl
          have HSK : Hid (∀ w' : World, Below w7.heap.size w7 w' → w'.cell? ⟨gB, 0, none⟩ = some (.string x.key) ∧ w'.cell? ⟨gB, 1, none⟩ = some (.slice x.la x.e.lab.length x.lc) ∧ w'.cell? ⟨gB, 2, none⟩ = some (.bool x.e.mark) ∧ w'.cell? ⟨gB, 3, none⟩ = some (.int .u64 x.e.bits) ∧ w'.cell? ⟨gB, 4, none⟩ = some (.bool x.e.st) ∧ w'.cell? ⟨gB, 5, none⟩ = some (.int .i64 x.e.time) ∧ w'.cell? ⟨gB, 6, none⟩ = some (.int .i64 x.e.stamp) ∧ w'.cell? ⟨rb, ro + k * 7, none⟩ = some (.string x.key) ∧ w'.cell? ⟨rb, ro + k * 7 + 1, none⟩ = some (.slice x.la x.e.lab.length x.lc) ∧ w'.cell? ⟨rb, ro + k * 7 + 2, none⟩ = some (.bool x.e.mark) ∧ w'.cell? ⟨rb, ro + k * 7 + 3, none⟩ = some (.int .u64 x.e.bits) ∧ w'.cell? ⟨rb, ro + k * 7 + 4, none⟩ = some (.bool x.e.st) ∧ w'.cell? ⟨rb, ro + k * 7 + 5, none⟩ = some (.int .i64 x.e.time) ∧ w'.cell? ⟨rb, ro + k * 7 + 6, none⟩ = some (.int .i64 x.e.stamp)) := Lib.hid (fun w' hb => by
            have h := (hb.block _ (isT_of H7.out.2).lt).trans H7.out.2
            have h2 : ∀ j u, (iB x)[j]? = some u → w'.cell? ⟨rb, ro + k * 7 + j, none⟩ = some u := fun j u hu => (hb.cell (p := ⟨rb, ro + k * 7 + j, none⟩) hrl7).trans (hd7 j u hu)
            exact ⟨block_cell h 0 _ rfl, block_cell h 1 _ rfl, block_cell h 2 _ rfl, block_cell h 3 _ rfl, block_cell h 4 _ rfl, block_cell h 5 _ rfl, block_cell h 6 _ rfl, h2 0 _ rfl, h2 1 _ rfl, h2 2 _ rfl, h2 3 _ rfl, h2 4 _ rfl, h2 5 _ rfl, h2 6 _ rfl⟩)
          obtain ⟨q, hq⟩ : ∃ q, q = itemRight (d x.key) x.e := ⟨_, rfl⟩
          have hP : ∀ W : World, Below w7.heap.size w7 W → Calls Tryz.prog 11 #[.agg #[.string x.key, .slice x.la x.e.lab.length x.lc, .bool x.e.mark, .int .u64 x.e.bits, .bool x.e.st, .int .i64 x.e.time, .int .i64 x.e.stamp]] W (TdPost (.bool q) W) := fun W hb => by
            rw [hq]
            exact sright_calls x.key x.la x.lc x.e W HX.out.2.1 ((HX.out.1.below H7.out.1 (Nat.le_refl _)).below hb (Nat.le_refl _)) HX.out.2.2.1 (fun y hy => (HX.out.2.2.2.1 y hy).2) (HR.out.1.below (Bthen (Bthen HB4.out.2 H7.out.1) hb)).kv
          have hQ : ∀ W : World, Below w7.heap.size w7 W → Calls Tryz.prog 71 #[.agg #[.string x.key, .slice x.la x.e.lab.length x.lc, .bool x.e.mark, .int .u64 x.e.bits, .bool x.e.st, .int .i64 x.e.time, .int .i64 x.e.stamp]] W (TdPost (.bool q) W) := fun W hb => by
            rw [hq]
            exact rr38_calls x.key x.la x.lc x.e W HX.out.2.1 ((HX.out.1.below H7.out.1 (Nat.le_refl _)).below hb (Nat.le_refl _)) HX.out.2.2.1 HX.out.2.2.2.1
          have HPQ := Lib.hid (And.intro hP hQ)
          clear hP hQ hd7 hk7 hq HT HD H5 H6
          go_wp2_with fail
          go_cut [93] (fun s93 wx => s93 = .bool false ∧ Below w7.heap.size w7 wx)
          case first =>
            go_region_held_law (fun w' : World => w'.cell? ⟨gB, 0, none⟩ = some (.string x.key) ∧ w'.cell? ⟨gB, 1, none⟩ = some (.slice x.la x.e.lab.length x.lc) ∧ w'.cell? ⟨gB, 2, none⟩ = some (.bool x.e.mark) ∧ w'.cell? ⟨gB, 3, none⟩ = some (.int .u64 x.e.bits) ∧ w'.cell? ⟨gB, 4, none⟩ = some (.bool x.e.st) ∧ w'.cell? ⟨gB, 5, none⟩ = some (.int .i64 x.e.time) ∧ w'.cell? ⟨gB, 6, none⟩ = some (.int .i64 x.e.stamp) ∧ w'.cell? ⟨rb, ro + k * 7, none⟩ = some (.string x.key) ∧ w'.cell? ⟨rb, ro + k * 7 + 1, none⟩ = some (.slice x.la x.e.lab.length x.lc) ∧ w'.cell? ⟨rb, ro + k * 7 + 2, none⟩ = some (.bool x.e.mark) ∧ w'.cell? ⟨rb, ro + k * 7 + 3, none⟩ = some (.int .u64 x.e.bits) ∧ w'.cell? ⟨rb, ro + k * 7 + 4, none⟩ = some (.bool x.e.st) ∧ w'.cell? ⟨rb, ro + k * 7 + 5, none⟩ = some (.int .i64 x.e.time) ∧ w'.cell? ⟨rb, ro + k * 7 + 6, none⟩ = some (.int .i64 x.e.stamp)) (first | go_keep | (with_reducible exact HSK.out _ hP) | (with_reducible exact HSK.out _ hQ))
              (first
                | (go_at_call 11; refine at_worldB ?_; intro W1 hW1; have hb1 : Below w7.heap.size w7 W1 := (by rw [hW1]; first | exact Below.refl _ _ | exact (Below.refl _ _).drew | exact hQ | exact hQ.drew | exact below_drewN (Below.refl _ _) _ | exact below_drewN hQ _); clear hW1; refine (HPQ.out.1 W1 hb1).mono ?_; rintro en w8 ⟨rfl, hb8⟩; have hP : Below w7.heap.size w7 w8 := hb1.trans (hb8.mono hb1.size); clear hb1 hb8)
                | (go_at_call 71; refine at_worldB ?_; intro W2 hW2; have hb2 : Below w7.heap.size w7 W2 := (by rw [hW2]; first | exact Below.refl _ _ | exact (Below.refl _ _).drew | exact hP | exact hP.drew | exact below_drewN (Below.refl _ _) _ | exact below_drewN hP _); clear hW2; refine (HPQ.out.2 W2 hb2).mono ?_; rintro en w9 ⟨rfl, hb9⟩; have hQ : Below w7.heap.size w7 w9 := hb2.trans (hb9.mono hb2.size); clear hb2 hb9))
            all_goals
              go_wp2_with fail
              go_meet
              refine ⟨rfl, ?_⟩
              first | exact hP | exact hQ | exact below_drewN hP _ | exact below_drewN hQ _
          case rest =>
          obtain ⟨w10, hw10⟩ : ∃ q, q = wc := ⟨_, rfl⟩
          subst hw10
          obtain ⟨h93, hb10⟩ := hcut
          subst h93
          have HB10 := Lib.hid (Bthen (Bthen HB4.out.1 H7.out.1) hb10)
          clear hb10 d0 d1 d2 d3 d4 d5 d6 k0 k1 k2 k3 k4 k5 k6 HPQ HSK
          go_wp2_with fail
          go_roundw
          case rel => exact ⟨k + 1, by omega, by go_num, HB10.out⟩
          case measure => simp [intOf]; omega
        · go_wp2_with fail
          go_at_call 72
          refine (sameJ_yes a a2 cap c2 l w4 (HR.out.2.1.below HB4.out.2) (HJ3.out.below HB4.out.1) HR.out.2.2.j (by omega)).mono ?_
          rintro e w5 ⟨rfl, hb5⟩
          have HB5 := Lib.hid (Bthen HB4.out.2 hb5)
          clear hb5
          go_wp2_with fail
          go_ret
          exact ⟨rfl, HB5.out⟩
end Go.Proofs.YtdgfldeeflmnmaaGreatDoor.Sk
