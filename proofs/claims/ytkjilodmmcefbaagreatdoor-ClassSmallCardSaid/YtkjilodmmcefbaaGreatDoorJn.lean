/- The reference implementation: join. -/
import Derived.Test.YtkjilodmmcefbaaGreatDoorJnP
import Derived.Test.YtkjilodmmcefbaaGreatDoorRfA
import Derived.Deep.DeepCutAuto
namespace Go.Proofs.YtkjilodmmcefbaaGreatDoor
open Go.RowKit Go.Shelf
theorem own_iV {W : World} {base : Nat} {v : Value} {n : Nat} {L : List Int} (h : W.ownsRow base 3 1 v n (iV L)) (hn : 0 < n) :
    ∃ g cap, v = .slice (some ⟨g, 0, none⟩) n cap ∧ g < W.heap.size ∧ n ≤ cap ∧ ∀ (j : Nat), j < L.length → W.cell? ⟨g, j, none⟩ = some (.int .i64 (Rs.at' L j)) := by
  rcases h.2 with ⟨_, h0⟩ | ⟨g, cap, cur, rfl, hb, hg, h1, h2, h3, h4⟩
  · omega
  · exact ⟨g, cap, rfl, (Array.getElem?_eq_some_iff.1 hg).1, h1, fun j hj => (ownsRow_cell h (j := j) (u := .int .i64 (Rs.at' L j)) (by rw [List.getElem?_map, Rs.at_get hj]; rfl)).1⟩
theorem ref_in_quiet (a : Option Addr) (cap : Nat) (l : Rs.S) (c : Int) (w : World) (hrd : RdR w a l) (hn : l.length < 4611686018427387904) :
    Calls Tryz.prog 94 #[.slice a l.length cap, .int .i64 c] w fun e w' => e = .returned (.bool (Rs.pt c && Rs.mem c l)) ∧ w' = w :=
  (ref_in_calls a cap l c w hrd hn).mono fun _ _ h => ⟨h.1, h.2.symm⟩
theorem bd_at {l m : Rs.S} {D : List Int} (hp : D.Perm ([0, 55296, 57344, 1114112] ++ Rs.bds l ++ Rs.bds m)) (hl : ∀ r ∈ l, Rs.Bd r) (hm : ∀ r ∈ m, Rs.Bd r) {j : Nat} (hj : j < D.length) : 0 ≤ Rs.at' D j ∧ Rs.at' D j ≤ 1114112 := by
  have hmem : Rs.at' D j ∈ D := List.mem_of_getElem? (Rs.at_get hj)
  have := hp.mem_iff.1 hmem
  have hb : ∀ (x : Rs.S), (∀ r ∈ x, Rs.Bd r) → ∀ β ∈ Rs.bds x, 0 ≤ β ∧ β ≤ 1114112 := by
    intro x hx β hβ
    obtain ⟨r, hr, hβ⟩ := List.mem_flatMap.1 hβ
    obtain ⟨g1, g2, g3, g4⟩ := hx r hr
    simp only [List.mem_cons, List.not_mem_nil, or_false] at hβ
    rcases hβ with rfl | rfl <;> omega
  simp only [List.mem_append, List.mem_cons, List.not_mem_nil, or_false] at this
  rcases this with (h | h) | h
  · omega
  · exact hb l hl _ h
  · exact hb m hm _ h
theorem RdR.heap {w W : World} {a : Option Addr} {l : Rs.S} (h : RdR w a l) (e : W.heap = w.heap) : RdR W a l := by
  intro hl
  obtain ⟨b, off, ea, h1, h2⟩ := h hl
  refine ⟨b, off, ea, by rw [e]; exact h1, fun i r hr => ?_⟩
  have := h2 i r hr
  unfold World.cell? at this ⊢
  rw [e]
  exact this
theorem own_sl {W : World} {base : Nat} {e : TypeId} {size : Nat} {v : Value} {n : Nat} {xs : List Value} (h : W.ownsRow base e size v n xs) : ∃ ad cap, v = .slice ad n cap ∧ n ≤ cap := by
  rcases h.2 with ⟨rfl, rfl⟩ | ⟨g, cap, cur, rfl, hb, hg, h1, _⟩
  · exact ⟨_, _, rfl, Nat.le_refl _⟩
  · exact ⟨_, _, rfl, h1⟩
theorem rFlat_last (q1 q2 u : Int) (s : Rs.S) : (rFlat ((q1, q2) :: s).reverse).set (s.length * 2 + 1) (.int .i64 u) = rFlat ((q1, u) :: s).reverse := by
  simp only [List.reverse_cons, rFlat_append]
  rw [List.set_append_right _ _ (by rw [rFlat_length]; simp), rFlat_length]
  simp only [List.length_reverse]
  rw [show s.length * 2 + 1 - s.length * 2 = 1 by omega]
  rfl
theorem grown_below {W w1 w0 : World} {base : Nat} {e : TypeId} {size : Nat} {v : Value} {k : Nat} {xs : List Value} {tmp : Obj} (hrow : W.ownsRow base e size v k xs) (hb : Below base w0 W) (hs : base ≤ W.heap.size) (hgrow : ((W.alloc tmp).drew).grownBy w1 v.ownBlock) : Below base w0 w1 :=
  ((hb.alloc hs tmp).drew).grown hgrow (by simp; omega) fun j e => by
    rcases hrow.2 with ⟨rfl, _⟩ | ⟨g, cap, cur, rfl, hg, _⟩
    · simp [Value.ownBlock] at e
    · obtain rfl : g = j := by simpa [Value.ownBlock] using e
      exact hg
def JnInv (w1 : World) (f : Int → Bool) (D : List Int) (v i : Value) (wr : World) : Prop :=
  ∃ k : Nat, k + 1 ≤ D.length ∧ i = .int .i64 k ∧ wr.ownsRow w1.heap.size 59 2 v (Rs.jto f D k).length (rFlat (Rs.jto f D k).reverse) ∧ Below w1.heap.size w1 wr
set_option maxRecDepth 100000 in
set_option maxHeartbeats 8000000 in
theorem join_calls (a b : Option Addr) (ca cb : Nat) (l m X : Rs.S) (o t bo n : Bool) (w : World) (h : Sl w a ca l) (k : Sl w b cb m) (hn : l.length ≤ 100000) (hm : m.length ≤ 100000) (hl : ∀ r ∈ l, Rs.Bd r) (hmb : ∀ r ∈ m, Rs.Bd r) (hX : Rs.right X = true) (hXm : ∀ c, Rs.mem c X = Rs.jf l m o t bo n c) :
    Calls Tryz.prog 73 #[.slice a l.length ca, .slice b m.length cb, .bool o, .bool t, .bool bo, .bool n] w fun e w' => ∃ v, e = .returned v ∧ w'.ownsRow w.heap.size 59 2 v X.length (rFlat X) ∧ Below w.heap.size w w' := by
  have HAB := Lib.hid (show _ ∧ _ from ⟨h, k⟩)
  have HBD := Lib.hid (show _ ∧ _ from ⟨hl, hmb⟩)
  have HX := Lib.hid (show _ ∧ _ from ⟨hX, hXm⟩)
  clear h k hl hmb hX hXm
  obtain ⟨i0, hi0, hz0, hz1, hz2⟩ := info_parts Tryz.info59
  go_enter Tryz.func73, Tryz.ntmps73
  go_wp2_with fail
  go_at_call 95
  refine (borders_calls a b ca cb l m w HAB.out.1 HAB.out.2 hn hm HBD.out.1 HBD.out.2).mono ?_
  rintro e w1 ⟨vD, D, rfl, hown, hperm, hsort, hb⟩
  have hD : D.length = 4 + 2 * l.length + 2 * m.length := by rw [hperm.length_eq]; simp [Rs.bds_len]; omega
  have hD4 : 4 ≤ D.length := by omega
  have hD5 : D.length ≤ 400004 := by omega
  obtain ⟨g, capD, rfl, hg, hcapD, hcells⟩ := own_iV hown (by omega)
  have HC := Lib.hid hcells
  have HP := Lib.hid (show _ ∧ _ from ⟨hperm, hsort⟩)
  have HF := Lib.hid (Rs.jto_set hsort hperm HX.out.1 HX.out.2)
  have HB := Lib.hid hb
  have HAB1 := Lib.hid (show _ ∧ _ from ⟨HAB.out.1.below hb, HAB.out.2.below hb⟩)
  have HDB : Hid (∀ j, j < D.length → 0 ≤ Rs.at' D j ∧ Rs.at' D j ≤ 1114112) := Lib.hid (fun j hj => bd_at hperm HBD.out.1 HBD.out.2 hj)
  have HJI : Hid (∀ i, i < D.length → Rs.JI (Rs.jf l m o t bo n) (Rs.jto (Rs.jf l m o t bo n) D i) (Rs.at' D i)) := Lib.hid (fun i hi => Rs.jto_ji hsort hperm i hi)
  have HFX : Hid (∀ c, Rs.jf l m o t bo n c = (Rs.pt c && Rs.jcond o t bo n (Rs.mem c l) (Rs.mem c m))) := Lib.hid (fun c => rfl)
  generalize Rs.jf l m o t bo n = f at *
  clear hcells hown hperm hsort hb hD
  go_wp2
  go_loopw [13, 15, 16, 17, 18] (fun v i _ _ _ wr => JnInv w1 f D v i wr) (fun _ i _ _ _ _ => D.length - (intOf i).toNat)
  case atStart => exact ⟨0, by omega, rfl, World.ownsRow_nil _ _ _ _, Below.refl _ _⟩
  case round =>
    obtain ⟨k, hk, rfl, hrow, hb⟩ := hrel
    have hbs := hb.size
    by_cases hlt : k + 1 < D.length
    · have c0 := HC.out k (by omega)
      have c1 := HC.out (k + 1) (by omega)
      rw [← hb.cell (by exact hg)] at c0 c1
      obtain ⟨x1, x2⟩ := HDB.out k (by omega)
      obtain ⟨y1, y2⟩ := HDB.out (k + 1) (by omega)
      have HS : Hid (Rs.jto f D (k + 1) = Rs.jstep f (Rs.jto f D k) (Rs.at' D k) (Rs.at' D (k + 1))) := Lib.hid rfl
      have hal := Rs.jto_len f D k
      have HJ := Lib.hid (HJI.out k (by omega))
      generalize Rs.jto f D k = acc at *
      generalize Rs.at' D k = x at *
      generalize Rs.at' D (k + 1) = y at *
      have hgw : g < wr.heap.size := by omega
      by_cases hxy : x = y
      · subst hxy
        have HI : Hid (∀ nq, JnInv w1 f D u13 (.int .i64 ((k : Int) + 1)) (wr.drewN nq)) := Lib.hid fun nq => ⟨k + 1, by omega, by go_num, by rw [HS.out]; unfold Rs.jstep; rw [if_pos rfl]; exact hrow, Bdrew hb nq⟩
        clear hrow hb
        go_wp2_with fail
        go_big_quiet ((go_at_call 78; exact Calls.quiet_of_same (ref_point_quiet _ _)))
        go_wp2
        go_roundw
        case rel => exact HI.out _
        case measure => simp [intOf]; omega
      · have t1 : (x == y) = false := by rw [beq_eq_false_iff_ne]; exact hxy
        cases hp : Rs.pt x
        · have HI : Hid (∀ nq, JnInv w1 f D u13 (.int .i64 ((k : Int) + 1)) (wr.drewN nq)) := Lib.hid fun nq => ⟨k + 1, by omega, by go_num, by rw [HS.out]; unfold Rs.jstep; rw [if_neg hxy, HFX.out, hp]; exact hrow, Bdrew hb nq⟩
          have hpq : ∀ W, Calls Tryz.prog 78 #[.int .i64 x] W fun e w' => e = .returned (.bool false) ∧ w' = W := fun W => by have := ref_point_quiet x W; rwa [hp] at this
          have HPQ := Lib.hid hpq
          clear hrow hb hp hpq hxy
          go_wp2_with fail
          go_big_quiet ((go_at_call 78; exact Calls.quiet_of_same (HPQ.out _)))
          go_wp2
          go_roundw
          case rel => exact HI.out _
          case measure => simp [intOf]; omega
        · have hpq : ∀ W, Calls Tryz.prog 78 #[.int .i64 x] W fun e w' => e = .returned (.bool true) ∧ w' = W := fun W => by have := ref_point_quiet x W; rwa [hp] at this
          have HPQ := Lib.hid hpq
          have hia : ∀ W : World, W.heap = wr.heap → Calls Tryz.prog 94 #[.slice a l.length ca, .int .i64 x] W fun e w' => e = .returned (.bool (Rs.mem x l)) ∧ w' = W := fun W hW => by
            have := ref_in_quiet a ca l x W ((HAB1.out.1.below hb).rd.heap hW) (by omega)
            rwa [hp, Bool.true_and] at this
          have hib : ∀ W : World, W.heap = wr.heap → Calls Tryz.prog 94 #[.slice b m.length cb, .int .i64 x] W fun e w' => e = .returned (.bool (Rs.mem x m)) ∧ w' = W := fun W hW => by
            have := ref_in_quiet b cb m x W ((HAB1.out.2.below hb).rd.heap hW) (by omega)
            rwa [hp, Bool.true_and] at this
          have hfx := HFX.out x
          rw [hp, Bool.true_and] at hfx
          generalize Rs.mem x l = bx at *
          generalize Rs.mem x m = by_ at *
          have HI2 := Lib.hid (show _ ∧ _ from ⟨hia, hib⟩)
          have HROW := Lib.hid (show _ ∧ _ ∧ _ from ⟨hrow, hb, hfx⟩)
          have hLe := Below.refl wr.heap.size wr
          clear hrow hb hp hpq hxy hia hib hfx
          go_wp2_with fail
          go_big_quiet ((go_at_call 78; exact Calls.quiet_of_same (HPQ.out _)))
          have c0' : (wr.drewN nq).cell? ⟨g, k, none⟩ = some (.int .i64 x) := c0
          have c1' : (wr.drewN nq).cell? ⟨g, k + 1, none⟩ = some (.int .i64 y) := c1
          have HI3 := Lib.hid (show _ ∧ _ from ⟨fun nn => HI2.out.1 ((wr.drewN nq).drewN nn) rfl, fun nn => HI2.out.2 ((wr.drewN nq).drewN nn) rfl⟩)
          have HROW2 := Lib.hid (show _ ∧ _ ∧ _ from ⟨(show (wr.drewN nq).ownsRow w1.heap.size 59 2 u13 acc.length (rFlat acc.reverse) from HROW.out.1), Bdrew HROW.out.2.1 nq, HROW.out.2.2⟩)
          have hgw' : g < (wr.drewN nq).heap.size := hgw
          have hbs' : w1.heap.size ≤ (wr.drewN nq).heap.size := hbs
          clear c0 c1 hLe HROW HI2 hgw hbs
          generalize wr.drewN nq = wq at *
          go_wp2_with fail
          go_big_quiet ((first | (go_at_call_of 94 (Value.slice a l.length ca); exact Calls.quiet_of_same (HI3.out.1 _)) | (go_at_call 94; exact Calls.quiet_of_same (HI3.out.2 _))))
          have c0 : (wq.drewN nq).cell? ⟨g, k, none⟩ = some (.int .i64 x) := c0'
          have c1 : (wq.drewN nq).cell? ⟨g, k + 1, none⟩ = some (.int .i64 y) := c1'
          have HR := Lib.hid (show _ ∧ _ ∧ _ from ⟨(show (wq.drewN nq).ownsRow w1.heap.size 59 2 u13 acc.length (rFlat acc.reverse) from HROW2.out.1), Bdrew HROW2.out.2.1 nq, HROW2.out.2.2⟩)
          have hgw : g < (wq.drewN nq).heap.size := hgw'
          have hbs : w1.heap.size ≤ (wq.drewN nq).heap.size := hbs'
          have HXY : Hid (x ≠ y) := Lib.hid (by rw [beq_eq_false_iff_ne] at t1; exact t1)
          clear c0' c1' HROW2 HI3 hgw' hbs' t1
          generalize wq.drewN nq = wp at *
          cases hfx : f x
          · have hj : (bx = true ∧ by_ = true ∧ bo = false) ∨ (bx = true ∧ by_ = false ∧ o = false) ∨ (bx = false ∧ by_ = true ∧ t = false) ∨ (bx = false ∧ by_ = false ∧ n = false) := by
              have := HR.out.2.2
              rw [hfx] at this
              revert this
              cases bx <;> cases by_ <;> simp [Rs.jcond]
            have HI : Hid (JnInv w1 f D u13 (.int .i64 ((k : Int) + 1)) wp) := Lib.hid ⟨k + 1, by omega, by go_num, by rw [HS.out]; unfold Rs.jstep; rw [if_neg HXY.out, hfx]; exact HR.out.1, HR.out.2.1⟩
            clear hfx HR
            rcases hj with ⟨rfl, rfl, rfl⟩ | ⟨rfl, rfl, rfl⟩ | ⟨rfl, rfl, rfl⟩ | ⟨rfl, rfl, rfl⟩
            all_goals
              go_wp2
              go_roundw
              case rel => exact HI.out
              case measure => simp [intOf]; omega
          · have hj : (bx = true ∧ by_ = true ∧ bo = true) ∨ (bx = true ∧ by_ = false ∧ o = true) ∨ (bx = false ∧ by_ = true ∧ t = true) ∨ (bx = false ∧ by_ = false ∧ n = true) := by
              have := HR.out.2.2
              rw [hfx] at this
              revert this
              cases bx <;> cases by_ <;> simp [Rs.jcond]
            have HST : Hid (Rs.jto f D (k + 1) = Rs.jacc acc x y) := Lib.hid (by rw [HS.out]; unfold Rs.jstep; rw [if_neg HXY.out, hfx]; rfl)
            have HR2 := Lib.hid (show _ ∧ _ from ⟨HR.out.1, HR.out.2.1⟩)
            clear hfx HR HS HXY
            obtain ⟨av, cv, rfl, hvc⟩ := own_sl HR2.out.1
            go_upto_region 8 with fail
            go_cut [97] (fun s97 wx => s97 = .bool false ∧ wx = wp)
            case first =>
              rcases hj with ⟨rfl, rfl, rfl⟩ | ⟨rfl, rfl, rfl⟩ | ⟨rfl, rfl, rfl⟩ | ⟨rfl, rfl, rfl⟩
              all_goals
                go_wp2_with fail
                go_meet
                exact ⟨rfl, rfl⟩
            case rest =>
            obtain ⟨rfl, hww⟩ := hcut
            have hww' := hww.symm
            clear hww
            subst hww'
            clear hj
            cases acc with
            | nil =>
              have d0 : decide ((0 : Int) < 0) = false := rfl
              go_wp2_with fail
              go_big_quiet (fail)
              have c0' : (wp.drewN nq).cell? ⟨g, k, none⟩ = some (.int .i64 x) := c0
              have c1' : (wp.drewN nq).cell? ⟨g, k + 1, none⟩ = some (.int .i64 y) := c1
              have HR3 := Lib.hid (show _ ∧ _ from ⟨(show (wp.drewN nq).ownsRow w1.heap.size 59 2 _ _ _ from HR2.out.1), Bdrew HR2.out.2 nq⟩)
              have hgw' : g < (wp.drewN nq).heap.size := hgw
              have hbs' : w1.heap.size ≤ (wp.drewN nq).heap.size := hbs
              clear c0 c1 HR2 hgw hbs
              generalize wp.drewN nq = wt at *
              go_wp2_with fail
              have hwy : IntKind.i64.wrap (y - 1) = y - 1 := by rw [IntKind.wrap_i64]; omega
              have hwk : IntKind.i64.wrap ((k : Int) + 1) = (k : Int) + 1 := by rw [IntKind.wrap_i64]; omega
              have hk1 : (k : Int) + 1 < (D.length : Int) := by omega
              have hk0 : 0 ≤ (k : Int) + 1 := by omega
              have hkn : ((k : Int) + 1).toNat = k + 1 := by omega
              have hbase : ∀ wz : World, (((wt.alloc (.cells #[.int .i64 x, .int .i64 (y - 1)] 59)).drew).grownBy wz (Value.slice av (0) cv).ownBlock) → Below w1.heap.size w1 wz := fun wz hgz => by
                exact grown_below HR3.out.1 HR3.out.2 hbs' hgz
              have hcg : ∀ wz : World, Below w1.heap.size w1 wz → wz.cell? ⟨g, k, none⟩ = some (.int .i64 x) ∧ wz.cell? ⟨g, k + 1, none⟩ = some (.int .i64 y) := fun wz hz => by
                rw [hz.cell (p := ⟨g, k, none⟩) hg, hz.cell (p := ⟨g, k + 1, none⟩) hg]
                rw [HR3.out.2.cell (p := ⟨g, k, none⟩) hg] at c0'
                rw [HR3.out.2.cell (p := ⟨g, k + 1, none⟩) hg] at c1'
                exact ⟨c0', c1'⟩
              have HCG := Lib.hid hcg
              clear hcg
              go_region_held_law (fun w' : World => w'.cell? ⟨g, k, none⟩ = some (.int .i64 x) ∧ w'.cell? ⟨g, k + 1, none⟩ = some (.int .i64 y)) (first | go_keep | exact HCG.out _ (hbase _ hgrow))
                ((refine step_append_lies _ (by rfl) _ _ _ (by rfl) w1.heap.size 59 i0 (.agg #[.int .i64 0, .int .i64 0]) 2 16 Tryz.underlying58 hi0 hz0 hz1 hz2 rfl (by decide) _ _ _ (by rfl) (HR3.out.1.alloc _) ⟨wt.heap.size, 0, none⟩ 1 1 [.int .i64 x, .int .i64 (y - 1)] (by rfl) (by rfl) (cells_new_drew wt #[.int .i64 x, .int .i64 (y - 1)] _ _ rfl) (by intro u hu; simp at hu; rcases hu with rfl | rfl <;> rfl) (by decide) (by unfold maxLen; omega) (by omega) (by simp; omega) (wt.heap.size + 1) (by simp) ?_; intro g2 cap2 w2 hown' hgrow _ _))
              have hb2 := hbase _ hgrow
              have HI : Hid (JnInv w1 f D (.slice (some ⟨g2, 0, none⟩) (0 + 1) cap2) (.int .i64 ((k : Int) + 1)) w2) := Lib.hid (by refine ⟨k + 1, by omega, by go_num, ?_, hb2⟩; rw [HST.out]; simpa [Rs.jacc, rFlat, rCells] using hown')
              clear hown' hgrow hb2 hbase hwk hk1 hk0 hkn hwy
              go_wp2
              go_roundw
              case rel => exact HI.out
              case measure => simp [intOf]; omega
            | cons q s =>
              obtain ⟨gv, cv', ev⟩ := ownsRow_succ HR2.out.1
              obtain ⟨rfl, rfl⟩ : av = some ⟨gv, 0, none⟩ ∧ cv = cv' := by cases ev; exact ⟨rfl, rfl⟩
              clear ev
              obtain ⟨q1, q2⟩ := q
              have hq2 := HJ.out.hd _ _ rfl
              have hq2b : 0 ≤ q2 := by
                have := (Rs.okR_iff _).1 HJ.out.rr.ok
                simp only at this
                omega
              simp only at hq2
              obtain ⟨cq, fq⟩ := ownsRow_cell HR2.out.1 (j := s.length * 2 + 1) (u := .int .i64 q2) (by
                have := (rFlat_get ((q1, q2) :: s).reverse s.length (q1, q2) (by simp)).2
                simpa using this)
              have hgq : gv < wp.heap.size := (ownsRow_block HR2.out.1).2.1
              rw [List.length_cons] at hvc hal
              by_cases hmg : q2 = x - 1
              · subst hmg
                go_wp2_with fail
                go_big_quiet (fail)
                have c1' : (wp.drewN nq).cell? ⟨g, k + 1, none⟩ = some (.int .i64 y) := c1
                have cq' : (wp.drewN nq).cell? ⟨gv, s.length * 2 + 1, none⟩ = some (.int .i64 (x - 1)) := cq
                have fq' : (wp.drewN nq).frozen? ⟨gv, s.length * 2 + 1, none⟩ = false := fq
                have c0' : (wp.drewN nq).cell? ⟨g, k, none⟩ = some (.int .i64 x) := c0
                have HR3 := Lib.hid (show _ ∧ _ from ⟨(show (wp.drewN nq).ownsRow w1.heap.size 59 2 _ _ _ from HR2.out.1), Bdrew HR2.out.2 nq⟩)
                have hgw' : g < (wp.drewN nq).heap.size := hgw
                have hgq' : gv < (wp.drewN nq).heap.size := hgq
                clear c0 c1 cq fq HR2 hgw hbs hgq
                generalize wp.drewN nq = wt at *
                have hgb : w1.heap.size ≤ gv := (ownsRow_block HR3.out.1).1
                have HI : Hid (JnInv w1 f D (.slice (some ⟨gv, 0, none⟩) (s.length + 1) cv) (.int .i64 ((k : Int) + 1)) (wt.setCell ⟨gv, s.length * 2 + 1, none⟩ (.int .i64 (y - 1)))) := Lib.hid (by
                  refine ⟨k + 1, by omega, by go_num, ?_, HR3.out.2.setCell hgb _⟩
                  rw [HST.out]
                  have hset := ownsRow_set HR3.out.1 (j := s.length * 2 + 1) (by rw [rFlat_length]; simp; omega) (.int .i64 (y - 1))
                  rw [rFlat_last] at hset
                  unfold Rs.jacc
                  simp only [if_true]
                  exact hset)
                go_wp2
                go_roundw
                case rel => exact HI.out
                case measure => simp [intOf]; omega
              · have hmq : q2 < x - 1 := by omega
                have t2 : (q2 == x - 1) = false := by rw [beq_eq_false_iff_ne]; exact hmg
                go_wp2_with fail
                go_big_quiet (fail)
                clear t2
                have c0' : (wp.drewN nq).cell? ⟨g, k, none⟩ = some (.int .i64 x) := c0
                have c1' : (wp.drewN nq).cell? ⟨g, k + 1, none⟩ = some (.int .i64 y) := c1
                have HR3 := Lib.hid (show _ ∧ _ from ⟨(show (wp.drewN nq).ownsRow w1.heap.size 59 2 _ _ _ from HR2.out.1), Bdrew HR2.out.2 nq⟩)
                have hgw' : g < (wp.drewN nq).heap.size := hgw
                have hbs' : w1.heap.size ≤ (wp.drewN nq).heap.size := hbs
                clear c0 c1 HR2 hgw hbs
                generalize wp.drewN nq = wt at *
                clear cq fq hgq
                have hln : ((q1, q2) :: s).length = s.length + 1 := rfl
                go_wp2_with fail
                have hwy : IntKind.i64.wrap (y - 1) = y - 1 := by rw [IntKind.wrap_i64]; omega
                have hwk : IntKind.i64.wrap ((k : Int) + 1) = (k : Int) + 1 := by rw [IntKind.wrap_i64]; omega
                have hk1 : (k : Int) + 1 < (D.length : Int) := by omega
                have hk0 : 0 ≤ (k : Int) + 1 := by omega
                have hkn : ((k : Int) + 1).toNat = k + 1 := by omega
                have hbase : ∀ wz : World, (((wt.alloc (.cells #[.int .i64 x, .int .i64 (y - 1)] 59)).drew).grownBy wz (Value.slice (some ⟨gv, 0, none⟩) (s.length + 1) cv).ownBlock) → Below w1.heap.size w1 wz := fun wz hgz => by
                  exact grown_below HR3.out.1 HR3.out.2 hbs' hgz
                have hcg : ∀ wz : World, Below w1.heap.size w1 wz → wz.cell? ⟨g, k, none⟩ = some (.int .i64 x) ∧ wz.cell? ⟨g, k + 1, none⟩ = some (.int .i64 y) := fun wz hz => by
                  rw [hz.cell (p := ⟨g, k, none⟩) hg, hz.cell (p := ⟨g, k + 1, none⟩) hg]
                  rw [HR3.out.2.cell (p := ⟨g, k, none⟩) hg] at c0'
                  rw [HR3.out.2.cell (p := ⟨g, k + 1, none⟩) hg] at c1'
                  exact ⟨c0', c1'⟩
                have HCG := Lib.hid hcg
                clear hcg
                go_region_held_law (fun w' : World => w'.cell? ⟨g, k, none⟩ = some (.int .i64 x) ∧ w'.cell? ⟨g, k + 1, none⟩ = some (.int .i64 y)) (first | go_keep | exact HCG.out _ (hbase _ hgrow))
                  ((refine step_append_lies _ (by rfl) _ _ _ (by rfl) w1.heap.size 59 i0 (.agg #[.int .i64 0, .int .i64 0]) 2 16 Tryz.underlying58 hi0 hz0 hz1 hz2 rfl (by decide) _ _ _ (by rfl) (HR3.out.1.alloc _) ⟨wt.heap.size, 0, none⟩ 1 1 [.int .i64 x, .int .i64 (y - 1)] (by rfl) (by rfl) (cells_new_drew wt #[.int .i64 x, .int .i64 (y - 1)] _ _ rfl) (by intro u hu; simp at hu; rcases hu with rfl | rfl <;> rfl) (by decide) (by unfold maxLen; omega) (by omega) (by simp; omega) (wt.heap.size + 1) (by simp) ?_; intro g2 cap2 w2 hown' hgrow _ _))
                have hb2 := hbase _ hgrow
                have HI : Hid (JnInv w1 f D (.slice (some ⟨g2, 0, none⟩) (s.length + 1 + 1) cap2) (.int .i64 ((k : Int) + 1)) w2) := Lib.hid (by refine ⟨k + 1, by omega, by go_num, ?_, hb2⟩; rw [HST.out]; unfold Rs.jacc; simp only [if_neg hmg]; simpa [rFlat, rCells] using hown')
                clear hown' hgrow hb2 hbase hwk hk1 hk0 hkn hwy
                go_wp2
                go_roundw
                case rel => exact HI.out
                case measure => simp [intOf]; omega
    · have hkk : D.length - 1 = k := by omega
      rw [hkk] at HF
      have HR := Lib.hid (show _ ∧ _ from ⟨hrow, hb⟩)
      clear hrow hb
      go_wp2
      go_ret
      have hl : (Rs.jto f D k).length = X.length := by rw [← HF.out, List.length_reverse]
      exact ⟨_, rfl, by rw [← HF.out, List.length_reverse]; exact ownsRow_base HR.out.1 HB.out.size, Bthen HB.out HR.out.2⟩
end Go.Proofs.YtkjilodmmcefbaaGreatDoor
