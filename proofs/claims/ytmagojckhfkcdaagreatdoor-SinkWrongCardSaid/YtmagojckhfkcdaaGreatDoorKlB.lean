/- Chapter 38's labels in memory: label.Right. -/
import Derived.Test.YtmagojckhfkcdaaGreatDoorKlA
import Derived.Test.YtmagojckhfkcdaaGreatDoorKmA
namespace Go.Proofs.YtmagojckhfkcdaaGreatDoor.Sk
open Go Go.RowKit
def lval (x : Lab) : Value := .agg #[.string x.1, .string x.2]
set_option maxRecDepth 100000 in
theorem one_calls (n v : ByteArray) (w : World) (hs : v.size ≤ 4611686018427387904) : Calls Tryz.prog 109 #[.agg #[.string n, .string v]] w fun e w' => (∃ er : Int, e = .returned (.int .i64 er) ∧ ((er == 0) = (nameB (d n) && valueB (d v)))) ∧ Below w.heap.size w w' := by
  cases hn : nameB (d n) with
  | false =>
    have HN := Lib.hid hn
    clear hn
    go_enter Tryz.func109, Tryz.ntmps109
    go_wp2_with (first | (go_at_call 126; refine (lname_calls n _).mono ?_; rintro e w' ⟨rfl, rfl⟩; rw [HN.out]))
    go_ret
    exact ⟨⟨40, rfl, by simp⟩, (Below.refl _ _).alloc (Nat.le_refl _) _⟩
  | true =>
    have HN := Lib.hid hn
    clear hn
    cases hv : valueB (d v) with
    | false =>
      have HV := Lib.hid hv
      clear hv
      go_enter Tryz.func109, Tryz.ntmps109
      go_wp2_with (first | (go_at_call 126; refine (lname_calls n _).mono ?_; rintro e w' ⟨rfl, rfl⟩; rw [HN.out]) | (go_at_call 127; refine (lvalue_calls v _ hs).mono ?_; rintro e w' ⟨rfl, rfl⟩; rw [HV.out]))
      go_ret
      exact ⟨⟨41, rfl, by simp⟩, (Below.refl _ _).alloc (Nat.le_refl _) _⟩
    | true =>
      have HV := Lib.hid hv
      clear hv
      go_enter Tryz.func109, Tryz.ntmps109
      go_wp2_with (first | (go_at_call 126; refine (lname_calls n _).mono ?_; rintro e w' ⟨rfl, rfl⟩; rw [HN.out]) | (go_at_call 127; refine (lvalue_calls v _ hs).mono ?_; rintro e w' ⟨rfl, rfl⟩; rw [HV.out]))
      go_ret
      exact ⟨⟨0, rfl, by simp⟩, (Below.refl _ _).alloc (Nat.le_refl _) _⟩
def pv (l : List Lab) (k : Nat) : Option ByteArray := if k = 0 then none else (l[k - 1]?).map (·.1)
theorem lab_step {l : List Lab} {k : Nat} {x : Lab} (h : l[k]? = some x) : labGo (pv l k) (l.drop k) = (labOk (pv l k) x && labGo (pv l (k + 1)) (l.drop (k + 1))) := by
  have hk := (List.getElem?_eq_some_iff.1 h).1
  have hx := (List.getElem?_eq_some_iff.1 h).2
  rw [List.drop_eq_getElem_cons hk, hx, labGo]
  congr 2
  unfold pv
  rw [if_neg (by omega), show k + 1 - 1 = k by omega, h]
  rfl
def CkPost (l : List Lab) (w : World) (e : Ending) (w' : World) : Prop :=
  (∃ (i er : Int), e = .returned (.tuple #[.int .i64 i, .int .i64 er]) ∧ ((er == 0) = labRight l)) ∧ Below w.heap.size w w'
theorem bl_eq (a b : ByteArray) : Op.bytesLess a.toList b.toList = decide (d a < d b) := by rw [ByteArray.toList_eq, ByteArray.toList_eq]; exact bytesLess_eq _ _
set_option maxRecDepth 100000 in
set_option maxHeartbeats 4000000 in
theorem lcheck_calls (a : Option Addr) (cap : Nat) (l : List Lab) (w : World) (h : RdL w a l) (hn : l.length ≤ 1000000000) (hb : ∀ x ∈ l, x.2.size ≤ 4611686018427387904) :
    Calls Tryz.prog 80 #[.slice a l.length cap] w (CkPost l w) := by
  by_cases hl : l.length ≤ 64
  · have HB : Hid (labRight l = labGo none l) := Lib.hid (by unfold labRight; rw [decide_eq_true hl]; rfl)
    have HS := Lib.hid h
    have HZ := Lib.hid hb
    clear h hb
    go_enter Tryz.func80, Tryz.ntmps80
    go_wp2
    go_loopw [12] (fun i wr => ∃ k : Nat, k ≤ l.length ∧ i = .int .i64 k ∧ labGo none l = labGo (pv l k) (l.drop k) ∧ Below w.heap.size w wr) (fun i _ => l.length - (intOf i).toNat)
    case atStart => exact ⟨0, Nat.zero_le _, rfl, rfl, Below.refl _ _⟩
    case round =>
      obtain ⟨k, hk, rfl, hv, hb⟩ := hrel
      by_cases hlt : k < l.length
      · obtain ⟨b, off, rfl, ht, hc⟩ := HS.out (by intro e; subst e; simp at hlt)
        have hbl := ht
        obtain ⟨x, hx⟩ : ∃ x, l[k]? = some x := ⟨_, List.getElem?_eq_getElem hlt⟩
        obtain ⟨n, v⟩ := x
        have HV := Lib.hid (hv.trans (lab_step hx))
        have hvs := HZ.out _ (List.mem_of_getElem? hx)
        dsimp only at hvs
        obtain ⟨c0, c1⟩ := hc k _ hx
        rw [← hb.cell (by exact hbl)] at c0 c1
        dsimp only at c0 c1
        have hbw : b < wr.heap.size := by have := hb.size; omega
        have HC := Lib.hid hc
        clear hv hc hx
        obtain ⟨w0, hw0⟩ : ∃ q, q = wr := ⟨_, rfl⟩
        subst hw0
        have HB0 := Lib.hid hb
        have hb0 := hb.size
        clear hb
        go_wp2_with fail
        go_at_call 109
        refine (one_calls n v _ hvs).mono ?_
        rintro e w1 ⟨⟨er, rfl, he⟩, hb1⟩
        have d0 : w1.cell? ⟨w0.heap.size, 0, none⟩ = some (.string n) := by
          rw [hb1.cell (p := ⟨w0.heap.size, 0, none⟩) (by simp)]
          exact new_cell _ _ _ _ _ rfl
        have d1 : w1.cell? ⟨w0.heap.size, 1, none⟩ = some (.string v) := by
          rw [hb1.cell (p := ⟨w0.heap.size, 1, none⟩) (by simp)]
          exact new_cell _ _ _ _ _ rfl
        have HBW : Hid (Below w.heap.size w w1) := Lib.hid ((HB0.out.alloc hb0 _).trans (hb1.mono (by simp; omega)))
        have HPR : Hid (∀ j o, j < w.heap.size → w1.cell? ⟨j, o, none⟩ = w.cell? ⟨j, o, none⟩) := Lib.hid (fun j o hj => HBW.out.cell (p := ⟨j, o, none⟩) hj)
        have hs1 : w0.heap.size < w1.heap.size := by have := hb1.size; simp at this; omega
        clear hb1 c0 c1
        have FIN : Hid (∀ m, Below w.heap.size w (w1.drewN m)) := Lib.hid (fun m => below_drewN HBW.out m)
        have HE := Lib.hid he
        clear he
        cases hok : nameB (d n) && valueB (d v) with
        | false =>
          have her : (er == 0) = false := HE.out.trans hok
          have HN : Hid (labRight l = false) := Lib.hid (by rw [HB.out, HV.out]; unfold labOk; rw [hok]; rfl)
          have HER := Lib.hid her
          have her2 : (er != 0) = true := by simpa using her
          clear hok
          go_wp2_with fail
          go_big_quiet (fail)
          go_wp2
          go_ret2
          exact ⟨⟨_, _, rfl, by rw [HN.out]; exact HER.out⟩, FIN.out _⟩
        | true =>
          obtain rfl : er = 0 := by simpa using HE.out.trans hok
          have HOK := Lib.hid hok
          clear HE hok
          by_cases hv0 : d v = []
          · have HN : Hid (labRight l = false) := Lib.hid (by rw [HB.out, HV.out]; unfold labOk; rw [HOK.out, decide_eq_false (by simpa using hv0)]; rfl)
            have hv1 : v.toList = [] := by rw [ByteArray.toList_eq]; exact hv0
            have hv2 : v.toList.isEmpty = true := by rw [hv1]; rfl
            clear hv0
            go_wp2_with fail
            go_big_quiet (fail)
            go_wp2
            go_ret2
            exact ⟨⟨_, _, rfl, by rw [HN.out]; rfl⟩, FIN.out _⟩
          · have hv1 : v.toList.isEmpty = false := by
              rw [ByteArray.toList_eq]
              cases hh : v.data.toList with
              | nil => exact absurd hh hv0
              | cons _ _ => rfl
            have HOK2 : Hid (∀ q, labOk q (n, v) = match q with | none => true | some p => decide (d p < d n)) := Lib.hid (fun q => by unfold labOk; rw [HOK.out, decide_eq_true (by simpa using hv0)]; rfl)
            clear hv0
            by_cases hk0 : k = 0
            · have hkd : decide (0 < k) = false := by simp; omega
              have HY : Hid (labGo none l = labGo (pv l (k + 1)) (l.drop (k + 1))) := Lib.hid (by rw [HV.out, HOK2.out]; unfold pv; rw [if_pos hk0]; rfl)
              clear hk0
              go_wp2_with fail
              go_big_quiet (fail)
              go_wp2
              go_roundw
              case rel => exact ⟨k + 1, by omega, by go_num, HY.out, FIN.out _⟩
              case measure => simp [intOf]; omega
            · have hk1 : 1 ≤ k := by omega
              have hkd : decide (0 < k) = true := by simp; omega
              obtain ⟨y, hy⟩ : ∃ y, l[k - 1]? = some y := ⟨_, List.getElem?_eq_getElem (by omega)⟩
              obtain ⟨pn, pq⟩ := y
              have HPV : Hid (pv l k = some pn) := Lib.hid (by unfold pv; rw [if_neg hk0, hy]; rfl)
              have e0 := (HC.out (k - 1) _ hy).1
              rw [← HPR.out _ _ hbl] at e0
              dsimp only at e0
              clear hy hk0
              by_cases hord : d pn < d n
              · have HY : Hid (labGo none l = labGo (pv l (k + 1)) (l.drop (k + 1))) := Lib.hid (by rw [HV.out, HOK2.out, HPV.out]; simp only; rw [decide_eq_true hord]; rfl)
                have f1 : Op.bytesLess n.toList pn.toList = false := by rw [bl_eq]; exact decide_eq_false (List.lt_asymm hord)
                have f2 : (n.toList == pn.toList) = false := by
                  rw [ByteArray.toList_eq, ByteArray.toList_eq]
                  exact beq_eq_false_iff_ne.2 (fun e => by have e : d n = d pn := e; rw [e] at hord; exact List.lt_irrefl _ hord)
                clear hord
                go_wp2_with fail
                go_big_quiet (fail)
                go_wp2
                go_roundw
                case rel => exact ⟨k + 1, by omega, by go_num, HY.out, FIN.out _⟩
                case measure => simp [intOf]; omega
              · have HN : Hid (labRight l = false) := Lib.hid (by rw [HB.out, HV.out, HOK2.out, HPV.out]; simp only; rw [decide_eq_false hord]; rfl)
                have f1 : (Op.bytesLess n.toList pn.toList || n.toList == pn.toList) = true := by
                  rw [bl_eq, ByteArray.toList_eq, ByteArray.toList_eq]
                  simp only [Bool.or_eq_true, decide_eq_true_eq, beq_iff_eq]
                  by_cases h : d n < d pn
                  · exact .inl h
                  · exact .inr (List.le_antisymm (List.not_lt.1 hord) (List.not_lt.1 h))
                clear hord
                go_wp2_with fail
                go_big_quiet (fail)
                go_wp2
                go_ret2
                exact ⟨⟨_, _, rfl, by rw [HN.out]; rfl⟩, FIN.out _⟩
      · have HY : Hid (labRight l = true) := Lib.hid (by rw [HB.out, hv, List.drop_eq_nil_of_le (by omega)]; rfl)
        clear hv
        have HBb := Lib.hid hb
        clear hb
        go_wp2
        go_ret2
        exact ⟨⟨_, _, rfl, by rw [HY.out]; rfl⟩, HBb.out⟩
  · have HN : Hid (labRight l = false) := Lib.hid (by unfold labRight; rw [decide_eq_false hl]; rfl)
    clear h
    go_enter Tryz.func80, Tryz.ntmps80
    go_wp2
    go_ret2
    exact ⟨⟨_, _, rfl, by rw [HN.out]; rfl⟩, Below.refl _ _⟩
set_option maxRecDepth 100000 in
theorem lright_calls (a : Option Addr) (cap : Nat) (l : List Lab) (w : World) (h : RdL w a l) (hn : l.length ≤ 1000000000) (hb : ∀ x ∈ l, x.2.size ≤ 4611686018427387904) :
    Calls Tryz.prog 55 #[.slice a l.length cap] w fun e w' => e = .returned (.bool (labRight l)) ∧ Below w.heap.size w w' := by
  go_enter Tryz.func55, Tryz.ntmps55
  go_wp2_with fail
  go_at_call 80
  refine (lcheck_calls a cap l _ h hn hb).mono ?_
  rintro e w1 ⟨⟨i, er, rfl, he⟩, hb⟩
  have HE := Lib.hid he
  have HB := Lib.hid hb
  clear he hb
  go_wp2
  go_ret
  exact ⟨ret_bool (by rw [← HE.out]), HB.out⟩
end Go.Proofs.YtmagojckhfkcdaaGreatDoor.Sk
