/- Chapter 38's bytes of labels read back: canon.Read. -/
import Derived.Test.YtmagojckhfkcdaaGreatDoorKcA
import Derived.Test.YtmagojckhfkcdaaGreatDoorLaid
import Derived.Deep.RegionHeldLaw
import Derived.Deep.AppendLies
namespace Go.Proofs.YtmagojckhfkcdaaGreatDoor.Sk
open Go Go.RowKit
def twoB : List ByteArray → List Lab
  | a :: b :: r => (a, b) :: twoB r
  | _ => []
theorem mk_data (a : ByteArray) : (⟨a.data.toList.toArray⟩ : ByteArray) = a := by simp
theorem two_twoB : ∀ P : List ByteArray, two (P.map (·.data.toList)) = twoB P
  | [] => by simp [two, twoB]
  | [_] => by simp [two, twoB]
  | a :: b :: r => by
    simp only [List.map_cons, two, twoB]
    rw [← two_twoB r]
theorem twoB_length : ∀ P : List ByteArray, (twoB P).length = P.length / 2
  | [] => by simp [twoB]
  | [_] => by simp [twoB]
  | a :: b :: r => by
    have := twoB_length r
    simp only [twoB, List.length_cons, this]
    omega
theorem twoB_at : ∀ (P : List ByteArray) (k : Nat) (a b : ByteArray), P[2 * k]? = some a → P[2 * k + 1]? = some b → (twoB P)[k]? = some (a, b)
  | [], _, _, _, h, _ => by simp at h
  | [_], k, _, _, _, h => by simp at h
  | a :: b :: r, 0, x, y, h, h' => by
    simp at h h'
    subst h; subst h'
    rfl
  | a :: b :: r, k + 1, x, y, h, h' => by
    rw [show 2 * (k + 1) = 2 * k + 1 + 1 by omega] at h
    rw [show 2 * (k + 1) + 1 = 2 * k + 1 + 1 + 1 by omega] at h'
    simp only [List.getElem?_cons_succ] at h h'
    simp only [twoB, List.getElem?_cons_succ]
    exact twoB_at r k x y h h'
theorem twoB_mem : ∀ {P : List ByteArray} {x : Lab}, x ∈ twoB P → x.1 ∈ P ∧ x.2 ∈ P
  | [], _, h => by simp [twoB] at h
  | [_], _, h => by simp [twoB] at h
  | a :: b :: r, x, h => by
    simp only [twoB, List.mem_cons] at h
    rcases h with rfl | h
    · simp
    · have := twoB_mem h
      simp [this.1, this.2]
theorem cutAt_le (c : UInt8) : ∀ (s : B) (p : B), p ∈ cutAt c s → p.length ≤ s.length
  | [], p, h => by simp [cutAt] at h; subst h; simp
  | x :: r, p, h => by
    unfold cutAt at h
    split at h
    · rcases List.mem_cons.1 h with rfl | h
      · simp
      · have := cutAt_le c r p h
        simp only [List.length_cons]; omega
    · have ih := cutAt_le c r
      unfold onto at h
      split at h
      · rename_i q t hq
        rcases List.mem_cons.1 h with rfl | h
        · have := ih q (by rw [hq]; simp)
          simp only [List.length_cons]; omega
        · have := ih p (by rw [hq]; simp [h])
          simp only [List.length_cons]; omega
      · simp at h
        subst h
        simp
theorem cutAt_len (c : UInt8) : ∀ s : B, (cutAt c s).length ≤ s.length + 1
  | [] => by simp [cutAt]
  | x :: r => by
    have ih := cutAt_len c r
    unfold cutAt
    split
    · simp; omega
    · unfold onto
      split
      · rename_i q t hq
        rw [hq] at ih
        simp at ih ⊢
        omega
      · simp
/-- the pieces as strings -/
def pcs (s : ByteArray) : List ByteArray := Lib.splitB ⟨#[255]⟩ 0 (Lib.countB s ⟨#[255]⟩) s
theorem pcs_data (s : ByteArray) : (pcs s).map (·.data.toList) = cutAt 255 (d s) := by
  unfold pcs
  rw [Lib.splitB_data]
  exact split_one 255 (d s)
theorem pcs_length (s : ByteArray) : (pcs s).length = Lib.countB s ⟨#[255]⟩ + 1 := Lib.splitB_all ⟨#[255]⟩ (by decide) 0 _ s rfl
theorem pcs_le (s : ByteArray) : ∀ p ∈ pcs s, p.size ≤ s.size := by
  intro p hp
  have := cutAt_le 255 (d s) p.data.toList (by rw [← pcs_data]; exact List.mem_map_of_mem hp)
  simpa using this
theorem pcs_len (s : ByteArray) : (pcs s).length ≤ s.size + 1 := by
  have := cutAt_len 255 (d s)
  rw [← pcs_data, List.length_map] at this
  simpa using this
theorem readS_pcs (s : ByteArray) : readS (d s) = if (pcs s).length % 2 = 0 ∨ ((pcs s).getLast?.map (·.data.toList)) ≠ some [] ∨ 129 < (pcs s).length then none else if labRight (twoB (pcs s)) then some (twoB (pcs s)) else none := by
  unfold readS
  rw [← pcs_data, two_twoB, List.length_map, List.getLast?_map]
def CrPost (s : ByteArray) (w : World) (e : Ending) (w' : World) : Prop :=
  (match readS (d s) with
    | some l => ∃ v, e = .returned (.tuple #[v, .int .i64 0]) ∧ w'.ownsRow w.heap.size 66 2 v l.length (lFlat l)
    | none => e = .returned (.tuple #[.slice none 0 0, .int .i64 50])) ∧ Below w.heap.size w w'
theorem CrPost.yes {s : ByteArray} {w w' : World} {l : List Lab} {v : Value} (h : readS (d s) = some l) (hown : w'.ownsRow w.heap.size 66 2 v l.length (lFlat l)) (hb : Below w.heap.size w w') : CrPost s w (.returned (.tuple #[v, .int .i64 0])) w' := by
  unfold CrPost
  rw [h]
  exact ⟨⟨v, rfl, hown⟩, hb⟩
theorem CrPost.no {s : ByteArray} {w w' : World} (h : readS (d s) = none) (hb : Below w.heap.size w w') : CrPost s w (.returned (.tuple #[.slice none 0 0, .int .i64 50])) w' := by
  unfold CrPost
  rw [h]
  exact ⟨rfl, hb⟩
theorem Tryz.info66 : (Tryz.prog.info? 66).map (fun i => (i.zero, i.size, i.bytes)) = some (some (.agg #[.string ⟨#[]⟩, .string ⟨#[]⟩]), 2, 32) := by kernel_rfl
theorem lFlat_take (l : List Lab) {k : Nat} {x : Lab} (h : l[k]? = some x) : lFlat (l.take (k + 1)) = lFlat (l.take k) ++ [.string x.1, .string x.2] := strs_take l h
theorem _root_.Go.World.ownsRow.kept' {w w1 : World} {base : Nat} {e : TypeId} {size : Nat} {v : Value} {k : Nat} {xs : List Value} (h : w.ownsRow base e size v k xs) (hb : Below w.heap.size w w1) : w1.ownsRow base e size v k xs := by
  refine ⟨h.1, ?_⟩
  rcases h.2 with hn | ⟨g, cap, cur, hv, hbg, hg, rest⟩
  · exact .inl hn
  · exact .inr ⟨g, cap, cur, hv, hbg, (hb.block g (Array.getElem?_eq_some_iff.1 hg).1).trans hg, rest⟩
set_option maxRecDepth 100000 in
set_option maxHeartbeats 4000000 in
theorem cread_calls (s : ByteArray) (w : World) (hs : s.size ≤ 1100000) (m : Int) (hm : w.cell? ⟨4, 0, none⟩ = some (.int .i64 m)) :
    Calls Tryz.prog 44 #[.string s] w (CrPost s w) := by
  have hsp := Tryz.strings_Split s ⟨#[255]⟩ m w (by omega) hm (by decide)
  rw [← pcs_length s] at hsp
  rw [show Lib.splitB ⟨#[255]⟩ 0 (Lib.countB s ⟨#[255]⟩) s = pcs s from rfl] at hsp
  have HSP := Lib.hid hsp
  have HRS := Lib.hid (readS_pcs s)
  have HLE := Lib.hid (pcs_le s)
  have hlen := pcs_len s
  have hpos : 1 ≤ (pcs s).length := by rw [pcs_length]; omega
  clear hsp hm
  generalize pcs s = P at *
  obtain ⟨last, hlast⟩ : ∃ x, P[P.length - 1]? = some x := ⟨_, List.getElem?_eq_getElem (by omega)⟩
  have HLA : Hid (P.getLast? = some last) := Lib.hid (by rw [List.getLast?_eq_getElem?]; exact hlast)
  have hwc : (w.alloc (.cells (P.map Value.string).toArray 9)).heap.size = w.heap.size + 1 := by simp
  have HCW : Hid (∀ (j : Nat) y, P[j]? = some y → (w.alloc (.cells (P.map Value.string).toArray 9)).cell? ⟨w.heap.size, j, none⟩ = some (.string y)) := Lib.hid (fun j y hj => by
    refine new_cell _ _ _ _ _ ?_
    simp [hj])
  have cl := HCW.out _ _ hlast
  have hb1 : Below w.heap.size w (w.alloc (.cells (P.map Value.string).toArray 9)) := (Below.refl _ _).alloc (Nat.le_refl _) _
  have HB1 := Lib.hid hb1
  generalize hw1 : w.alloc (.cells (P.map Value.string).toArray 9) = w1 at *
  have HW1 := Lib.hid hw1
  clear hw1 hb1 hlast
  have hti : (((P.length : Int) - 1).toNat) = P.length - 1 := by omega
  by_cases hev : P.length % 2 = 0
  · have HN : Hid (readS (d s) = none) := Lib.hid (by rw [HRS.out, if_pos (.inl hev)])
    have hb : ((P.length : Int) % 2 == 0) = true := by simp; omega
    clear hev
    go_enter Tryz.func44, Tryz.ntmps44
    go_wp2_with fail
    go_at_call 43
    refine HSP.out.mono ?_
    rintro e w2 ⟨rfl, rfl⟩
    go_wp2
    go_ret2
    exact CrPost.no HN.out HB1.out
  have hb : ((P.length : Int) % 2 == 0) = false := by simp; omega
  by_cases hle : d last ≠ []
  · have HN : Hid (readS (d s) = none) := Lib.hid (by rw [HRS.out, if_pos (.inr (.inl (by rw [HLA.out]; simpa using hle)))])
    have hv1 : last.toList.isEmpty = false := by
      rw [ByteArray.toList_eq]
      cases hh : last.data.toList with
      | nil => exact absurd hh hle
      | cons _ _ => rfl
    clear hle hev
    go_enter Tryz.func44, Tryz.ntmps44
    go_wp2_with fail
    go_at_call 43
    refine HSP.out.mono ?_
    rintro e w2 ⟨rfl, rfl⟩
    go_wp2
    go_ret2
    exact CrPost.no HN.out HB1.out
  replace hle : d last = [] := Classical.not_not.1 hle
  have hv1 : last.toList.isEmpty = true := by
    rw [ByteArray.toList_eq]
    show (d last).isEmpty = true
    rw [hle]
    rfl
  by_cases hbig : 129 < P.length
  · have HN : Hid (readS (d s) = none) := Lib.hid (by rw [HRS.out, if_pos (.inr (.inr hbig))])
    clear hle hev
    go_enter Tryz.func44, Tryz.ntmps44
    go_wp2_with fail
    go_at_call 43
    refine HSP.out.mono ?_
    rintro e w2 ⟨rfl, rfl⟩
    go_wp2
    go_ret2
    exact CrPost.no HN.out HB1.out
  have HRD : Hid (readS (d s) = if labRight (twoB P) then some (twoB P) else none) := Lib.hid (by
    rw [HRS.out, if_neg]
    rintro (h | h | h)
    · exact hev h
    · rw [HLA.out] at h
      exact h (by simpa using hle)
    · exact hbig h)
  have htl := twoB_length P
  obtain ⟨n, hn⟩ : ∃ n, n = P.length / 2 := ⟨_, rfl⟩
  rw [← hn] at htl
  have hPn : P.length = 2 * n + 1 := by omega
  have HAT : Hid (∀ (k : Nat) (a b : ByteArray), P[2 * k]? = some a → P[2 * k + 1]? = some b → (twoB P)[k]? = some (a, b)) := Lib.hid (twoB_at P)
  have HSZ : Hid (∀ x ∈ twoB P, x.2.size ≤ 4611686018427387904) := Lib.hid (fun x hx => by have := HLE.out _ (twoB_mem hx).2; omega)
  have HPN := Lib.hid hPn
  have HTL := Lib.hid htl
  have hPi : (P.length : Int) = 2 * (n : Int) + 1 := by omega
  have hn64 : n ≤ 64 := by omega
  have HEV := Lib.hid hPi
  clear hle hev hn htl hPn hPi
  obtain ⟨i0, hi0, hz0, hz1, hz2⟩ := info_parts Tryz.info66
  have HI0 := Lib.hid (And.intro hi0 (And.intro hz0 (And.intro hz1 hz2)))
  clear hi0 hz0 hz1 hz2
  have hsz1 : w1.heap.size = w.heap.size + 1 := hwc
  have HSZ1 := Lib.hid hsz1
  have hwlt : w.heap.size < w1.heap.size := by omega
  clear hsz1 hwc
  go_enter Tryz.func44, Tryz.ntmps44
  go_wp2_with fail
  go_at_call 43
  refine HSP.out.mono ?_
  rintro e w2 ⟨rfl, hw2⟩
  obtain rfl : w1 = w2 := hw2.symm
  go_wp2
  go_loopw [5, 6] (fun v i wr => ∃ k j : Nat, k ≤ n ∧ Hid (j = 2 * k) ∧ i = .int .i64 (j : Int) ∧ wr.ownsRow w1.heap.size 66 2 v k (lFlat ((twoB P).take k)) ∧ Below w1.heap.size w1 wr) (fun _ i _ => 2 * n - (intOf i).toNat)
  case atStart => exact ⟨0, 0, Nat.zero_le _, Lib.hid rfl, rfl, World.ownsRow_nil _ _ _ _, Below.refl _ _⟩
  case round =>
    obtain ⟨k, j, hk, HJ, rfl, hrow, hb⟩ := hrel
    have hbs := hb.size
    by_cases hlt : k < n
    · have hPl : P.length = 2 * n + 1 := HPN.out
      have hj : j = 2 * k := HJ.out
      obtain ⟨x, hx⟩ : ∃ x, P[j]? = some x := ⟨_, List.getElem?_eq_getElem (by omega)⟩
      obtain ⟨y, hy⟩ : ∃ y, P[j + 1]? = some y := ⟨_, List.getElem?_eq_getElem (by omega)⟩
      have c0 := HCW.out _ _ hx
      have c1 := HCW.out _ _ hy
      have HX := Lib.hid (lFlat_take _ (HAT.out k x y (by rw [← hj]; exact hx) (by rw [← hj]; exact hy)))
      have HC0 := Lib.hid c0
      have HC1 := Lib.hid c1
      rw [← hb.cell (p := ⟨w.heap.size, j, none⟩) hwlt] at c0
      rw [← hb.cell (p := ⟨w.heap.size, j + 1, none⟩) hwlt] at c1
      have hwb : w.heap.size < wr.heap.size := by omega
      have hj1 : (j : Int) + 1 < (P.length : Int) := by omega
      have hj2 : (j : Int) + 1 ≤ 1100000 := by omega
      have hj0 : (j : Int) < (P.length : Int) := by omega
      have hj3 : (0 : Int) ≤ (j : Int) + 1 := by omega
      have hj4 : (0 : Int) ≤ (j : Int) := by omega
      have hj5 : j + 2 ≤ 2 * n := by omega
      clear hx hy hj hPl
      have hbase : ∀ w2 : World, (((wr.alloc (.cells #[.string x, .string y] 66)).drew).grownBy w2 u5.ownBlock) → Below w1.heap.size w1 w2 := fun w2 hg => by
        have := (hb.alloc hbs (.cells #[.string x, .string y] 66)).drew
        refine this.grown hg (by simp; omega) fun j e => ?_
        rcases hrow.2 with ⟨rfl, _⟩ | ⟨g, cap, cur, rfl, hg', _⟩
        · simp [Value.ownBlock] at e
        · obtain rfl : g = j := by simpa [Value.ownBlock] using e
          exact hg'
      go_wp2_with fail
      have hk2 : IntKind.i64.wrap ((j : Int) + 1) = (j : Int) + 1 := by rw [IntKind.wrap_i64]; omega
      have hk3 : ((j : Int) + 1).toNat = j + 1 := by omega
      go_region_held_law (fun w' : World => w'.cell? ⟨w.heap.size, j, none⟩ = some (.string x) ∧ w'.cell? ⟨w.heap.size, j + 1, none⟩ = some (.string y)) (first | go_keep | exact ⟨((hbase _ hgrow).cell (p := ⟨w.heap.size, j, none⟩) hwlt).trans HC0.out, ((hbase _ hgrow).cell (p := ⟨w.heap.size, j + 1, none⟩) hwlt).trans HC1.out⟩)
        ((refine step_append_lies _ (by rfl) _ _ _ (by rfl) w1.heap.size 66 i0 (.agg #[.string ⟨#[]⟩, .string ⟨#[]⟩]) 2 32 Tryz.underlying31 HI0.out.1 HI0.out.2.1 HI0.out.2.2.1 HI0.out.2.2.2 rfl (by decide) _ _ _ (by rfl) (hrow.alloc _) ⟨wr.heap.size, 0, none⟩ 1 1 [.string x, .string y] (by rfl) (by rfl) (cells_new_drew wr #[.string x, .string y] _ _ rfl) (by intro u hu; simp at hu; rcases hu with rfl | rfl <;> rfl) (by decide) (by unfold maxLen; omega) (by omega) (by simp; omega) (wr.heap.size + 1) (by simp) ?_; intro g cap w2 hown' hgrow _ _))
      clear hk2 hk3
      have HB2 := Lib.hid (hbase _ hgrow)
      have HO2 : Hid (w2.ownsRow w1.heap.size 66 2 (.slice (some ⟨g, 0, none⟩) (k + 1) cap) (k + 1) (lFlat ((twoB P).take (k + 1)))) := Lib.hid (by rw [HX.out]; exact hown')
      have HJ2 : Hid (j + 2 = 2 * (k + 1)) := Lib.hid (by have := HJ.out; omega)
      clear hown' hgrow hbase hrow hb
      go_wp2
      go_roundw
      case rel => exact ⟨k + 1, j + 2, by omega, HJ2, by go_num, HO2.out, HB2.out⟩
      case measure => simp [intOf]; omega
    · obtain rfl : k = n := by omega
      have hnj : (P.length : Int) ≤ (j : Int) + 1 := by have := HJ.out; have := HPN.out; omega
      have htk : (twoB P).take k = twoB P := List.take_of_length_le (by rw [HTL.out]; exact Nat.le_refl _)
      rw [htk] at hrow
      obtain ⟨a', c', rfl⟩ := own_form hrow
      have hrd : RdL wr a' (twoB P) := RdL.of_own hrow
      have hcall := lright_calls a' c' (twoB P) wr hrd (by rw [HTL.out]; omega) HSZ.out
      rw [HTL.out] at hcall
      have HCALL := Lib.hid hcall
      have HO := Lib.hid hrow
      have HB := Lib.hid hb
      have hj2 : (j : Int) + 1 ≤ 1100000 := by have := HJ.out; omega
      clear htk hrow hrd hcall hb hlt
      have hdd : decide ((j : Int) + 1 < (P.length : Int)) = false := by simp; omega
      clear hti cl hv1 hlen hpos hs hk hbs hnj hbig hb
      rcases (show labRight (twoB P) = true ∨ labRight (twoB P) = false by cases labRight (twoB P) <;> simp) with hr | hr
      · have HR := Lib.hid hr
        have HN : Hid (readS (d s) = some (twoB P)) := Lib.hid (by rw [HRD.out, if_pos hr])
        clear hr
        go_wp2_with fail
        go_at_call 55
        refine HCALL.out.mono ?_
        rintro e w3 ⟨rfl, hb3⟩
        rw [HR.out]
        have HB3 := Lib.hid hb3
        clear hb3
        go_wp2
        go_ret2
        refine CrPost.yes HN.out ?_ (HB1.out.trans (Bthen HB.out HB3.out |>.mono (by have := HSZ1.out; omega)))
        rw [HTL.out]
        exact ownsRow_base (HO.out.kept' HB3.out) (by have := HSZ1.out; omega)
      · have HR := Lib.hid hr
        have HN : Hid (readS (d s) = none) := Lib.hid (by rw [HRD.out, hr]; rfl)
        clear hr
        go_wp2_with fail
        go_at_call 55
        refine HCALL.out.mono ?_
        rintro e w3 ⟨rfl, hb3⟩
        rw [HR.out]
        have HB3 := Lib.hid hb3
        clear hb3
        go_wp2
        go_ret2
        exact CrPost.no HN.out (HB1.out.trans (Bthen HB.out HB3.out |>.mono (by have := HSZ1.out; omega)))
end Go.Proofs.YtmagojckhfkcdaaGreatDoor.Sk
