/- Chapter 38's bytes of labels: canon.Bytes. -/
import Derived.Test.YtmagojckhfkcdaaGreatDoorKlB
import Derived.Test.YtmagojckhfkcdaaGreatDoorKpB
import Derived.Test.YtmagojckhfkcdaaGreatDoorKjA
import Derived.Laws.Concat
namespace Go.Proofs.YtmagojckhfkcdaaGreatDoor.Sk
open Go Go.RowKit
def strs (l : List Lab) : List ByteArray := l.flatMap fun x => [x.1, x.2]
theorem lFlat_strs (l : List Lab) : lFlat l = (strs l).map Value.string := by
  unfold lFlat strs
  rw [List.map_flatMap]
  rfl
theorem strs_length (l : List Lab) : (strs l).length = l.length * 2 := by
  have := lFlat_length l
  rw [lFlat_strs, List.length_map] at this
  exact this
theorem join_255 : ∀ (x : B) (r : List B), Lib.join (x :: r) [255] ++ [255] = (x :: r).flatMap fun x => x ++ [255] := by
  intro x r
  rw [Lib.join_cons]
  induction r generalizing x with
  | nil => simp [Lib.joinTail]
  | cons y r ih =>
    have := ih y
    unfold Lib.joinTail at this ⊢
    simp only [List.map_cons, List.flatten_cons, List.flatMap_cons, List.append_assoc] at this ⊢
    rw [this]
theorem bytesS_strs (l : List Lab) : bytesS l = ((strs l).map (·.data.toList)).flatMap fun x => x ++ [255] := by
  unfold bytesS strs
  rw [List.map_flatMap, List.flatMap_assoc]
  simp
theorem labGo_ok : ∀ {l : List Lab} {p : Option ByteArray}, labGo p l = true → ∀ x ∈ l, nameB (d x.1) = true ∧ valueB (d x.2) = true ∧ d x.2 ≠ []
  | [], _, _, x, hx => by cases hx
  | y :: l, p, h, x, hx => by
    simp only [labGo, Bool.and_eq_true] at h
    rcases List.mem_cons.1 hx with rfl | hx
    · have := h.1
      unfold labOk at this
      simp only [Bool.and_eq_true, decide_eq_true_eq] at this
      exact ⟨this.1.1.1, this.1.1.2, this.1.2⟩
    · exact labGo_ok h.2 x hx
theorem labRight_ok {l : List Lab} (h : labRight l = true) : l.length ≤ 64 ∧ ∀ x ∈ l, (d x.1).length ≤ 128 ∧ (d x.2).length ≤ 1024 := by
  unfold labRight at h
  simp only [Bool.and_eq_true, decide_eq_true_eq] at h
  refine ⟨h.1, fun x hx => ?_⟩
  obtain ⟨h1, h2, _⟩ := labGo_ok h.2 x hx
  unfold nameB at h1
  unfold valueB at h2
  simp only [Bool.and_eq_true, decide_eq_true_eq] at h1 h2
  exact ⟨h1.1.2, h2.1⟩
theorem bytesS_le : ∀ (l : List Lab), (∀ x ∈ l, (d x.1).length ≤ 128 ∧ (d x.2).length ≤ 1024) → (bytesS l).length ≤ l.length * 1154
  | [], _ => by simp [bytesS]
  | x :: l, h => by
    have ih := bytesS_le l (fun y hy => h y (List.mem_cons_of_mem _ hy))
    have := h x (List.mem_cons_self ..)
    unfold bytesS at ih ⊢
    simp only [List.flatMap_cons, List.length_append, List.length_cons, List.length_nil] at ih ⊢
    omega
theorem bytesS_bound {l : List Lab} (h : labRight l = true) : (bytesS l).length ≤ 73856 := by
  have h1 := labRight_ok h
  have := bytesS_le l h1.2
  omega
theorem Tryz.info9 : (Tryz.prog.info? 9).map (fun i => (i.zero, i.size, i.bytes)) = some (some (.string ⟨#[]⟩), 1, 16) := by kernel_rfl
set_option maxRecDepth 100000 in
theorem pieces_calls (bk o cap : Nat) (x : ByteArray) (r : List ByteArray) (w : World) (hcells : ∀ (j : Nat) y, (x :: r)[j]? = some y → w.cell? ⟨bk, o + j, none⟩ = some (.string y)) (hbk : bk < w.heap.size) (hcap : (x :: r).length ≤ cap)
    (hlen : (((x :: r).map (·.data.toList)).flatMap fun x => x ++ [255]).length ≤ 1100000) :
    Calls Tryz.prog 56 #[.string ⟨#[255]⟩, .slice (some ⟨bk, o, none⟩) (x :: r).length cap] w fun e w' => e = .returned (.string ⟨(((x :: r).map (·.data.toList)).flatMap fun x => x ++ [255]).toArray⟩) ∧ Below w.heap.size w w' := by
  have hj := join_255 x.data.toList (r.map (·.data.toList))
  rw [← List.map_cons (f := fun (x : ByteArray) => x.data.toList)] at hj
  rw [← hj] at hlen ⊢
  clear hj
  have hl2 : (Lib.join ((x :: r).map (·.data.toList)) [255]).length ≤ 1100000 := by rw [List.length_append] at hlen; omega
  have hxs : 1 ≤ (x :: r).length := by simp
  have hrl : (x :: r).length ≤ 1100001 := by
    have := Lib.join_length x.data.toList (r.map (·.data.toList)) [255]
    rw [List.map_cons] at hl2
    rw [this] at hl2
    simp only [List.length_map, List.length_cons, List.length_nil] at hl2 ⊢
    omega
  generalize x :: r = xs at *
  obtain ⟨J, hJ⟩ : ∃ J, J = Lib.join (xs.map (·.data.toList)) [255] := ⟨_, rfl⟩
  rw [← hJ] at hlen hl2 ⊢
  have ha : ∀ W, (Op.stringOp .add ⟨J.toArray⟩ ⟨#[255]⟩).run Tryz.prog W = .ok (.string ⟨(J ++ [255]).toArray⟩) W := fun W => run_string_add_lists W J [255] (by omega) (by simp)
  have HJ := Lib.hid hJ
  have HC := Lib.hid hcells
  clear hJ hcells
  have hne : ((xs.length : Int) == 0) = false := beq_eq_false_iff_ne.2 (by omega)
  by_cases h1 : xs.length = 1
  · obtain ⟨y, rfl⟩ := List.length_eq_one_iff.1 h1
    have c0 := HC.out 0 y rfl
    have HY : Hid (y = ⟨J.toArray⟩) := Lib.hid (by rw [HJ.out]; simp [Lib.join_one])
    go_enter Tryz.func56, Tryz.ntmps56
    go_wp2_with fail
    go_at_call 27
    refine (str_Join_one bk o cap y ⟨#[255]⟩ _ (by simpa using c0)).mono ?_
    rintro e w1 ⟨rfl, rfl⟩
    rw [HY.out]
    go_wp2
    go_ret
    exact ⟨rfl, Below.refl _ _⟩
  · go_enter Tryz.func56, Tryz.ntmps56
    go_wp2_with fail
    go_at_call 27
    refine (str_Join_many bk o cap xs ⟨#[255]⟩ _ HC.out hbk (by omega) (by omega) hcap (by rw [show ((⟨#[255]⟩ : ByteArray)).data.toList = [255] from rfl, ← HJ.out]; omega)).mono ?_
    rintro e w1 ⟨rfl, hb⟩
    have HB := Lib.hid hb
    clear hb
    rw [show (Lib.join (xs.map (·.data.toList)) ((⟨#[255]⟩ : ByteArray)).data.toList) = J from HJ.out.symm]
    go_wp2
    go_ret
    exact ⟨rfl, HB.out⟩
theorem strs_take (l : List Lab) {k : Nat} {x : Lab} (h : l[k]? = some x) : lFlat (l.take (k + 1)) = lFlat (l.take k) ++ [.string x.1, .string x.2] := by
  have : l.take (k + 1) = l.take k ++ [x] := by rw [List.take_add_one, h]; rfl
  rw [this, lFlat_append]
  rfl
theorem own_cells {w : World} {base k : Nat} {T : TypeId} {v : Value} {xs : List Value} (h : w.ownsRow base T 1 v k xs) (hk : 0 < k) : ∃ g cap, v = .slice (some ⟨g, 0, none⟩) k cap ∧ base ≤ g ∧ g < w.heap.size ∧ k ≤ cap ∧ ∀ j u, xs[j]? = some u → w.cell? ⟨g, j, none⟩ = some u := by
  rcases h.2 with ⟨rfl, h0⟩ | ⟨g, cap, cur, rfl, hb, hg, h1, h2, h3, h4⟩
  · omega
  · refine ⟨g, cap, rfl, hb, (Array.getElem?_eq_some_iff.1 hg).1, h1, fun j u hu => ?_⟩
    rw [← h4, List.getElem?_take] at hu
    split at hu
    · simp only [World.cell?, hg]
      simpa using hu
    · cases hu
theorem own_form {w : World} {base k : Nat} {T : TypeId} {size : Nat} {v : Value} {xs : List Value} (h : w.ownsRow base T size v k xs) : ∃ a cap, v = .slice a k cap := by
  rcases h.2 with ⟨rfl, h0⟩ | ⟨g, cap, cur, rfl, hb, hg, h1, h2, h3, h4⟩
  · exact ⟨none, 0, by rw [h0]⟩
  · exact ⟨_, cap, rfl⟩
set_option maxRecDepth 100000 in
theorem pieces_none (a : Option Addr) (c : Nat) (w : World) :
    Calls Tryz.prog 56 #[.string ⟨#[255]⟩, .slice a 0 c] w fun e w' => e = .returned (.string ⟨#[]⟩) ∧ w = w' := by
  go_enter Tryz.func56, Tryz.ntmps56
  go_wp2
  go_ret
  exact ⟨rfl, rfl⟩
set_option maxRecDepth 100000 in
set_option maxHeartbeats 2000000 in
theorem cbytes_yes (a : Option Addr) (cap : Nat) (l : List Lab) (w : World) (h : RdL w a l) (hr : labRight l = true) :
    Calls Tryz.prog 23 #[.slice a l.length cap] w fun e w' => e = .returned (.tuple #[.string ⟨(bytesS l).toArray⟩, .int .i64 0]) ∧ Below w.heap.size w w' := by
  obtain ⟨hl64, hbd⟩ := labRight_ok hr
  have hsz : ∀ x ∈ l, x.2.size ≤ 4611686018427387904 := fun x hx => by have := (hbd x hx).2; simp at this; omega
  have hbl := bytesS_bound hr
  have HS := Lib.hid h
  have HR := Lib.hid hr
  have HBD := Lib.hid hbl
  have HSZ := Lib.hid hsz
  clear h hr hbl hsz hbd
  go_enter Tryz.func23, Tryz.ntmps23
  go_wp2_with fail
  go_at_call 55
  refine (lright_calls a cap l _ HS.out (by omega) HSZ.out).mono ?_
  rintro e w1 ⟨rfl, hb1⟩
  rw [HR.out]
  have HB1 := Lib.hid hb1
  have hs1 := hb1.size
  clear hb1
  go_wp2
  go_loopw [4, 12] (fun v i wr => ∃ k : Nat, k ≤ l.length ∧ i = .int .i64 k ∧ wr.ownsRow w.heap.size 9 1 v (k * 2) (lFlat (l.take k)) ∧ Below w.heap.size w wr) (fun _ i _ => l.length - (intOf i).toNat)
  case atStart => exact ⟨0, Nat.zero_le _, rfl, World.ownsRow_nil _ _ _ _, HB1.out⟩
  case round =>
    obtain ⟨k, hk, rfl, hrow, hb⟩ := hrel
    have hbs := hb.size
    by_cases hlt : k < l.length
    · obtain ⟨b, off, rfl, ht, hc⟩ := HS.out (by intro e; subst e; simp at hlt)
      have hbl := ht
      obtain ⟨x, hx⟩ : ∃ x, l[k]? = some x := ⟨_, List.getElem?_eq_getElem hlt⟩
      have HT := Lib.hid (strs_take l hx)
      obtain ⟨c0, c1⟩ := hc k _ hx
      rw [← hb.cell (by exact hbl)] at c0 c1
      obtain ⟨n, v⟩ := x
      dsimp only at c0 c1
      have hbw : b < wr.heap.size := by omega
      have HO := Lib.hid hrow
      have HB := Lib.hid hb
      clear hc hx hrow hb
      go_wp2_with (at_builtin; refine wpList_app rfl _ _ 64 9 1 16 _ rfl Tryz.underlying64 Tryz.info9 rfl (by decide) (by decide) w.heap.size _ (k * 2) (lFlat (l.take k)) rfl ((HO.out.alloc _).alloc _) ⟨wr.heap.size + 1, 0, none⟩ 2 2 [.string n, .string v] rfl rfl (cells_new (wr.alloc (.cells #[.string n, .string v] 66)) #[.string n, .string v] _ _ (by simp)) (by intro u hu; simp at hu; rcases hu with rfl | rfl <;> rfl) (by omega) (by simp; omega) ?_; intro v' w2 hown' _ _ hbel)
      have HO2 : Hid (w2.ownsRow w.heap.size 9 1 v' ((k + 1) * 2) (lFlat (l.take (k + 1)))) := Lib.hid (by rw [HT.out, show (k + 1) * 2 = k * 2 + 2 by omega]; exact hown')
      have HB2 := Lib.hid (hbel _ ((HB.out.alloc hbs _).alloc (by simp; omega) _))
      clear hown' hbel
      go_roundw
      case rel => exact ⟨k + 1, by omega, by go_num, HO2.out, HB2.out⟩
      case measure => simp [intOf]; omega
    · obtain rfl : k = l.length := by omega
      rw [List.take_length] at hrow
      have HB := Lib.hid hb
      have HO := Lib.hid hrow
      clear hb hrow hlt
      by_cases h0 : l.length = 0
      · obtain ⟨a', c', rfl⟩ := own_form HO.out
        have hnil : l = [] := List.eq_nil_of_length_eq_zero h0
        subst hnil
        clear h0
        go_wp2_with (go_at_call 56; refine (pieces_none a' c' _).mono ?_; rintro e w' ⟨rfl, rfl⟩)
        go_ret2
        exact ⟨rfl, HB.out⟩
      · obtain ⟨g, c', rfl, hg1, hg2, hg3, hg4⟩ := own_cells HO.out (by omega)
        have hsl := strs_length l
        have hcl : ∀ (j : Nat) y, (strs l)[j]? = some y → wr.cell? ⟨g, 0 + j, none⟩ = some (.string y) := fun j y hy => by
          rw [Nat.zero_add]
          refine hg4 j _ ?_
          rw [lFlat_strs, List.getElem?_map, hy]
          rfl
        have HQ := Lib.hid (bytesS_strs l)
        have hlen2 : (((strs l).map (·.data.toList)).flatMap fun x => x ++ [255]).length ≤ 1100000 := by rw [← HQ.out]; have := HBD.out; omega
        rw [← hsl] at hg3 ⊢
        obtain ⟨y, r, hyr⟩ : ∃ y r, strs l = y :: r := by
          cases hh : strs l with
          | nil => rw [hh] at hsl; simp at hsl; omega
          | cons y r => exact ⟨y, r, rfl⟩
        rw [hyr] at hcl hlen2 hg3 HQ ⊢
        have HCL := Lib.hid hcl
        have HLN := Lib.hid hlen2
        clear hg4 hcl hlen2 hyr hsl h0
        go_wp2_with fail
        go_at_call 56
        refine (pieces_calls g 0 c' y r _ HCL.out hg2 hg3 HLN.out).mono ?_
        rintro e w2 ⟨rfl, hb2⟩
        rw [← HQ.out]
        have HB2 := Lib.hid hb2
        clear hb2
        go_wp2
        go_ret2
        exact ⟨rfl, Bthen HB.out HB2.out⟩
set_option maxRecDepth 100000 in
theorem cbytes_no (a : Option Addr) (cap : Nat) (l : List Lab) (w : World) (h : RdL w a l) (hr : labRight l = false) (hn : l.length ≤ 1000000000) (hsz : ∀ x ∈ l, x.2.size ≤ 4611686018427387904) :
    Calls Tryz.prog 23 #[.slice a l.length cap] w fun e w' => e = .returned (.tuple #[.string ⟨#[]⟩, .int .i64 44]) ∧ Below w.heap.size w w' := by
  have HR := Lib.hid hr
  clear hr
  go_enter Tryz.func23, Tryz.ntmps23
  go_wp2_with fail
  go_at_call 55
  refine (lright_calls a cap l _ h hn hsz).mono ?_
  rintro e w1 ⟨rfl, hb1⟩
  rw [HR.out]
  have HB1 := Lib.hid hb1
  clear hb1
  go_wp2
  go_ret2
  exact ⟨rfl, HB1.out⟩
end Go.Proofs.YtmagojckhfkcdaaGreatDoor.Sk
