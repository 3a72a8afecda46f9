/- Several parts in one text: KtC, KtD. -/
import Derived.Test.YtmagojckhfkcdaaGreatDoorKtB
import Derived.Test.YtmagojckhfkcdaaGreatDoorKsE
/- Chapter 38's texts: Text. -/
namespace Go.Proofs.YtmagojckhfkcdaaGreatDoor.Sk
open Go Go.RowKit
def iCells (key : ByteArray) (la : Option Addr) (lc : Nat) (e : Ent) : Array Value := #[.string key, .slice la e.lab.length lc, .bool e.mark, .int .u64 e.bits, .bool e.st, .int .i64 e.time, .int .i64 e.stamp]
def eCells (la : Option Addr) (lc : Nat) (e : Ent) : Array Value := #[.slice la e.lab.length lc, .bool e.mark, .int .u64 e.bits, .bool e.st, .int .i64 e.time, .int .i64 e.stamp]
theorem joinTail_len (sep : B) : ∀ r : List B, (Lib.joinTail sep r).length = (r.map List.length).sum + r.length * sep.length
  | [] => by simp [Lib.joinTail]
  | x :: r => by
    have := joinTail_len sep r
    unfold Lib.joinTail at this ⊢
    simp only [List.map_cons, List.flatten_cons, List.length_append, List.sum_cons, List.length_cons, this, Nat.add_mul]
    omega
theorem join_len (sep : B) (xs : List B) : (Lib.join xs sep).length ≤ (xs.map List.length).sum + xs.length * sep.length := by
  cases xs with
  | nil => simp [Lib.join_nil]
  | cons x r =>
    rw [Lib.join_cons, List.length_append, joinTail_len]
    simp only [List.map_cons, List.sum_cons, List.length_cons, Nat.add_mul]
    omega
theorem wsB_len (s : ByteArray) : (wsB s).data.toList.length ≤ 3 * s.size + 3 := by
  have := word_len (d s)
  simp [wsB]
  simpa [d] using this
theorem six_at {w1 w' : World} {cs : Array Value} {T : TypeId} (hb : Below (w1.heap.size + 1) (w1.alloc (.cells cs T)) w') {i : Nat} {u : Value} (hu : cs[i]? = some u) : w'.cell? ⟨w1.heap.size, i, none⟩ = some u := by
  rw [hb.cell (p := ⟨w1.heap.size, i, none⟩) (by simp)]
  exact new_cell _ _ _ _ _ hu
theorem own_strs (w : World) (base : Nat) (hb : base ≤ w.heap.size) (xs : List Value) (hx : xs.length ≤ maxLen) :
    (w.alloc (.cells xs.toArray 9)).ownsRow base 9 1 (.slice (some ⟨w.heap.size, 0, none⟩) xs.length xs.length) xs.length xs :=
  ⟨by simp, .inr ⟨w.heap.size, xs.length, xs.toArray, rfl, hb, World.alloc_heap_new _ _, Nat.le_refl _, hx, by simp, by simp⟩⟩
theorem own_below' {w w' : World} {base n size : Nat} {T : TypeId} {v : Value} {xs : List Value} (h : w.ownsRow base T size v n xs) (hb : Below w.heap.size w w') : w'.ownsRow base T size v n xs :=
  own_fr h (Fr.of_below hb) (fun k hk hx => by have := (own_isT h hk).lt; omega)
set_option maxRecDepth 100000 in
theorem text_no (key : ByteArray) (la : Option Addr) (lc : Nat) (e : Ent) (w : World) (hE : Ev w) (hk : key.size ≤ 1100000) (h : RdL w la e.lab) (hn : e.lab.length ≤ 1000000000) (hsz : ∀ x ∈ e.lab, x.2.size ≤ 4611686018427387904) (hr : itemRight (d key) e = false) :
    Calls Tryz.prog 9 #[.agg #[.string key, .slice la e.lab.length lc, .bool e.mark, .int .u64 e.bits, .bool e.st, .int .i64 e.time, .int .i64 e.stamp]] w
      fun en w' => en = .returned (.tuple #[.string ⟨#[]⟩, .int .i64 380]) ∧ Below w.heap.size w w' := by
  have hRD := h.below ((Below.refl _ _).alloc (Nat.le_refl _) (.cells #[.string key, .slice la e.lab.length lc, .bool e.mark, .int .u64 e.bits, .bool e.st, .int .i64 e.time, .int .i64 e.stamp] 40)) (Nat.le_refl _)
  have hcall := sright_calls key la lc e _ hk hRD hn hsz (hE.kv.below ((Below.refl _ _).alloc (Nat.le_refl _) _) (Nat.le_refl _))
  rw [hr] at hcall
  have HC := Lib.hid hcall
  clear hcall hRD hE h hsz hr
  go_enter Tryz.func9, Tryz.ntmps9
  go_wp2_with fail
  go_at_call 10
  refine HC.out.mono ?_
  rintro en w1 ⟨rfl, hb1⟩
  have HB : Hid (Below w.heap.size w w1) := Lib.hid (((Below.refl _ _).alloc (Nat.le_refl _) _).trans (hb1.mono (by simp)))
  clear hb1
  go_wp2
  go_ret2
  exact ⟨rfl, HB.out⟩
set_option maxRecDepth 100000 in
set_option maxHeartbeats 4000000 in
theorem text_mark (key : ByteArray) (la : Option Addr) (lc : Nat) (e : Ent) (w : World) (hE : Ev w) (hI : EntIn e) (hk : key.size ≤ 1100000) (h : RdL w la e.lab) (hr : itemRight (d key) e = true) (hm : e.mark = true) :
    Calls Tryz.prog 9 #[.agg #[.string key, .slice la e.lab.length lc, .bool e.mark, .int .u64 e.bits, .bool e.st, .int .i64 e.time, .int .i64 e.stamp]] w
      fun en w' => en = .returned (.tuple #[.string ⟨(textR (d key) e).toArray⟩, .int .i64 0]) ∧ Below w.heap.size w w' := by
  have hlr := right_lab hr
  have hok := labRight_ok hlr
  have hn : e.lab.length ≤ 1000000000 := by omega
  have hsz : ∀ x ∈ e.lab, x.2.size ≤ 4611686018427387904 := fun y hy => by have := (hok.2 y hy).2; simp at this; omega
  have hbd := bytesS_bound hlr
  have HBE := Lib.hid (errE_ok hlr)
  have HR := Lib.hid (And.intro hE (And.intro h (And.intro hI hsz)))
  have hRD := h.below ((Below.refl _ _).alloc (Nat.le_refl _) (.cells #[.string key, .slice la e.lab.length lc, .bool e.mark, .int .u64 e.bits, .bool e.st, .int .i64 e.time, .int .i64 e.stamp] 40)) (Nat.le_refl _)
  have hcall := sright_calls key la lc e _ hk hRD hn hsz (hE.kv.below ((Below.refl _ _).alloc (Nat.le_refl _) _) (Nat.le_refl _))
  rw [hr] at hcall
  have HC := Lib.hid hcall
  have HM := Lib.hid hm
  have HTX : Hid (textR (d key) e = Lib.join [[109, 97, 114, 107, 101, 114], Lib.itoa e.stamp, wordS (d key), wordS (bytesS e.lab)] [32]) := Lib.hid (by unfold textR headW; rw [if_pos hm]; rfl)
  clear hcall hRD hE h hsz hr hlr hok hI hm
  go_enter Tryz.func9, Tryz.ntmps9
  go_wp2_with fail
  go_at_call 10
  refine HC.out.mono ?_
  rintro en w1 ⟨rfl, hb1⟩
  have d0 : ∀ i u, (iCells key la lc e)[i]? = some u → w1.cell? ⟨w.heap.size, i, none⟩ = some u := fun i u hu => by
    rw [hb1.cell (p := ⟨w.heap.size, i, none⟩) (by simp)]
    exact new_cell _ _ _ _ _ hu
  have e0 : w1.cell? ⟨w.heap.size, 0, none⟩ = some (.string key) := d0 0 _ rfl
  have e1 : w1.cell? ⟨w.heap.size, 1, none⟩ = some (.slice la e.lab.length lc) := d0 1 _ rfl
  have e2 : w1.cell? ⟨w.heap.size, 2, none⟩ = some (.bool e.mark) := d0 2 _ rfl
  have e3 : w1.cell? ⟨w.heap.size, 3, none⟩ = some (.int .u64 e.bits) := d0 3 _ rfl
  have e4 : w1.cell? ⟨w.heap.size, 4, none⟩ = some (.bool e.st) := d0 4 _ rfl
  have e5 : w1.cell? ⟨w.heap.size, 5, none⟩ = some (.int .i64 e.time) := d0 5 _ rfl
  have e6 : w1.cell? ⟨w.heap.size, 6, none⟩ = some (.int .i64 e.stamp) := d0 6 _ rfl
  have hlt : w.heap.size < w1.heap.size := by have := hb1.size; simp at this; omega
  have HB1 : Hid (Below w.heap.size w w1) := Lib.hid (((Below.refl _ _).alloc (Nat.le_refl _) _).trans (hb1.mono (by simp)))
  have HE0 := Lib.hid e0
  clear d0 hb1
  go_wp2_with fail
  go_at_call 23
  have hb2 : Below w1.heap.size w1 (w1.alloc (.cells (eCells la lc e) 34)) := (Below.refl _ _).alloc (Nat.le_refl _) _
  refine (cbytes_calls la lc e.lab _ ((HR.out.2.1.below HB1.out (Nat.le_refl _)).below hb2 (Nat.le_refl _)) hn HR.out.2.2.2).mono ?_
  rintro en w2 ⟨rfl, hb3⟩
  obtain ⟨S, hS⟩ : ∃ S : ByteArray, S = ⟨(bytesS e.lab).toArray⟩ := ⟨_, rfl⟩
  have hdS : d S = bytesS e.lab := by rw [hS]
  have hSs : S.size ≤ 73856 := by rw [hS]; show (bytesS e.lab).toArray.size ≤ _; simpa using hbd
  rw [HBE.out.1, HBE.out.2, ← hS]
  have HS := Lib.hid hdS
  obtain ⟨O, hO⟩ : ∃ O, O = Obj.cells (eCells la lc e) 34 := ⟨_, rfl⟩
  have hb23 : Below (w1.heap.size + 1) (w1.alloc O) w2 := by rw [hO]; simpa using hb3
  have HCELL : Hid (∀ w' : World, Below (w1.heap.size + 1) (w1.alloc O) w' → ∀ (i : Nat) (u : Value), (eCells la lc e)[i]? = some u → w'.cell? ⟨w1.heap.size, i, none⟩ = some u) := Lib.hid (fun w' h i u hu => six_at (by rw [hO] at h; exact h) hu)
  have HKEY : Hid (∀ w' : World, Below (w1.heap.size + 1) (w1.alloc O) w' → w'.cell? ⟨w.heap.size, 0, none⟩ = some (.string key)) := Lib.hid (fun w' h => by
    rw [h.cell (p := ⟨w.heap.size, 0, none⟩) (by simp; omega), World.cell?_alloc_lt _ _ _ hlt]; exact HE0.out)
  have HX : Hid (∀ w' : World, Below (w1.heap.size + 1) (w1.alloc O) w' → Below w.heap.size w w') := Lib.hid (fun w' h => HB1.out.trans (((Below.refl _ _).alloc (Nat.le_refl _) O).trans (h.mono (by omega)) |>.mono (by have := HB1.out.size; omega)))
  have HE2 := Lib.hid (HR.out.1.below (HX.out _ hb23))
  have c5 : w2.cell? ⟨w1.heap.size, 5, none⟩ = some (.int .i64 e.stamp) := HCELL.out _ hb23 5 _ rfl
  have H23 := Lib.hid hb23
  clear hb3 hb2 hb23 e0 e1 e2 e3 e4 e5 e6 hS hdS hO
  have HLT := Lib.hid hlt
  clear hlt
  go_wp2_with fail
  go_at_call 24
  refine (itoa_calls e.stamp HR.out.2.2.1.s0 HR.out.2.2.1.s1 _ HE2.out).mono ?_
  rintro en w3 ⟨rfl, hb4⟩
  have H3 := Lib.hid (H23.out.trans (hb4.mono (by have := H23.out.size; simp at this; omega)))
  have HB4 := Lib.hid hb4
  have m1 : w3.cell? ⟨w1.heap.size, 1, none⟩ = some (.bool true) := by
    rw [← HM.out]
    exact HCELL.out _ H3.out 1 _ rfl
  have k0 := HKEY.out _ H3.out
  have l1 : w1.heap.size < w3.heap.size := by have := H3.out.size; simp at this; omega
  have l2 : w.heap.size < w3.heap.size := by have := HLT.out; omega
  obtain ⟨T, hT⟩ : ∃ T : ByteArray, T = ⟨(Lib.itoa e.stamp).toArray⟩ := ⟨_, rfl⟩
  rw [← hT]
  have HT := Lib.hid hT
  clear c5 hb4 hT
  go_wp2_with fail
  go_at_call 28
  refine (word_calls key _ (by omega)).mono ?_
  rintro en w4 ⟨rfl, hb5⟩
  have HB5 := Lib.hid hb5
  clear hb5
  go_wp2_with fail
  go_at_call 28
  refine (word_calls S _ (by omega)).mono ?_
  rintro en w5 ⟨rfl, hb6⟩
  have HB6 := Lib.hid hb6
  clear hb6
  have hown : w5.ownsRow w3.heap.size 9 1 (.slice (some ⟨w3.heap.size, 0, none⟩) 2 2) 2 [.string ⟨#[109, 97, 114, 107, 101, 114]⟩, .string T] := own_below' (own_below' (own_strs w3 w3.heap.size (Nat.le_refl _) [.string ⟨#[109, 97, 114, 107, 101, 114]⟩, .string T] (by simp [maxLen])) HB5.out) HB6.out
  have hb35 : Below w3.heap.size w3 w5 := (((Below.refl _ _).alloc (Nat.le_refl _) _).trans (HB5.out.mono (by simp))).trans (HB6.out.mono (by have := HB5.out.size; simp at this; omega))
  have HO := Lib.hid hown
  have H35 := Lib.hid hb35
  have hs5 := hb35.size
  clear hown hb35 m1 k0
  go_wp2_with (first | (at_builtin; refine wpList_app rfl _ _ 64 9 1 16 _ rfl Tryz.underlying64 Tryz.info9 rfl (by decide) (by decide) w3.heap.size _ 2 [.string ⟨#[109, 97, 114, 107, 101, 114]⟩, .string T] rfl (HO.out.alloc _) ⟨w5.heap.size, 0, none⟩ 2 2 [.string (wsB key), .string (wsB S)] rfl rfl (cells_new w5 #[.string (wsB key), .string (wsB S)] _ _ rfl) (by intro u hu; simp at hu; rcases hu with rfl | rfl <;> rfl) (by omega) (by simp; omega) ?_; intro v' w6 hown' _ _ hbel; obtain ⟨g, cap, rfl, hg1, hg2, hg3, hg4⟩ := own_cells hown' (by omega); have H36 := Lib.hid (hbel w3 (H35.out.alloc hs5 _)); have HG := Lib.hid hg4; clear hown' hbel hg4) | fail)
  have hjl : (Lib.join (([⟨#[109, 97, 114, 107, 101, 114]⟩, T, wsB key, wsB S] : List ByteArray).map (·.data.toList)) (⟨#[32]⟩ : ByteArray).data.toList).length ≤ 140737488355328 := by
    refine Nat.le_trans (join_len _ _) ?_
    have h1 : T.data.toList.length ≤ 21 := by rw [HT.out]; exact Lib.itoa_length_le _ HR.out.2.2.1.s0 HR.out.2.2.1.s1
    have h2 := wsB_len key
    have h3 := wsB_len S
    simp only [List.map_cons, List.map_nil, List.sum_cons, List.sum_nil, List.length_cons, List.length_nil] at h1 h2 h3 ⊢
    omega
  go_at_call 27
  refine (str_Join g 0 cap [⟨#[109, 97, 114, 107, 101, 114]⟩, T, wsB key, wsB S] ⟨#[32]⟩ _ (fun j x hx => by
    rw [Nat.zero_add]
    refine HG.out j _ ?_
    have : ([.string ⟨#[109, 97, 114, 107, 101, 114]⟩, .string T] ++ [.string (wsB key), .string (wsB S)] : List Value) = ([⟨#[109, 97, 114, 107, 101, 114]⟩, T, wsB key, wsB S] : List ByteArray).map Value.string := rfl
    rw [this, List.getElem?_map, hx]
    rfl) hg2 (by simp) hg3 hjl).mono ?_
  rintro en w7 ⟨rfl, hb7⟩
  have H37 := Lib.hid (H36.out.trans (hb7.mono (by have := H36.out.size; omega)))
  have HEQ : Hid (Lib.join (([⟨#[109, 97, 114, 107, 101, 114]⟩, T, wsB key, wsB S] : List ByteArray).map (·.data.toList)) (⟨#[32]⟩ : ByteArray).data.toList = textR (d key) e) := Lib.hid (by
    rw [HTX.out, ← HS.out, HT.out]
    rfl)
  rw [HEQ.out]
  clear hb7 hjl
  go_wp2
  go_ret2
  exact ⟨rfl, (HX.out _ H3.out).trans (H37.out.mono (by omega))⟩
end Go.Proofs.YtmagojckhfkcdaaGreatDoor.Sk
/- Chapter 38's texts: Text of samples. -/
namespace Go.Proofs.YtmagojckhfkcdaaGreatDoor.Sk
open Go Go.RowKit
theorem setCell_four {w : World} {p : Nat} {a b c d u : Value} {T : TypeId} (h : w.heap[p]? = some (.cells #[a, b, c, d] T (0, 0))) : (w.setCell ⟨p, 3, none⟩ u).heap[p]? = some (.cells #[a, b, c, u] T (0, 0)) := by
  unfold World.setCell
  simp only [Array.getElem?_modify, h]
  rfl
set_option maxRecDepth 100000 in
set_option maxHeartbeats 4000000 in
theorem text_samp_false (key : ByteArray) (la : Option Addr) (lc : Nat) (e : Ent) (w : World) (hE : Ev w) (hI : EntIn e) (hk : key.size ≤ 1100000) (h : RdL w la e.lab) (hr : itemRight (d key) e = true) (hm : e.mark = false) (hst : e.st = false) :
    Calls Tryz.prog 9 #[.agg #[.string key, .slice la e.lab.length lc, .bool e.mark, .int .u64 e.bits, .bool e.st, .int .i64 e.time, .int .i64 e.stamp]] w
      fun en w' => en = .returned (.tuple #[.string ⟨(textR (d key) e).toArray⟩, .int .i64 0]) ∧ Below w.heap.size w w' := by
  have hlr := right_lab hr
  have hok := labRight_ok hlr
  have hn : e.lab.length ≤ 1000000000 := by omega
  have hsz : ∀ x ∈ e.lab, x.2.size ≤ 4611686018427387904 := fun y hy => by have := (hok.2 y hy).2; simp at this; omega
  have hbd := bytesS_bound hlr
  have HBE := Lib.hid (errE_ok hlr)
  have HR := Lib.hid (And.intro hE (And.intro h (And.intro hI hsz)))
  have hRD := h.below ((Below.refl _ _).alloc (Nat.le_refl _) (.cells #[.string key, .slice la e.lab.length lc, .bool e.mark, .int .u64 e.bits, .bool e.st, .int .i64 e.time, .int .i64 e.stamp] 40)) (Nat.le_refl _)
  have hcall := sright_calls key la lc e _ hk hRD hn hsz (hE.kv.below ((Below.refl _ _).alloc (Nat.le_refl _) _) (Nat.le_refl _))
  rw [hr] at hcall
  have HC := Lib.hid hcall
  have HM := Lib.hid hm
  have HST := Lib.hid hst
  obtain ⟨nb, hnb⟩ := Int.eq_ofNat_of_zero_le hI.b0
  have HNB := Lib.hid hnb
  have hnb2 : nb < 18446744073709551616 := by have := hI.b1; omega
  have HTX : Hid (textR (d key) e = Lib.join [[115, 97, 109, 112, 108, 101], Lib.itoa e.stamp, bitsT e.bits, [45], wordS (d key), wordS (bytesS e.lab)] [32]) := Lib.hid (by unfold textR headW; rw [if_neg (by rw [hm]; decide), if_neg (by rw [hst]; decide)]; rfl)
  clear hcall hRD hE h hsz hr hlr hok hI hm hst hnb
  go_enter Tryz.func9, Tryz.ntmps9
  go_wp2_with fail
  go_at_call 10
  refine HC.out.mono ?_
  rintro en w1 ⟨rfl, hb1⟩
  have d0 : ∀ i u, (iCells key la lc e)[i]? = some u → w1.cell? ⟨w.heap.size, i, none⟩ = some u := fun i u hu => by
    rw [hb1.cell (p := ⟨w.heap.size, i, none⟩) (by simp)]
    exact new_cell _ _ _ _ _ hu
  have e0 : w1.cell? ⟨w.heap.size, 0, none⟩ = some (.string key) := d0 0 _ rfl
  have e1 : w1.cell? ⟨w.heap.size, 1, none⟩ = some (.slice la e.lab.length lc) := d0 1 _ rfl
  have e2 : w1.cell? ⟨w.heap.size, 2, none⟩ = some (.bool e.mark) := d0 2 _ rfl
  have e3 : w1.cell? ⟨w.heap.size, 3, none⟩ = some (.int .u64 e.bits) := d0 3 _ rfl
  have e4 : w1.cell? ⟨w.heap.size, 4, none⟩ = some (.bool e.st) := d0 4 _ rfl
  have e5 : w1.cell? ⟨w.heap.size, 5, none⟩ = some (.int .i64 e.time) := d0 5 _ rfl
  have e6 : w1.cell? ⟨w.heap.size, 6, none⟩ = some (.int .i64 e.stamp) := d0 6 _ rfl
  have hlt : w.heap.size < w1.heap.size := by have := hb1.size; simp at this; omega
  have HB1 : Hid (Below w.heap.size w w1) := Lib.hid (((Below.refl _ _).alloc (Nat.le_refl _) _).trans (hb1.mono (by simp)))
  have HE0 := Lib.hid e0
  clear d0 hb1
  go_wp2_with fail
  go_at_call 23
  have hb2 : Below w1.heap.size w1 (w1.alloc (.cells (eCells la lc e) 34)) := (Below.refl _ _).alloc (Nat.le_refl _) _
  refine (cbytes_calls la lc e.lab _ ((HR.out.2.1.below HB1.out (Nat.le_refl _)).below hb2 (Nat.le_refl _)) hn HR.out.2.2.2).mono ?_
  rintro en w2 ⟨rfl, hb3⟩
  obtain ⟨S, hS⟩ : ∃ S : ByteArray, S = ⟨(bytesS e.lab).toArray⟩ := ⟨_, rfl⟩
  have hdS : d S = bytesS e.lab := by rw [hS]
  have hSs : S.size ≤ 73856 := by rw [hS]; show (bytesS e.lab).toArray.size ≤ _; simpa using hbd
  rw [HBE.out.1, HBE.out.2, ← hS]
  have HS := Lib.hid hdS
  obtain ⟨O, hO⟩ : ∃ O, O = Obj.cells (eCells la lc e) 34 := ⟨_, rfl⟩
  have hb23 : Below (w1.heap.size + 1) (w1.alloc O) w2 := by rw [hO]; simpa using hb3
  have HCELL : Hid (∀ w' : World, Below (w1.heap.size + 1) (w1.alloc O) w' → ∀ (i : Nat) (u : Value), (eCells la lc e)[i]? = some u → w'.cell? ⟨w1.heap.size, i, none⟩ = some u) := Lib.hid (fun w' h i u hu => six_at (by rw [hO] at h; exact h) hu)
  have HKEY : Hid (∀ w' : World, Below (w1.heap.size + 1) (w1.alloc O) w' → w'.cell? ⟨w.heap.size, 0, none⟩ = some (.string key)) := Lib.hid (fun w' h => by
    rw [h.cell (p := ⟨w.heap.size, 0, none⟩) (by simp; omega), World.cell?_alloc_lt _ _ _ hlt]; exact HE0.out)
  have HX : Hid (∀ w' : World, Below (w1.heap.size + 1) (w1.alloc O) w' → Below w.heap.size w w') := Lib.hid (fun w' h => HB1.out.trans (((Below.refl _ _).alloc (Nat.le_refl _) O).trans (h.mono (by omega)) |>.mono (by have := HB1.out.size; omega)))
  have HE2 := Lib.hid (HR.out.1.below (HX.out _ hb23))
  have c5 : w2.cell? ⟨w1.heap.size, 5, none⟩ = some (.int .i64 e.stamp) := HCELL.out _ hb23 5 _ rfl
  have H23 := Lib.hid hb23
  clear hb3 hb2 hb23 e0 e1 e2 e3 e4 e5 e6 hS hdS hO
  have HLT := Lib.hid hlt
  clear hlt
  go_wp2_with fail
  go_at_call 24
  refine (itoa_calls e.stamp HR.out.2.2.1.s0 HR.out.2.2.1.s1 _ HE2.out).mono ?_
  rintro en w3 ⟨rfl, hb4⟩
  have H3 := Lib.hid (H23.out.trans (hb4.mono (by have := H23.out.size; simp at this; omega)))
  have HB4 := Lib.hid hb4
  have m1 : w3.cell? ⟨w1.heap.size, 1, none⟩ = some (.bool false) := by
    rw [← HM.out]
    exact HCELL.out _ H3.out 1 _ rfl
  have k0 := HKEY.out _ H3.out
  have l1 : w1.heap.size < w3.heap.size := by have := H3.out.size; simp at this; omega
  have l2 : w.heap.size < w3.heap.size := by have := HLT.out; omega
  obtain ⟨T, hT⟩ : ∃ T : ByteArray, T = ⟨(Lib.itoa e.stamp).toArray⟩ := ⟨_, rfl⟩
  rw [← hT]
  have HT := Lib.hid hT
  have n2 : w3.cell? ⟨w1.heap.size, 2, none⟩ = some (.int .u64 (nb : Int)) := by
    rw [show ((nb : Nat) : Int) = e.bits from HNB.out.symm]
    exact HCELL.out _ H3.out 2 _ rfl
  clear c5 hb4 hT k0
  go_wp2_with fail
  go_at_call 25
  refine (fu_calls nb hnb2 _ ((HE2.out.below HB4.out).lb.alloc _)).mono ?_
  rintro en w4 ⟨rfl, hb5⟩
  have hb35 : Below w3.heap.size w3 w4 := ((Below.refl _ _).alloc (Nat.le_refl _) _).trans (hb5.mono (by simp))
  have H4 := Lib.hid (H3.out.trans (hb35.mono (by have := H3.out.size; simp at this; omega)))
  have HB34 := Lib.hid hb35
  have p5 : w4.cell? ⟨w1.heap.size, 5, none⟩ = some (.int .i64 e.stamp) := HCELL.out _ H4.out 5 _ rfl
  have l4 : w1.heap.size < w4.heap.size := by have := hb35.size; omega
  have hHl := hx_len16 (b := (nb : Int)) (by omega)
  obtain ⟨H, hH⟩ : ∃ H : ByteArray, H = ⟨(Rs.hx nb).toArray⟩ := ⟨_, rfl⟩
  rw [← hH]
  have hHs : H.size ≤ 16 := by rw [hH]; show (Rs.hx nb).toArray.size ≤ _; simpa using hHl
  have HH := Lib.hid hH
  obtain ⟨c, hc⟩ : ∃ c : Nat, c = 16 - H.size := ⟨_, rfl⟩
  have hw1 : IntKind.i64.wrap (16 - (H.size : Int)) = (c : Int) := by rw [IntKind.wrap_i64]; omega
  have HC2 := Lib.hid hc
  have hc16 : c ≤ 16 := by omega
  clear hb5 hb35 m1 n2 hH hc hHl
  go_wp2_with fail
  go_at_call 24
  refine (itoa_calls e.stamp HR.out.2.2.1.s0 HR.out.2.2.1.s1 _ (HE2.out.below HB4.out |>.below HB34.out)).mono ?_
  rintro en w5 ⟨rfl, hb6⟩
  have HB35 := Lib.hid (HB34.out.trans (hb6.mono (by have := HB34.out.size; omega)))
  rw [← HT.out]
  clear hb6 p5
  go_wp2_with fail
  go_at_call 26
  refine (Tryz.strings_Repeat ⟨#[48]⟩ c _ (by omega) (by have : (⟨#[48]⟩ : ByteArray).size = 1 := rfl; rw [this]; omega)).mono ?_
  rintro en w6 ⟨rfl, hb7⟩
  have HB36 := Lib.hid (HB35.out.trans (hb7.mono (by have := HB35.out.size; omega)))
  have H6 := Lib.hid (H3.out.trans (HB36.out.mono (by have := H3.out.size; simp at this; omega)))
  obtain ⟨R, hR⟩ : ∃ R : ByteArray, R = ⟨(Lib.repeatL (⟨#[48]⟩ : ByteArray).data.toList c).toArray⟩ := ⟨_, rfl⟩
  rw [← hR]
  have hRs : R.size = c := by rw [hR]; show (Lib.repeatL [48] c).toArray.size = _; rw [List.size_toArray, Lib.repeatL_length]; simp
  have hcat : ¬ 9223372036854775807 < R.size + H.size := by omega
  have hcat2 : R.size + H.size ≤ 9223372036854775807 := by omega
  have HZ : Hid ((R ++ H).data.toList = bitsT e.bits) := Lib.hid (by
    rw [HNB.out]
    unfold bitsT
    have h2 : ((nb : Int)).toNat = nb := by omega
    rw [h2, show (16 - (Rs.hx nb).length) = c by rw [HC2.out, HH.out]; simp [ByteArray.size], HH.out, hR]
    simp)
  have c3 : w6.cell? ⟨w1.heap.size, 3, none⟩ = some (.bool false) := by
    rw [← HST.out]
    exact HCELL.out _ H6.out 3 _ rfl
  have c4 : w6.cell? ⟨w1.heap.size, 4, none⟩ = some (.int .i64 e.time) := HCELL.out _ H6.out 4 _ rfl
  have k0 := HKEY.out _ H6.out
  have l6 : w1.heap.size < w6.heap.size := by have := H6.out.size; simp at this; omega
  have l7 : w.heap.size < w6.heap.size := by have := HLT.out; omega
  clear hb7 hR
  go_wp2_with fail
  go_at_call 28
  refine (word_calls key _ (by omega)).mono ?_
  rintro en w7 ⟨rfl, hb8⟩
  have HB7 := Lib.hid hb8
  clear hb8
  go_wp2_with fail
  go_at_call 28
  refine (word_calls S _ (by omega)).mono ?_
  rintro en w8 ⟨rfl, hb9⟩
  have HB8 := Lib.hid hb9
  clear hb9
  have hown : w8.ownsRow w6.heap.size 9 1 (.slice (some ⟨w6.heap.size, 0, none⟩) 4 4) 4 [.string ⟨#[115, 97, 109, 112, 108, 101]⟩, .string T, .string (R ++ H), .string ⟨#[45]⟩] := own_below' (own_below' (own_strs w6 w6.heap.size (Nat.le_refl _) [.string ⟨#[115, 97, 109, 112, 108, 101]⟩, .string T, .string (R ++ H), .string ⟨#[45]⟩] (by simp [maxLen])) HB7.out) HB8.out
  have hb68 : Below w6.heap.size w6 w8 := (((Below.refl _ _).alloc (Nat.le_refl _) _).trans (HB7.out.mono (by simp))).trans (HB8.out.mono (by have := HB7.out.size; simp at this; omega))
  have HO := Lib.hid hown
  have H68 := Lib.hid hb68
  have hs8 := hb68.size
  clear hown hb68
  go_wp2_with (first | (at_builtin; refine wpList_app rfl _ _ 64 9 1 16 _ rfl Tryz.underlying64 Tryz.info9 rfl (by decide) (by decide) w6.heap.size _ 4 [.string ⟨#[115, 97, 109, 112, 108, 101]⟩, .string T, .string (R ++ H), .string ⟨#[45]⟩] rfl (HO.out.alloc _) ⟨w8.heap.size, 0, none⟩ 2 2 [.string (wsB key), .string (wsB S)] rfl rfl (cells_new w8 #[.string (wsB key), .string (wsB S)] _ _ rfl) (by intro u hu; simp at hu; rcases hu with rfl | rfl <;> rfl) (by omega) (by simp; omega) ?_; intro v' w9 hown' _ _ hbel; obtain ⟨g, cap, rfl, hg1, hg2, hg3, hg4⟩ := own_cells hown' (by omega); have H69 := Lib.hid (hbel w6 (H68.out.alloc hs8 _)); have HG := Lib.hid hg4; clear hown' hbel hg4) | fail)
  have hzl : (R ++ H).data.toList.length ≤ 32 := by rw [HZ.out]; exact bitsT_len HR.out.2.2.1.b1
  have hjl : (Lib.join (([⟨#[115, 97, 109, 112, 108, 101]⟩, T, R ++ H, ⟨#[45]⟩, wsB key, wsB S] : List ByteArray).map (·.data.toList)) (⟨#[32]⟩ : ByteArray).data.toList).length ≤ 140737488355328 := by
    refine Nat.le_trans (join_len _ _) ?_
    have h1 : T.data.toList.length ≤ 21 := by rw [HT.out]; exact Lib.itoa_length_le _ HR.out.2.2.1.s0 HR.out.2.2.1.s1
    have h2 := wsB_len key
    have h3 := wsB_len S
    simp only [List.map_cons, List.map_nil, List.sum_cons, List.sum_nil, List.length_cons, List.length_nil] at h1 h2 h3 hzl ⊢
    omega
  go_at_call 27
  refine (str_Join g 0 cap [⟨#[115, 97, 109, 112, 108, 101]⟩, T, R ++ H, ⟨#[45]⟩, wsB key, wsB S] ⟨#[32]⟩ _ (fun j x hx => by
    rw [Nat.zero_add]
    refine HG.out j _ ?_
    have : ([.string ⟨#[115, 97, 109, 112, 108, 101]⟩, .string T, .string (R ++ H), .string ⟨#[45]⟩] ++ [.string (wsB key), .string (wsB S)] : List Value) = ([⟨#[115, 97, 109, 112, 108, 101]⟩, T, R ++ H, ⟨#[45]⟩, wsB key, wsB S] : List ByteArray).map Value.string := rfl
    rw [this, List.getElem?_map, hx]
    rfl) hg2 (by simp) hg3 hjl).mono ?_
  rintro en w10 ⟨rfl, hb10⟩
  have H610 := Lib.hid (H69.out.trans (hb10.mono (by have := H69.out.size; omega)))
  have HEQ : Hid (Lib.join (([⟨#[115, 97, 109, 112, 108, 101]⟩, T, R ++ H, ⟨#[45]⟩, wsB key, wsB S] : List ByteArray).map (·.data.toList)) (⟨#[32]⟩ : ByteArray).data.toList = textR (d key) e) := Lib.hid (by
    simp only [List.map_cons, List.map_nil, HZ.out]
    rw [HTX.out, ← HS.out, HT.out]
    rfl)
  rw [HEQ.out]
  clear hb10 hjl
  go_wp2
  go_ret2
  exact ⟨rfl, (HX.out _ H6.out).trans (H610.out.mono (by omega))⟩
set_option maxRecDepth 100000 in
set_option maxHeartbeats 4000000 in
theorem text_samp_true (key : ByteArray) (la : Option Addr) (lc : Nat) (e : Ent) (w : World) (hE : Ev w) (hI : EntIn e) (hk : key.size ≤ 1100000) (h : RdL w la e.lab) (hr : itemRight (d key) e = true) (hm : e.mark = false) (hst : e.st = true) :
    Calls Tryz.prog 9 #[.agg #[.string key, .slice la e.lab.length lc, .bool e.mark, .int .u64 e.bits, .bool e.st, .int .i64 e.time, .int .i64 e.stamp]] w
      fun en w' => en = .returned (.tuple #[.string ⟨(textR (d key) e).toArray⟩, .int .i64 0]) ∧ Below w.heap.size w w' := by
  have hlr := right_lab hr
  have hok := labRight_ok hlr
  have hn : e.lab.length ≤ 1000000000 := by omega
  have hsz : ∀ x ∈ e.lab, x.2.size ≤ 4611686018427387904 := fun y hy => by have := (hok.2 y hy).2; simp at this; omega
  have hbd := bytesS_bound hlr
  have HBE := Lib.hid (errE_ok hlr)
  have HR := Lib.hid (And.intro hE (And.intro h (And.intro hI hsz)))
  have hRD := h.below ((Below.refl _ _).alloc (Nat.le_refl _) (.cells #[.string key, .slice la e.lab.length lc, .bool e.mark, .int .u64 e.bits, .bool e.st, .int .i64 e.time, .int .i64 e.stamp] 40)) (Nat.le_refl _)
  have hcall := sright_calls key la lc e _ hk hRD hn hsz (hE.kv.below ((Below.refl _ _).alloc (Nat.le_refl _) _) (Nat.le_refl _))
  rw [hr] at hcall
  have HC := Lib.hid hcall
  have HM := Lib.hid hm
  have HST := Lib.hid hst
  obtain ⟨nb, hnb⟩ := Int.eq_ofNat_of_zero_le hI.b0
  have HNB := Lib.hid hnb
  have hnb2 : nb < 18446744073709551616 := by have := hI.b1; omega
  have HTX : Hid (textR (d key) e = Lib.join [[115, 97, 109, 112, 108, 101], Lib.itoa e.stamp, bitsT e.bits, Lib.itoa e.time, wordS (d key), wordS (bytesS e.lab)] [32]) := Lib.hid (by unfold textR headW; rw [if_neg (by rw [hm]; decide), if_pos hst]; rfl)
  clear hcall hRD hE h hsz hr hlr hok hI hm hst hnb
  go_enter Tryz.func9, Tryz.ntmps9
  go_wp2_with fail
  go_at_call 10
  refine HC.out.mono ?_
  rintro en w1 ⟨rfl, hb1⟩
  have d0 : ∀ i u, (iCells key la lc e)[i]? = some u → w1.cell? ⟨w.heap.size, i, none⟩ = some u := fun i u hu => by
    rw [hb1.cell (p := ⟨w.heap.size, i, none⟩) (by simp)]
    exact new_cell _ _ _ _ _ hu
  have e0 : w1.cell? ⟨w.heap.size, 0, none⟩ = some (.string key) := d0 0 _ rfl
  have e1 : w1.cell? ⟨w.heap.size, 1, none⟩ = some (.slice la e.lab.length lc) := d0 1 _ rfl
  have e2 : w1.cell? ⟨w.heap.size, 2, none⟩ = some (.bool e.mark) := d0 2 _ rfl
  have e3 : w1.cell? ⟨w.heap.size, 3, none⟩ = some (.int .u64 e.bits) := d0 3 _ rfl
  have e4 : w1.cell? ⟨w.heap.size, 4, none⟩ = some (.bool e.st) := d0 4 _ rfl
  have e5 : w1.cell? ⟨w.heap.size, 5, none⟩ = some (.int .i64 e.time) := d0 5 _ rfl
  have e6 : w1.cell? ⟨w.heap.size, 6, none⟩ = some (.int .i64 e.stamp) := d0 6 _ rfl
  have hlt : w.heap.size < w1.heap.size := by have := hb1.size; simp at this; omega
  have HB1 : Hid (Below w.heap.size w w1) := Lib.hid (((Below.refl _ _).alloc (Nat.le_refl _) _).trans (hb1.mono (by simp)))
  have HE0 := Lib.hid e0
  clear d0 hb1
  go_wp2_with fail
  go_at_call 23
  have hb2 : Below w1.heap.size w1 (w1.alloc (.cells (eCells la lc e) 34)) := (Below.refl _ _).alloc (Nat.le_refl _) _
  refine (cbytes_calls la lc e.lab _ ((HR.out.2.1.below HB1.out (Nat.le_refl _)).below hb2 (Nat.le_refl _)) hn HR.out.2.2.2).mono ?_
  rintro en w2 ⟨rfl, hb3⟩
  obtain ⟨S, hS⟩ : ∃ S : ByteArray, S = ⟨(bytesS e.lab).toArray⟩ := ⟨_, rfl⟩
  have hdS : d S = bytesS e.lab := by rw [hS]
  have hSs : S.size ≤ 73856 := by rw [hS]; show (bytesS e.lab).toArray.size ≤ _; simpa using hbd
  rw [HBE.out.1, HBE.out.2, ← hS]
  have HS := Lib.hid hdS
  obtain ⟨O, hO⟩ : ∃ O, O = Obj.cells (eCells la lc e) 34 := ⟨_, rfl⟩
  have hb23 : Below (w1.heap.size + 1) (w1.alloc O) w2 := by rw [hO]; simpa using hb3
  have HCELL : Hid (∀ w' : World, Below (w1.heap.size + 1) (w1.alloc O) w' → ∀ (i : Nat) (u : Value), (eCells la lc e)[i]? = some u → w'.cell? ⟨w1.heap.size, i, none⟩ = some u) := Lib.hid (fun w' h i u hu => six_at (by rw [hO] at h; exact h) hu)
  have HKEY : Hid (∀ w' : World, Below (w1.heap.size + 1) (w1.alloc O) w' → w'.cell? ⟨w.heap.size, 0, none⟩ = some (.string key)) := Lib.hid (fun w' h => by
    rw [h.cell (p := ⟨w.heap.size, 0, none⟩) (by simp; omega), World.cell?_alloc_lt _ _ _ hlt]; exact HE0.out)
  have HX : Hid (∀ w' : World, Below (w1.heap.size + 1) (w1.alloc O) w' → Below w.heap.size w w') := Lib.hid (fun w' h => HB1.out.trans (((Below.refl _ _).alloc (Nat.le_refl _) O).trans (h.mono (by omega)) |>.mono (by have := HB1.out.size; omega)))
  have HE2 := Lib.hid (HR.out.1.below (HX.out _ hb23))
  have c5 : w2.cell? ⟨w1.heap.size, 5, none⟩ = some (.int .i64 e.stamp) := HCELL.out _ hb23 5 _ rfl
  have H23 := Lib.hid hb23
  clear hb3 hb2 hb23 e0 e1 e2 e3 e4 e5 e6 hS hdS hO
  have HLT := Lib.hid hlt
  clear hlt
  go_wp2_with fail
  go_at_call 24
  refine (itoa_calls e.stamp HR.out.2.2.1.s0 HR.out.2.2.1.s1 _ HE2.out).mono ?_
  rintro en w3 ⟨rfl, hb4⟩
  have H3 := Lib.hid (H23.out.trans (hb4.mono (by have := H23.out.size; simp at this; omega)))
  have HB4 := Lib.hid hb4
  have m1 : w3.cell? ⟨w1.heap.size, 1, none⟩ = some (.bool false) := by
    rw [← HM.out]
    exact HCELL.out _ H3.out 1 _ rfl
  have k0 := HKEY.out _ H3.out
  have l1 : w1.heap.size < w3.heap.size := by have := H3.out.size; simp at this; omega
  have l2 : w.heap.size < w3.heap.size := by have := HLT.out; omega
  obtain ⟨T, hT⟩ : ∃ T : ByteArray, T = ⟨(Lib.itoa e.stamp).toArray⟩ := ⟨_, rfl⟩
  rw [← hT]
  have HT := Lib.hid hT
  have n2 : w3.cell? ⟨w1.heap.size, 2, none⟩ = some (.int .u64 (nb : Int)) := by
    rw [show ((nb : Nat) : Int) = e.bits from HNB.out.symm]
    exact HCELL.out _ H3.out 2 _ rfl
  clear c5 hb4 hT k0
  go_wp2_with fail
  go_at_call 25
  refine (fu_calls nb hnb2 _ ((HE2.out.below HB4.out).lb.alloc _)).mono ?_
  rintro en w4 ⟨rfl, hb5⟩
  have hb35 : Below w3.heap.size w3 w4 := ((Below.refl _ _).alloc (Nat.le_refl _) _).trans (hb5.mono (by simp))
  have H4 := Lib.hid (H3.out.trans (hb35.mono (by have := H3.out.size; simp at this; omega)))
  have HB34 := Lib.hid hb35
  have p5 : w4.cell? ⟨w1.heap.size, 5, none⟩ = some (.int .i64 e.stamp) := HCELL.out _ H4.out 5 _ rfl
  have l4 : w1.heap.size < w4.heap.size := by have := hb35.size; omega
  have hHl := hx_len16 (b := (nb : Int)) (by omega)
  obtain ⟨H, hH⟩ : ∃ H : ByteArray, H = ⟨(Rs.hx nb).toArray⟩ := ⟨_, rfl⟩
  rw [← hH]
  have hHs : H.size ≤ 16 := by rw [hH]; show (Rs.hx nb).toArray.size ≤ _; simpa using hHl
  have HH := Lib.hid hH
  obtain ⟨c, hc⟩ : ∃ c : Nat, c = 16 - H.size := ⟨_, rfl⟩
  have hw1 : IntKind.i64.wrap (16 - (H.size : Int)) = (c : Int) := by rw [IntKind.wrap_i64]; omega
  have HC2 := Lib.hid hc
  have hc16 : c ≤ 16 := by omega
  clear hb5 hb35 m1 n2 hH hc hHl
  go_wp2_with fail
  go_at_call 24
  refine (itoa_calls e.stamp HR.out.2.2.1.s0 HR.out.2.2.1.s1 _ (HE2.out.below HB4.out |>.below HB34.out)).mono ?_
  rintro en w5 ⟨rfl, hb6⟩
  have HB35 := Lib.hid (HB34.out.trans (hb6.mono (by have := HB34.out.size; omega)))
  rw [← HT.out]
  clear hb6 p5
  go_wp2_with fail
  go_at_call 26
  refine (Tryz.strings_Repeat ⟨#[48]⟩ c _ (by omega) (by have : (⟨#[48]⟩ : ByteArray).size = 1 := rfl; rw [this]; omega)).mono ?_
  rintro en w6 ⟨rfl, hb7⟩
  have HB36 := Lib.hid (HB35.out.trans (hb7.mono (by have := HB35.out.size; omega)))
  have H6 := Lib.hid (H3.out.trans (HB36.out.mono (by have := H3.out.size; simp at this; omega)))
  obtain ⟨R, hR⟩ : ∃ R : ByteArray, R = ⟨(Lib.repeatL (⟨#[48]⟩ : ByteArray).data.toList c).toArray⟩ := ⟨_, rfl⟩
  rw [← hR]
  have hRs : R.size = c := by rw [hR]; show (Lib.repeatL [48] c).toArray.size = _; rw [List.size_toArray, Lib.repeatL_length]; simp
  have hcat : ¬ 9223372036854775807 < R.size + H.size := by omega
  have hcat2 : R.size + H.size ≤ 9223372036854775807 := by omega
  have HZ : Hid ((R ++ H).data.toList = bitsT e.bits) := Lib.hid (by
    rw [HNB.out]
    unfold bitsT
    have h2 : ((nb : Int)).toNat = nb := by omega
    rw [h2, show (16 - (Rs.hx nb).length) = c by rw [HC2.out, HH.out]; simp [ByteArray.size], HH.out, hR]
    simp)
  have c3 : w6.cell? ⟨w1.heap.size, 3, none⟩ = some (.bool true) := by
    rw [← HST.out]
    exact HCELL.out _ H6.out 3 _ rfl
  have c4 : w6.cell? ⟨w1.heap.size, 4, none⟩ = some (.int .i64 e.time) := HCELL.out _ H6.out 4 _ rfl
  have k0 := HKEY.out _ H6.out
  have l6 : w1.heap.size < w6.heap.size := by have := H6.out.size; simp at this; omega
  have l7 : w.heap.size < w6.heap.size := by have := HLT.out; omega
  clear hb7 hR
  go_wp2_with fail
  go_at_call 24
  refine (itoa_calls e.time HR.out.2.2.1.t0 HR.out.2.2.1.t1 _ (HE2.out.below HB4.out |>.below HB36.out |>.below ((Below.refl _ _).alloc (Nat.le_refl _) _))).mono ?_
  rintro en wz ⟨rfl, hbz⟩
  have hwz : wz.heap[w6.heap.size]? = some (.cells #[.string ⟨#[115, 97, 109, 112, 108, 101]⟩, .string T, .string (R ++ H), .string ⟨#[45]⟩] 9 (0, 0)) := (hbz.block _ (by simp)).trans (heap_alloc_new w6 _)
  have q0 : wz.cell? ⟨w6.heap.size, 3, none⟩ = some (.string ⟨#[45]⟩) := by simp [World.cell?, hwz]
  have q1 : wz.frozen? ⟨w6.heap.size, 3, none⟩ = false := by simp [World.frozen?, hwz]
  obtain ⟨T2, hT2⟩ : ∃ T2 : ByteArray, T2 = ⟨(Lib.itoa e.time).toArray⟩ := ⟨_, rfl⟩
  rw [← hT2]
  have HT2 := Lib.hid hT2
  have hb67 : Below w6.heap.size w6 (wz.setCell ⟨w6.heap.size, 3, none⟩ (.string T2)) := (((Below.refl _ _).alloc (Nat.le_refl _) _).trans (hbz.mono (by simp))).setCell (Nat.le_refl _) _
  have H7z := Lib.hid (H6.out.trans (hb67.mono (by have := H6.out.size; simp at this; omega)))
  have k7 := HKEY.out _ H7z.out
  have hownz : (wz.setCell ⟨w6.heap.size, 3, none⟩ (.string T2)).ownsRow w6.heap.size 9 1 (.slice (some ⟨w6.heap.size, 0, none⟩) 4 4) 4 [.string ⟨#[115, 97, 109, 112, 108, 101]⟩, .string T, .string (R ++ H), .string T2] := ⟨rfl, .inr ⟨w6.heap.size, 4, _, rfl, Nat.le_refl _, setCell_four hwz, Nat.le_refl _, by simp [maxLen], rfl, rfl⟩⟩
  have HOZ := Lib.hid hownz
  have HBZ := Lib.hid hb67
  have hsz7 : w6.heap.size ≤ wz.heap.size := by have := hb67.size; simpa using this
  clear hT2 hbz hwz c3 c4 k0
  go_wp2_with fail
  go_at_call 28
  refine (word_calls key _ (by omega)).mono ?_
  rintro en w7 ⟨rfl, hb8⟩
  have HB7 := Lib.hid hb8
  clear hb8
  go_wp2_with fail
  go_at_call 28
  refine (word_calls S _ (by omega)).mono ?_
  rintro en w8 ⟨rfl, hb9⟩
  have HB8 := Lib.hid hb9
  clear hb9
  have hown : w8.ownsRow w6.heap.size 9 1 (.slice (some ⟨w6.heap.size, 0, none⟩) 4 4) 4 [.string ⟨#[115, 97, 109, 112, 108, 101]⟩, .string T, .string (R ++ H), .string T2] := own_below' (own_below' HOZ.out HB7.out) HB8.out
  have hb68 : Below w6.heap.size w6 w8 := (HBZ.out.trans (HB7.out.mono (by have := HBZ.out.size; exact this))).trans (HB8.out.mono (by have := HB7.out.size; have := HBZ.out.size; omega))
  have HO := Lib.hid hown
  have H68 := Lib.hid hb68
  have hs8 := hb68.size
  clear hown hb68
  go_wp2_with (first | (at_builtin; refine wpList_app rfl _ _ 64 9 1 16 _ rfl Tryz.underlying64 Tryz.info9 rfl (by decide) (by decide) w6.heap.size _ 4 [.string ⟨#[115, 97, 109, 112, 108, 101]⟩, .string T, .string (R ++ H), .string T2] rfl (HO.out.alloc _) ⟨w8.heap.size, 0, none⟩ 2 2 [.string (wsB key), .string (wsB S)] rfl rfl (cells_new w8 #[.string (wsB key), .string (wsB S)] _ _ rfl) (by intro u hu; simp at hu; rcases hu with rfl | rfl <;> rfl) (by omega) (by simp; omega) ?_; intro v' w9 hown' _ _ hbel; obtain ⟨g, cap, rfl, hg1, hg2, hg3, hg4⟩ := own_cells hown' (by omega); have H69 := Lib.hid (hbel w6 (H68.out.alloc hs8 _)); have HG := Lib.hid hg4; clear hown' hbel hg4) | fail)
  have hzl : (R ++ H).data.toList.length ≤ 32 := by rw [HZ.out]; exact bitsT_len HR.out.2.2.1.b1
  have hjl : (Lib.join (([⟨#[115, 97, 109, 112, 108, 101]⟩, T, R ++ H, T2, wsB key, wsB S] : List ByteArray).map (·.data.toList)) (⟨#[32]⟩ : ByteArray).data.toList).length ≤ 140737488355328 := by
    refine Nat.le_trans (join_len _ _) ?_
    have h1 : T.data.toList.length ≤ 21 := by rw [HT.out]; exact Lib.itoa_length_le _ HR.out.2.2.1.s0 HR.out.2.2.1.s1
    have h2 := wsB_len key
    have h3 := wsB_len S
    have h4 : T2.data.toList.length ≤ 21 := by rw [HT2.out]; exact Lib.itoa_length_le _ HR.out.2.2.1.t0 HR.out.2.2.1.t1
    simp only [List.map_cons, List.map_nil, List.sum_cons, List.sum_nil, List.length_cons, List.length_nil] at h1 h2 h3 h4 hzl ⊢
    omega
  go_at_call 27
  refine (str_Join g 0 cap [⟨#[115, 97, 109, 112, 108, 101]⟩, T, R ++ H, T2, wsB key, wsB S] ⟨#[32]⟩ _ (fun j x hx => by
    rw [Nat.zero_add]
    refine HG.out j _ ?_
    have : ([.string ⟨#[115, 97, 109, 112, 108, 101]⟩, .string T, .string (R ++ H), .string T2] ++ [.string (wsB key), .string (wsB S)] : List Value) = ([⟨#[115, 97, 109, 112, 108, 101]⟩, T, R ++ H, T2, wsB key, wsB S] : List ByteArray).map Value.string := rfl
    rw [this, List.getElem?_map, hx]
    rfl) hg2 (by simp) hg3 hjl).mono ?_
  rintro en w10 ⟨rfl, hb10⟩
  have H610 := Lib.hid (H69.out.trans (hb10.mono (by have := H69.out.size; omega)))
  have HEQ : Hid (Lib.join (([⟨#[115, 97, 109, 112, 108, 101]⟩, T, R ++ H, T2, wsB key, wsB S] : List ByteArray).map (·.data.toList)) (⟨#[32]⟩ : ByteArray).data.toList = textR (d key) e) := Lib.hid (by
    simp only [List.map_cons, List.map_nil, HZ.out]
    rw [HTX.out, ← HS.out, HT.out, HT2.out]
    rfl)
  rw [HEQ.out]
  clear hb10 hjl
  go_wp2
  go_ret2
  exact ⟨rfl, (HX.out _ H6.out).trans (H610.out.mono (by omega))⟩
theorem text_calls (key : ByteArray) (la : Option Addr) (lc : Nat) (e : Ent) (w : World) (hE : Ev w) (hI : EntIn e) (hk : key.size ≤ 1100000) (h : RdL w la e.lab) (hn : e.lab.length ≤ 1000000000) (hsz : ∀ x ∈ e.lab, x.2.size ≤ 4611686018427387904) :
    Calls Tryz.prog 9 #[.agg #[.string key, .slice la e.lab.length lc, .bool e.mark, .int .u64 e.bits, .bool e.st, .int .i64 e.time, .int .i64 e.stamp]] w
      fun en w' => en = .returned (.tuple #[.string ⟨(textT (d key) e).toArray⟩, .int .i64 (textErr (d key) e)]) ∧ Below w.heap.size w w' := by
  unfold textT textErr
  cases hr : itemRight (d key) e with
  | false => exact text_no key la lc e w hE hk h hn hsz hr
  | true =>
    rw [if_pos rfl, if_pos rfl]
    rcases Bool.eq_false_or_eq_true e.mark with hm | hm
    · exact text_mark key la lc e w hE hI hk h hr hm
    · rcases Bool.eq_false_or_eq_true e.st with hs | hs
      · exact text_samp_true key la lc e w hE hI hk h hr hm hs
      · exact text_samp_false key la lc e w hE hI hk h hr hm hs
end Go.Proofs.YtmagojckhfkcdaaGreatDoor.Sk
