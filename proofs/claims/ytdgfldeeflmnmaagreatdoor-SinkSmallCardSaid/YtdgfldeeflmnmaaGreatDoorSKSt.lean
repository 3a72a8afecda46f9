/- Texts of the claim, put together: KSp, KSf, KSn, KSt, KSr. -/
import Derived.Test.YtdgfldeeflmnmaaGreatDoorSKTl
import Derived.Test.YtdgfldeeflmnmaaGreatDoorSKqO
import Derived.OwnWalk
import Derived.Deep.RegionHeldLaw
import Derived.Test.YtdgfldeeflmnmaaGreatDoorSKRl
import Derived.Test.YtdgfldeeflmnmaaGreatDoorSKRy
import Derived.Deep.RegionHeld3
namespace Go.Proofs.YtdgfldeeflmnmaaGreatDoor.Sk
open Go
/-- the item at a place of the long row -/
def bigIt (K : ByteArray) (i : Nat) : It := ⟨K, ⟨[(xB, oneB)], false, 0, false, 0, 2 * i⟩⟩
def bigL (K : ByteArray) : Nat → Nat → List It
  | _, 0 => []
  | lo, n + 1 => bigIt K lo :: bigL K (lo + 1) n
theorem bigL_len (K : ByteArray) : ∀ (n lo : Nat), (bigL K lo n).length = n
  | 0, _ => rfl
  | n + 1, lo => by rw [bigL, List.length_cons, bigL_len K n]
theorem bigL_snoc (K : ByteArray) : ∀ (n lo : Nat), bigL K lo (n + 1) = bigL K lo n ++ [bigIt K (lo + n)]
  | 0, lo => rfl
  | n + 1, lo => by
    rw [bigL, bigL_snoc K n (lo + 1), bigL, List.cons_append, show lo + 1 + n = lo + (n + 1) by omega]
theorem bigL_at (K : ByteArray) : ∀ (n lo k : Nat), k < n → (bigL K lo n)[k]? = some (bigIt K (lo + k))
  | 0, _, _, h => by omega
  | n + 1, lo, 0, _ => rfl
  | n + 1, lo, k + 1, h => by
    rw [bigL, List.getElem?_cons_succ, bigL_at K n (lo + 1) k (by omega), show lo + 1 + k = lo + (k + 1) by omega]
theorem bigL_all {K : ByteArray} (hK : (readKey (d K)).isSome = true) : ∀ (n lo : Nat), lo + n ≤ 65536 → (bigL K lo n).all (fun x => itemRight (d x.key) x.e) = true
  | 0, _, _ => rfl
  | n + 1, lo, h => by
    rw [bigL, List.all_cons, bigL_all hK n (lo + 1) (by omega), Bool.and_true]
    have h1 : labRight [(xB, oneB)] = true := by kernel_rfl
    unfold itemRight bigIt
    dsimp only
    rw [hK, h1]
    simp
    omega
/-- what is known of the line of the row -/
theorem bigL_go {K : ByteArray} : ∀ (n lo : Nat) (f : Line → Last), (f (d K, bytesS [(xB, oneB)]) = none ∨ ∃ s m, f (d K, bytesS [(xB, oneB)]) = some (s, m) ∧ s < 2 * (lo : Int)) → appGo f (bigL K lo n) = 0
  | 0, _, _, _ => rfl
  | n + 1, lo, f, h => by
    have h0 : fol f (bigIt K lo) = 0 := by
      unfold fol lineOf bigIt
      dsimp only
      rcases h with h | ⟨s, m, h, h1⟩
      · rw [h]; rfl
      · rw [h]
        dsimp only
        rw [if_neg (by omega)]
        rfl
    rw [bigL, appGo, if_pos h0]
    refine bigL_go n (lo + 1) _ (.inr ⟨2 * (lo : Int), false, ?_, by omega⟩)
    unfold know upd lineOf bigIt
    rw [if_pos rfl]
theorem know_big (K : ByteArray) (f : Line → Last) (lo : Nat) (q : Line) : know f (bigIt K lo) q = if q = (d K, bytesS [(xB, oneB)]) then some (2 * (lo : Int), false) else f q := rfl
theorem bigL_last (K : ByteArray) : ∀ (n lo : Nat) (f : Line → Last) (q : Line), (bigL K lo (n + 1)).foldl know f q = if q = (d K, bytesS [(xB, oneB)]) then some (2 * ((lo + n : Nat) : Int), false) else f q
  | 0, lo, f, q => by
    show know f (bigIt K lo) q = _
    rw [know_big, Nat.add_zero]
  | n + 1, lo, f, q => by
    rw [bigL, List.foldl_cons, bigL_last K n (lo + 1), know_big, show lo + 1 + n = lo + (n + 1) by omega]
    split <;> rfl
theorem lastOf_big (K : ByteArray) (n : Nat) (q : Line) : lastOf (bigL K 0 (n + 1)) q = if q = (d K, bytesS [(xB, oneB)]) then some (2 * (n : Int), false) else none := by
  unfold lastOf
  rw [bigL_last, Nat.zero_add]
/-- a marker behind the row -/
def bigM (K : ByteArray) : It := ⟨K, ⟨[(xB, oneB)], true, 0, false, 0, 131072⟩⟩
theorem bigM_right {K : ByteArray} (hK : (readKey (d K)).isSome = true) : itemRight (d (bigM K).key) (bigM K).e = true := by
  have h1 : labRight [(xB, oneB)] = true := by kernel_rfl
  unfold itemRight bigM
  dsimp only
  rw [hK, h1]
  simp
theorem big_e1 {K : ByteArray} (hK : (readKey (d K)).isSome = true) : appErr [] (bigL K 0 65535) = 0 := by
  unfold appErr
  rw [if_pos (bigL_all hK 65535 0 (by omega)), if_pos (bigL_go 65535 0 _ (.inl rfl)), if_neg (by rw [bigL_len]; decide)]
theorem big_go2 {K : ByteArray} : appGo (lastOf (bigL K 0 65535)) (bigL K 65535 1) = 0 :=
  bigL_go 1 65535 _ (.inr ⟨_, _, by rw [show (65535 : Nat) = 65534 + 1 from rfl, lastOf_big, if_pos rfl], by decide⟩)
theorem big_foldl2 {K : ByteArray} : (bigL K 65535 1).foldl know (lastOf (bigL K 0 65535)) (d K, bytesS [(xB, oneB)]) = some (131070, false) := by
  rw [show (1 : Nat) = 0 + 1 from rfl, bigL_last, if_pos rfl]
  rfl
theorem fol_M {K : ByteArray} {f : Line → Last} (h : f (d K, bytesS [(xB, oneB)]) = some (131070, false)) : fol f (bigM K) = 0 := by
  unfold fol lineOf bigM
  dsimp only
  rw [h]
  rfl
theorem big_e2 {K : ByteArray} (hK : (readKey (d K)).isSome = true) : appErr (bigL K 0 65535) [bigIt K 65535, bigM K] = 4 := by
  have h1 : ([bigIt K 65535, bigM K] : List It).all (fun x => itemRight (d x.key) x.e) = true := by
    have h2 := bigL_all hK 1 65535 (by omega)
    have h3 : itemRight (d (bigIt K 65535).key) (bigIt K 65535).e = true := by simpa [bigL] using h2
    rw [List.all_cons, List.all_cons, h3, bigM_right hK]
    rfl
  have h2 : appGo (lastOf (bigL K 0 65535)) [bigIt K 65535, bigM K] = 0 := by
    have := appGo_append (bigL K 65535 1) [bigM K] (lastOf (bigL K 0 65535))
    rw [if_pos big_go2] at this
    rw [show [bigIt K 65535, bigM K] = bigL K 65535 1 ++ [bigM K] from rfl, this, appGo, if_pos (fol_M big_foldl2)]
    rfl
  unfold appErr
  rw [if_pos h1, if_pos h2, if_pos (by rw [bigL_len]; exact (by omega : 65536 < 65535 + 2))]
theorem big_e3 {K : ByteArray} (hK : (readKey (d K)).isSome = true) : appErr (bigL K 0 65535) [bigIt K 65535] = 0 := by
  unfold appErr
  rw [show [bigIt K 65535] = bigL K 65535 1 from rfl, if_pos (bigL_all hK 1 65535 (by omega)), if_pos big_go2, if_neg (by rw [bigL_len]; exact (by omega : ¬ 65536 < 65535 + 1))]
theorem big_e4 {K : ByteArray} : appErr (bigL K 0 65536) [] = 0 := by
  unfold appErr
  rw [if_pos (show ([] : List It).all (fun x => itemRight (d x.key) x.e) = true from rfl), if_pos (show appGo (lastOf (bigL K 0 65536)) [] = 0 from rfl), if_neg (by rw [bigL_len]; exact (by omega : ¬ 65536 < 65536 + 0))]
theorem big_e5 {K : ByteArray} (hK : (readKey (d K)).isSome = true) : appErr (bigL K 0 65536) [bigM K] = 4 := by
  have h1 : ([bigM K] : List It).all (fun x => itemRight (d x.key) x.e) = true := by
    rw [List.all_cons, bigM_right hK]
    rfl
  have h2 : appGo (lastOf (bigL K 0 65536)) [bigM K] = 0 := by
    rw [appGo, if_pos (fol_M (by rw [show (65536 : Nat) = 65535 + 1 from rfl, lastOf_big, if_pos rfl]; rfl))]
    rfl
  unfold appErr
  rw [if_pos h1, if_pos h2, if_pos (by rw [bigL_len]; exact (by omega : 65536 < 65536 + 1))]
theorem big_app1 {K : ByteArray} (hK : (readKey (d K)).isSome = true) : app [] (bigL K 0 65535) = bigL K 0 65535 := by
  unfold app
  rw [if_pos (big_e1 hK), List.nil_append]
theorem big_app2 {K : ByteArray} (hK : (readKey (d K)).isSome = true) : app (bigL K 0 65535) [bigIt K 65535, bigM K] = bigL K 0 65535 := by
  unfold app
  rw [big_e2 hK, if_neg (by decide)]
theorem big_app3 {K : ByteArray} (hK : (readKey (d K)).isSome = true) : app (bigL K 0 65535) [bigIt K 65535] = bigL K 0 65536 := by
  unfold app
  rw [if_pos (big_e3 hK)]
  have h := bigL_snoc K 65535 0
  rw [Nat.zero_add] at h
  exact h.symm
theorem big_app4 {K : ByteArray} : app (bigL K 0 65536) [] = bigL K 0 65536 := by
  unfold app
  rw [if_pos big_e4, List.append_nil]
theorem big_app5 {K : ByteArray} (hK : (readKey (d K)).isSome = true) : app (bigL K 0 65536) [bigM K] = bigL K 0 65536 := by
  unfold app
  rw [big_e5 hK, if_neg (by decide)]
theorem big_open {K : ByteArray} (hk : K.size ≤ 1100000) {l : List B} (h : OpenAre (lastOf (bigL K 0 65536)) (d K) l) : l.length = 1 := by
  have h1 : OpenAre (lastOf (bigL K 0 65536)) (d K) [bytesS [(xB, oneB)]] := by
    refine ⟨List.pairwise_singleton _ _, fun b => ?_⟩
    rw [show (65536 : Nat) = 65535 + 1 from rfl, lastOf_big, List.mem_singleton]
    constructor
    · rintro rfl
      have h2 : (bytesS [(xB, oneB)]).length ≤ 9223372036854775807 := by decide
      have h3 : (d K).length = K.size := by simp
      exact ⟨⟨by show (d K).length ≤ _; omega, h2⟩, _, if_pos rfl⟩
    · rintro ⟨_, s, h2⟩
      split at h2
      · rename_i h3
        exact congrArg Prod.snd h3
      · cases h2
  rw [OpenAre.unique h h1 (fun _ => rfl)]
  rfl
end Go.Proofs.YtdgfldeeflmnmaaGreatDoor.Sk
namespace Go.Proofs.YtdgfldeeflmnmaaGreatDoor.Sk
open Go Go.RowKit
theorem infoEn : (Tryz.prog.info? 34).map (fun i => (i.zero, i.size, i.bytes)) = some (some (.agg #[.slice none 0 0, .bool false, .int .u64 0, .bool false, .int .i64 0, .int .i64 0]), 6, 64) := by kernel_rfl
/-- the long row in its block: its first entries -/
structure BigRow (w : World) (b : Nat) (k : ByteArray) (i : Nat) (xs : List SE) : Prop where
  blk : ∃ cur, w.heap[b]? = some (.cells cur 34 (0, 0)) ∧ cur.size = 393216 ∧ ∀ (j : Nat) (u : Value), (eFlat xs)[j]? = some u → cur[j]? = some u
  lab : ∀ x ∈ xs, Ll w x.la x.lc x.e.lab ∧ x.e.lab = [(xB, oneB)]
  its : xs.map (toIt k) = bigL k 0 i
theorem BigRow.len {w : World} {b i : Nat} {k : ByteArray} {xs : List SE} (h : BigRow w b k i xs) : xs.length = i := by
  have := congrArg List.length h.its
  rw [List.length_map, bigL_len] at this
  exact this
theorem BigRow.lt {w : World} {b i : Nat} {k : ByteArray} {xs : List SE} (h : BigRow w b k i xs) : b < w.heap.size := by
  obtain ⟨cur, hc, _⟩ := h.blk
  exact (isT_of hc).lt
theorem BigRow.fr {X : Nat → Prop} {w w' : World} {b i : Nat} {k : ByteArray} {xs : List SE} (h : BigRow w b k i xs) (hf : Fr X w w') (hx : ∀ g, isT w g 79 ∨ isT w g 34 → ¬ X g) : BigRow w' b k i xs := by
  obtain ⟨cur, hc, hs, hcu⟩ := h.blk
  exact ⟨⟨cur, (hf.block b (isT_of hc).lt (hx b (.inr (isT_of hc)))).trans hc, hs, hcu⟩, fun x hx' => ⟨(h.lab x hx').1.fr hf (fun g hg => hx g (.inl hg)), (h.lab x hx').2⟩, h.its⟩
theorem BigRow.below {w w' : World} {b i : Nat} {k : ByteArray} {xs : List SE} (h : BigRow w b k i xs) (hb : Below w.heap.size w w') : BigRow w' b k i xs :=
  h.fr (Fr.of_below hb) (fun g hg hx => by have hx : w.heap.size ≤ g := hx; rcases hg with h | h <;> (have := h.lt; omega))
theorem BigRow.rd {w : World} {b i : Nat} {k : ByteArray} {xs : List SE} (h : BigRow w b k i xs) : RdE w (some ⟨b, 0, none⟩) xs := by
  obtain ⟨cur, hc, hs, hcu⟩ := h.blk
  refine ⟨fun _ => ⟨b, 0, rfl, isT_of hc, fun j u hu => ?_⟩, fun x hx => (h.lab x hx).1⟩
  rw [Nat.zero_add]
  simp only [World.cell?, hc]
  exact hcu j u hu
theorem BigRow.ok {w w' : World} {b i : Nat} {k : ByteArray} {xs ys : List SE} (h : BigRow w b k i xs) (hy : ∀ y ∈ ys, y ∈ xs) : EsOk w' ys := by
  refine ⟨fun y hy' => ?_, fun y hy' z hz => ?_⟩
  · rw [(h.lab y (hy y hy')).2]; decide
  · rw [(h.lab y (hy y hy')).2, List.mem_singleton] at hz
    rw [hz]; decide
theorem BigRow.cell {w : World} {b i : Nat} {k : ByteArray} {xs : List SE} (h : BigRow w b k i xs) {j : Nat} (hj : j < 393216) : ∃ u, w.cell? ⟨b, j, none⟩ = some u := by
  obtain ⟨cur, hc, hs, _⟩ := h.blk
  refine ⟨cur[j]'(by omega), ?_⟩
  simp only [World.cell?, hc]
  exact Array.getElem?_eq_getElem (by omega)
theorem BigRow.froz {w : World} {b i : Nat} {k : ByteArray} {xs : List SE} (h : BigRow w b k i xs) (j : Nat) : w.frozen? ⟨b, j, none⟩ = false := by
  obtain ⟨cur, hc, _⟩ := h.blk
  exact block_froz hc j
theorem big_take {k : ByteArray} {xs : List SE} (h : xs.map (toIt k) = bigL k 0 65536) : (xs.take 65535).map (toIt k) = bigL k 0 65535 ∧ ∃ y, xs[65535]? = some y ∧ xs.drop 65535 = [y] ∧ toIt k y = bigIt k 65535 := by
  have hl : xs.length = 65536 := by have := congrArg List.length h; rw [List.length_map, bigL_len] at this; exact this
  have h1 : bigL k 0 65536 = bigL k 0 65535 ++ [bigIt k 65535] := by rw [show (65536 : Nat) = 65535 + 1 from rfl, bigL_snoc, Nat.zero_add]
  refine ⟨by rw [List.map_take, h, h1, List.take_append_of_le_length (by rw [bigL_len]; exact Nat.le_refl _), List.take_of_length_le (by rw [bigL_len]; exact Nat.le_refl _)], ?_⟩
  obtain ⟨y, hy⟩ : ∃ y, xs[65535]? = some y := ⟨_, List.getElem?_eq_getElem (by omega)⟩
  refine ⟨y, hy, ?_, ?_⟩
  · have h2 : xs.drop 65535 = xs[65535] :: xs.drop 65536 := List.drop_eq_getElem_cons (by omega)
    rw [h2, List.drop_of_length_le (by omega)]
    rw [List.getElem?_eq_getElem (by omega)] at hy
    rw [Option.some.inj hy]
  · have h2 : (xs.map (toIt k))[65535]? = some (toIt k y) := by rw [List.getElem?_map, hy]; rfl
    rw [h, bigL_at k 65536 0 65535 (by omega), Nat.zero_add] at h2
    exact (Option.some.inj h2).symm
theorem setCell_at {w : World} {b o : Nat} {cur : Array Value} {T : TypeId} {u : Value} (h : w.heap[b]? = some (.cells cur T (0, 0))) : (w.setCell ⟨b, o, none⟩ u).heap[b]? = some (.cells (cur.setIfInBounds o u) T (0, 0)) := by
  unfold World.setCell
  simp only [Array.getElem?_modify, h]
  rfl
theorem set6_at {cur : Array Value} {o : Nat} {a0 a1 a2 a3 a4 a5 : Value} (ho : o + 5 < cur.size) (j : Nat) :
    ((((((cur.setIfInBounds o a0).setIfInBounds (o + 1) a1).setIfInBounds (o + 2) a2).setIfInBounds (o + 3) a3).setIfInBounds (o + 4) a4).setIfInBounds (o + 5) a5)[j]? =
      if o ≤ j ∧ j < o + 6 then [a0, a1, a2, a3, a4, a5][j - o]? else cur[j]? := by
  simp only [Array.getElem?_setIfInBounds, Array.size_setIfInBounds]
  by_cases h5 : o + 5 = j
  · subst h5; rw [if_pos rfl, if_pos ho, if_pos (by omega), show o + 5 - o = 5 by omega]; rfl
  by_cases h4 : o + 4 = j
  · subst h4; rw [if_neg h5, if_pos rfl, if_pos (by omega), if_pos (by omega), show o + 4 - o = 4 by omega]; rfl
  by_cases h3 : o + 3 = j
  · subst h3; rw [if_neg h5, if_neg h4, if_pos rfl, if_pos (by omega), if_pos (by omega), show o + 3 - o = 3 by omega]; rfl
  by_cases h2 : o + 2 = j
  · subst h2; rw [if_neg h5, if_neg h4, if_neg h3, if_pos rfl, if_pos (by omega), if_pos (by omega), show o + 2 - o = 2 by omega]; rfl
  by_cases h1 : o + 1 = j
  · subst h1; rw [if_neg h5, if_neg h4, if_neg h3, if_neg h2, if_pos rfl, if_pos (by omega), if_pos (by omega), show o + 1 - o = 1 by omega]; rfl
  by_cases h0 : o = j
  · subst h0; rw [if_neg h5, if_neg h4, if_neg h3, if_neg h2, if_neg h1, if_pos rfl, if_pos (by omega), if_pos (by omega), Nat.sub_self]; rfl
  rw [if_neg h5, if_neg h4, if_neg h3, if_neg h2, if_neg h1, if_neg h0, if_neg (by omega)]
/-- a round of the loop that fills the row -/
theorem BigRow.step {w w1 : World} {b i : Nat} {k : ByteArray} {xs : List SE} (h : BigRow w b k i xs) (hi : i < 65536) (hw1 : w1 = oneW w xB oneB) :
    BigRow ((((((w1.setCell ⟨b, i * 6, none⟩ (.slice (some ⟨w.heap.size, 0, none⟩) 1 1)).setCell ⟨b, i * 6 + 1, none⟩ (.bool false)).setCell ⟨b, i * 6 + 2, none⟩ (.int .u64 0)).setCell ⟨b, i * 6 + 3, none⟩ (.bool false)).setCell ⟨b, i * 6 + 4, none⟩ (.int .i64 0)).setCell ⟨b, i * 6 + 5, none⟩ (.int .i64 (2 * (i : Int)))) b k (i + 1) (xs ++ [⟨some ⟨w.heap.size, 0, none⟩, 1, ⟨[(xB, oneB)], false, 0, false, 0, 2 * (i : Int)⟩⟩]) ∧
    Fr (fun g => g = b) w ((((((w1.setCell ⟨b, i * 6, none⟩ (.slice (some ⟨w.heap.size, 0, none⟩) 1 1)).setCell ⟨b, i * 6 + 1, none⟩ (.bool false)).setCell ⟨b, i * 6 + 2, none⟩ (.int .u64 0)).setCell ⟨b, i * 6 + 3, none⟩ (.bool false)).setCell ⟨b, i * 6 + 4, none⟩ (.int .i64 0)).setCell ⟨b, i * 6 + 5, none⟩ (.int .i64 (2 * (i : Int)))) := by
  have hl := h.len
  have h1 : BigRow w1 b k i xs := h.below (by rw [hw1]; exact oneW_below w xB oneB)
  have hll : Ll w1 (some ⟨w.heap.size, 0, none⟩) 1 [(xB, oneB)] := by rw [hw1]; exact oneW_ll w xB oneB
  obtain ⟨cur, hc, hs, hcu⟩ := h1.blk
  have hfr : Fr (fun g => g = b) w1 ((((((w1.setCell ⟨b, i * 6, none⟩ (.slice (some ⟨w.heap.size, 0, none⟩) 1 1)).setCell ⟨b, i * 6 + 1, none⟩ (.bool false)).setCell ⟨b, i * 6 + 2, none⟩ (.int .u64 0)).setCell ⟨b, i * 6 + 3, none⟩ (.bool false)).setCell ⟨b, i * 6 + 4, none⟩ (.int .i64 0)).setCell ⟨b, i * 6 + 5, none⟩ (.int .i64 (2 * (i : Int)))) := by
    iterate 6 (refine Fr.setCell ?_ (by exact rfl) _)
    exact Fr.refl _ _
  refine ⟨⟨⟨_, setCell_at (setCell_at (setCell_at (setCell_at (setCell_at (setCell_at hc))))), by simp only [Array.size_setIfInBounds]; exact hs, fun j u hu => ?_⟩, fun x hx => ?_, ?_⟩, ?_⟩
  · rw [set6_at (by omega)]
    have hfl : (eFlat xs).length = i * 6 := by rw [eFlat_length, hl]
    rw [show eFlat (xs ++ [⟨some ⟨w.heap.size, 0, none⟩, 1, ⟨[(xB, oneB)], false, 0, false, 0, 2 * (i : Int)⟩⟩]) = eFlat xs ++ [.slice (some ⟨w.heap.size, 0, none⟩) 1 1, .bool false, .int .u64 0, .bool false, .int .i64 0, .int .i64 (2 * (i : Int))] by simp [eFlat, eB]] at hu
    by_cases hj : j < i * 6
    · rw [List.getElem?_append_left (by omega)] at hu
      rw [if_neg (by omega)]
      exact hcu j u hu
    · rw [List.getElem?_append_right (by omega), hfl] at hu
      have := (List.getElem?_eq_some_iff.1 hu).1
      simp only [List.length_cons, List.length_nil] at this
      rw [if_pos (by omega)]
      exact hu
  · rcases List.mem_append.1 hx with h2 | h2
    · exact ⟨(h1.lab x h2).1.fr hfr (fun g hg e => by subst e; exact hg.ne (isT_of hc) (by decide) rfl), (h1.lab x h2).2⟩
    · rw [List.mem_singleton.1 h2]
      exact ⟨hll.fr hfr (fun g hg e => by subst e; exact hg.ne (isT_of hc) (by decide) rfl), rfl⟩
  · rw [List.map_append, h.its, bigL_snoc, Nat.zero_add]
    rfl
  · have hb : Below w.heap.size w w1 := by rw [hw1]; exact oneW_below w xB oneB
    exact ((Fr.of_below hb).mono (fun g hg hx => absurd hg (Nat.not_lt.2 hx))).trans hfr
theorem at_worldS {f : FuncId} {args : Array Value} {w : World} {Q : Ending → World → Prop} (h : ∀ W, W = w → Calls Tryz.prog f args W Q) : Calls Tryz.prog f args w Q := h w rfl
theorem sinkEmpty_fr {X : Nat → Prop} {w w' : World} {p base mb n : Nat} (h : SinkAt w p base mb n (.slice none 0 0) []) (hf : Fr X w w') (hp : ¬ X p) (hm : ¬ X mb) : SinkAt w' p base mb n (.slice none 0 0) [] :=
  ⟨(hf.block p h.lp hp).trans h.cells, World.ownsRow_nil _ _ _ _, (fun x hx => by cases hx), h.map.fr hf hm, h.le, h.len, h.ok, Nat.le_trans h.bs hf.size⟩
theorem rdE_take {w : World} {a : Option Addr} {l : List SE} (h : RdE w a l) (n : Nat) : RdE w a (l.take n) := by
  refine ⟨fun hx => ?_, fun x hx => h.lab x (List.mem_of_mem_take hx)⟩
  obtain ⟨b, off, e, ht, hc⟩ := h.rd (by intro e; subst e; simp at hx)
  refine ⟨b, off, e, ht, fun j u hu => hc j u ?_⟩
  have h1 : eFlat l = eFlat (l.take n) ++ eFlat (l.drop n) := by unfold eFlat; rw [← List.flatMap_append, List.take_append_drop]
  rw [h1, List.getElem?_append_left (List.getElem?_eq_some_iff.1 hu).1]
  exact hu
theorem rdE_last {w : World} {b : Nat} {l : List SE} (h : RdE w (some ⟨b, 0, none⟩) l) {n : Nat} {y : SE} (hy : l[n]? = some y) : RdE w (some ⟨b, n * 6, none⟩) [y] := by
  obtain ⟨b', off, e, hl, ht, hc⟩ := h.at_ hy
  cases e
  refine ⟨fun _ => ⟨b, n * 6, rfl, ht, fun j u hu => ?_⟩, fun x hx => by rw [List.mem_singleton.1 hx]; exact h.lab y (List.mem_of_getElem? hy)⟩
  have := hc j u (by simpa [eFlat] using hu)
  rwa [Nat.zero_add] at this
/-- the sink, the row, and all that stood at the start -/
structure FuAt (w : World) (p base mb b : Nat) (k : ByteArray) (xs : List SE) (n : Nat) (v : Value) (l : List SI) (its : List It) (wx : World) : Prop where
  sk : SinkAt wx p base mb n v l
  row : BigRow wx b k 65536 xs
  mp : l.map SI.it = its
  bel : Below w.heap.size w wx
theorem FuAt.below {w wx w' : World} {p base mb b n : Nat} {k : ByteArray} {xs : List SE} {v : Value} {l : List SI} {its : List It} (h : FuAt w p base mb b k xs n v l its wx) (hb : Below wx.heap.size wx w') : FuAt w p base mb b k xs n v l its w' :=
  ⟨h.sk.below hb, h.row.below hb, h.mp, Bthen h.bel hb⟩
/-- behind a call of Append -/
theorem FuAt.app {w wx w' : World} {p base mb b n : Nat} {k : ByteArray} {xs : List SE} {v : Value} {l : List SI} {its its' : List It} {er : Int} {m : List It} {e : Ending} (h : FuAt w p base mb b k xs n v l its wx) (hp : w.heap.size ≤ p ∧ w.heap.size ≤ mb ∧ w.heap.size ≤ base)
    (hA : AppPost wx p base mb v l m e w') (he : appErr its m = er) (hi : app its m = its') : e = .returned (.int .i64 er) ∧ ∃ n' v' l', FuAt w p base mb b k xs n' v' l' its' w' := by
  obtain ⟨h1, n', v', l', h2, h3, h4, _⟩ := hA
  rw [h.mp] at h1 h3
  rw [he] at h1
  rw [hi] at h3
  exact ⟨h1, n', v', l', ⟨h2, h.row.fr h4 (fun g hg => by rcases hg with hg | hg <;> exact h.sk.notX hg (by decide) (by decide)), h3, h.bel.trans (h.sk.app_below h4 hp.1 hp.2.1 hp.2.2)⟩⟩
set_option maxRecDepth 100000 in
set_option maxHeartbeats 8000000 in
theorem full_calls (k : ByteArray) (hk : k.size ≤ 1100000) (hkey : (readKey (d k)).isSome = true) (w : World) (hE : Ev w) :
    Calls Tryz.prog 29 #[.string k] w fun e w' => e = .returned (.bool true) ∧ Below w.heap.size w w' := by
  obtain ⟨i0, hi0, hz0, hz1, hz2⟩ := info_parts infoEn
  have HI0 := Lib.hid (And.intro hi0 (And.intro hz0 (And.intro hz1 hz2)))
  have HE := Lib.hid (And.intro hE hkey)
  clear hi0 hz0 hz1 hz2 hE hkey
  go_enter Tryz.func29, Tryz.ntmps29
  go_wp2_with fail
  go_at_call 6
  refine (new_calls w).mono ?_
  rintro e w1 ⟨rfl, hS1, hb1, hz1⟩
  obtain ⟨p, hp⟩ : ∃ q, q = w.heap.size + 1 := ⟨_, rfl⟩
  obtain ⟨base, hba⟩ : ∃ q, q = w.heap.size + 2 := ⟨_, rfl⟩
  obtain ⟨mb, hmb⟩ : ∃ q, q = w.heap.size := ⟨_, rfl⟩
  rw [← hp, ← hba, ← hmb] at hS1
  rw [← hp]
  have HP : Hid (w.heap.size ≤ p ∧ w.heap.size ≤ mb ∧ w.heap.size ≤ base) := Lib.hid ⟨by omega, by omega, by omega⟩
  have H1 := Lib.hid (And.intro hS1 hb1)
  clear hp hba hmb hS1 hb1 hz1
  go_wp2_with (at_make; refine wpList_make_full _ rfl _ _ 45 rfl 0 34 i0 _ 6 Tryz.underlying45 HI0.out.1 HI0.out.2.1 HI0.out.2.2.1 .i64 .i64 _ _ 65536 rfl rfl rfl rfl (by rw [HI0.out.2.2.2]; decide) (by unfold maxLen; decide) (Nat.zero_le _) ?_)
  intro w2 hown2 hgrow2
  have hb2 : Below w1.heap.size w1 w2 := (Below.refl w1.heap.size w1).grown hgrow2 (Nat.le_refl _) (fun k e => by cases e)
  obtain ⟨b, hb⟩ : ∃ q, q = w1.heap.size := ⟨_, rfl⟩
  rw [← hb] at hown2 ⊢
  have hrow : BigRow w2 b k 0 [] := by
    rcases hown2.2 with ⟨h, _⟩ | ⟨g, cap, cur, hv, _, hg, h1, h2, hs, _⟩
    · cases h
    · cases hv
      exact ⟨⟨cur, hg, hs, (fun j u hu => by simp [eFlat] at hu)⟩, (fun x hx => by cases hx), rfl⟩
  have H2 := Lib.hid (And.intro (H1.out.1.below hb2) (And.intro hrow (Bthen H1.out.2 hb2)))
  have HB : Hid (w.heap.size ≤ b) := Lib.hid (by rw [hb]; exact H1.out.2.size)
  clear hown2 hgrow2 hb2 hb hrow H1
  obtain ⟨N, hN⟩ : ∃ q : Nat, q = 65536 := ⟨_, rfl⟩
  rw [← hN]
  have HN := Lib.hid hN
  have hN1 : N ≤ 65536 := by omega
  have hN2 : 65536 ≤ N := by omega
  clear hN
  go_wp2_with fail
  go_loopw [16] (fun i wr => ∃ (j : Nat) (xs : List SE), j ≤ N ∧ i = .int .i64 j ∧ BigRow wr b k j xs ∧ Fr (fun g => g = b) w2 wr) (fun i _ => N - (intOf i).toNat)
  case atStart => exact ⟨0, [], by omega, rfl, H2.out.2.1, Fr.refl _ _⟩
  case round =>
    obtain ⟨j, xs, hj, rfl, hrow, hfr⟩ := hrel
    have hb4 := hrow.lt
    by_cases hlt : j < N
    · have H3 := Lib.hid (And.intro hrow hfr)
      clear hrow hfr
      go_wp2_with fail
      go_at_call 9
      refine (lone_calls xB oneB wr).mono ?_
      rintro e w4 ⟨rfl, hw4⟩
      have hstep := H3.out.1.step (by omega) hw4
      have hrow4 : BigRow w4 b k j xs := H3.out.1.below (by rw [hw4]; exact oneW_below wr xB oneB)
      obtain ⟨u0, c0⟩ := hrow4.cell (j := j * 6) (by omega)
      obtain ⟨u1, c1⟩ := hrow4.cell (j := j * 6 + 1) (by omega)
      obtain ⟨u2, c2⟩ := hrow4.cell (j := j * 6 + 2) (by omega)
      obtain ⟨u3, c3⟩ := hrow4.cell (j := j * 6 + 3) (by omega)
      obtain ⟨u4, c4⟩ := hrow4.cell (j := j * 6 + 4) (by omega)
      obtain ⟨u5, c5⟩ := hrow4.cell (j := j * 6 + 5) (by omega)
      have f0 := hrow4.froz (j * 6)
      have f1 := hrow4.froz (j * 6 + 1)
      have f2 := hrow4.froz (j * 6 + 2)
      have f3 := hrow4.froz (j * 6 + 3)
      have f4 := hrow4.froz (j * 6 + 4)
      have f5 := hrow4.froz (j * 6 + 5)
      have hl4 := hrow4.lt
      have HST := Lib.hid hstep
      clear hrow4 hstep hw4
      go_wp2_with fail
      go_roundw
      case rel => exact ⟨j + 1, _, by omega, by go_num, HST.out.1, H3.out.2.trans HST.out.2⟩
      case measure => simp [intOf]; omega
    · obtain rfl : j = N := by omega
      have hbel : Below w.heap.size w wr := H2.out.2.2.trans (hfr.below (fun g hg e => by have := HB.out; omega) H2.out.2.2.size)
      have hS5 : SinkAt wr p base mb 0 (.slice none 0 0) [] := sinkEmpty_fr H2.out.1 hfr (fun e => by
          obtain ⟨cur, hc, _⟩ := H2.out.2.1.blk
          exact (isT_of hc).ne (isT_of H2.out.1.cells) (by decide) e.symm) (fun e => by
          obtain ⟨cur, hc, _⟩ := H2.out.2.1.blk
          exact H2.out.1.notMap (isT_of hc) e.symm)
      rw [HN.out] at hrow
      obtain ⟨w5, hw5⟩ : ∃ q, q = wr := ⟨_, rfl⟩
      subst hw5
      have H5 := Lib.hid (show FuAt w p base mb b k xs 0 (.slice none 0 0) [] [] w5 from ⟨hS5, hrow, rfl, hbel⟩)
      obtain ⟨ht, y, hy, hdr, hyt⟩ := big_take hrow.its
      obtain ⟨la, lc, ye⟩ := y
      have hye : ye = ⟨[(xB, oneB)], false, 0, false, 0, 131070⟩ := congrArg It.e hyt
      subst hye
      have HX := Lib.hid (And.intro ht (And.intro hy (And.intro hdr hyt)))
      have hlx : (xs.take 65535).length = 65535 := by rw [List.length_take, hrow.len]; rfl
      have hcall := append_calls w5 k (some ⟨b, 0, none⟩) j (xs.take 65535) hS5 (HE.out.1.below hbel).kv hk (rdE_take hrow.rd 65535) (hrow.ok (fun y hy => List.mem_of_mem_take hy)) (by rw [hlx]; decide)
      rw [hlx] at hcall
      have HC := Lib.hid hcall
      clear hbel hS5 hrow hfr ht hy hdr hyt hlx hcall
      go_wp2_with fail
      go_at_call 12
      refine HC.out.mono ?_
      intro e w6 hA
      obtain ⟨rfl, n6, v6, l6, h6⟩ := H5.out.app HP.out hA (er := 0) (its' := bigL k 0 65535) (by rw [HX.out.1]; exact big_e1 HE.out.2) (by rw [HX.out.1]; exact big_app1 HE.out.2)
      have H6 := Lib.hid h6
      clear hA h6 H5 HC
      have HSK : Hid (∀ w' : World, BigRow w' b k 65536 xs → w'.cell? ⟨b, 393210, none⟩ = some (.slice la 1 lc) ∧ w'.cell? ⟨b, 393211, none⟩ = some (.bool false) ∧ w'.cell? ⟨b, 393212, none⟩ = some (.int .u64 0) ∧ w'.cell? ⟨b, 393213, none⟩ = some (.bool false) ∧ w'.cell? ⟨b, 393214, none⟩ = some (.int .i64 0) ∧ w'.cell? ⟨b, 393215, none⟩ = some (.int .i64 131070)) := Lib.hid (fun w' hb' => by
        obtain ⟨b', off, e, ht, hc⟩ := (rdE_last hb'.rd HX.out.2.1).rd (by simp)
        cases e
        exact ⟨hc 0 _ rfl, hc 1 _ rfl, hc 2 _ rfl, hc 3 _ rfl, hc 4 _ rfl, hc 5 _ rfl⟩)
      have hb6 := H6.out.row.lt
      obtain ⟨q0, q1, q2, q3, q4, q5⟩ := HSK.out w6 H6.out.row
      have hj1 : (65535 : Int) < (j : Int) := by omega
      have hj2 : (0 : Int) ≤ 65535 := by decide
      go_wp2_with fail
      go_region_held_law (fun w' : World => w'.cell? ⟨b, 393210, none⟩ = some (.slice la 1 lc) ∧ w'.cell? ⟨b, 393211, none⟩ = some (.bool false) ∧ w'.cell? ⟨b, 393212, none⟩ = some (.int .u64 0) ∧ w'.cell? ⟨b, 393213, none⟩ = some (.bool false) ∧ w'.cell? ⟨b, 393214, none⟩ = some (.int .i64 0) ∧ w'.cell? ⟨b, 393215, none⟩ = some (.int .i64 131070)) (first | go_keep | (with_reducible exact HSK.out _ h10.row) | (with_reducible exact HSK.out _ (H6.out.row.below hA)))
        (first
          | (go_at_call 22
             refine at_worldS ?_
             intro W1 hW1
             have hb1 : Below w6.heap.size w6 W1 := by rw [hW1]; first | exact Below.refl _ _ | exact (Below.refl _ _).drew
             clear hW1
             refine (marker_calls 131072 W1).mono ?_
             rintro e w8 ⟨aM, rfl, hlM, hbM⟩
             have hA : Below w6.heap.size w6 w8 := hb1.trans (hbM.mono hb1.size)
             have HM := Lib.hid hlM
             clear hlM hbM hb1)
          | (go_at_call 12
             refine at_worldS ?_
             intro W3 hW3
             have h8 := H6.out.below hA
             have hb3 : Below w8.heap.size w8 W3 := by rw [hW3]; first | exact (Below.refl _ _).alloc (Nat.le_refl _) _ | exact ((Below.refl _ _).alloc (Nat.le_refl _) _).drew
             have hrd3 : RdE W3 (some ⟨w8.heap.size, 0, none⟩) [⟨la, lc, ⟨[(xB, oneB)], false, 0, false, 0, 131070⟩⟩, ⟨aM, 1, ⟨[(xB, oneB)], true, 0, false, 0, 131072⟩⟩] := by
               have hx : ∀ x ∈ ([⟨la, lc, ⟨[(xB, oneB)], false, 0, false, 0, 131070⟩⟩, ⟨aM, 1, ⟨[(xB, oneB)], true, 0, false, 0, 131072⟩⟩] : List SE), Ll w8 x.la x.lc x.e.lab := two_ll (h8.row.lab _ (List.mem_of_getElem? HX.out.2.1)).1 HM.out
               rw [hW3]
               exact RdE.new w8 _ _ rfl hx
             have hcall := append_calls W3 k (some ⟨w8.heap.size, 0, none⟩) 2 _ (h8.below hb3).sk (HE.out.1.below (h8.below hb3).bel).kv hk hrd3 (esOk_lab (by kernel_rfl)) (by simp)
             have H9 := Lib.hid (h8.below hb3)
             clear hW3 h8 hb3 hrd3
             refine hcall.mono ?_
             clear hcall
             intro e w10 hB
             obtain ⟨rfl, n10, v10, l10, h10⟩ := H9.out.app HP.out hB (er := 4) (its' := bigL k 0 65535) (big_e2 HE.out.2) (big_app2 HE.out.2)
             clear hB))
      all_goals
        have H10 := Lib.hid h10
        have hl10 : l10.length = 65535 := by
          have := congrArg List.length h10.mp
          rw [List.length_map, bigL_len] at this
          exact this
        clear h10 hA q0 q1 q2 q3 q4 q5 hj1 hj2
        go_wp2_with fail
        go_at_call 31
        have hcall := len_calls w10 H10.out.sk
        rw [hl10] at hcall
        refine hcall.mono ?_
        clear hcall hl10
        rintro e w11 ⟨rfl, rfl⟩
        have hj3 : ¬ j = 65535 := by omega
        have hj4 : (65535 : Int) ≤ (j : Int) := by omega
        have hcall := append_calls w10 k (some ⟨b, 393210, none⟩) (j - 65535) [⟨la, lc, ⟨[(xB, oneB)], false, 0, false, 0, 131070⟩⟩] H10.out.sk (HE.out.1.below H10.out.bel).kv hk (rdE_last H10.out.row.rd HX.out.2.1) (esOk_lab (by kernel_rfl)) (by simp)
        have HC := Lib.hid hcall
        clear hcall
        go_wp2_with fail
        go_at_call 12
        obtain ⟨jn, hjn⟩ : ∃ q, q = j - 65535 := ⟨_, rfl⟩
        have hjn1 : jn = 1 := by omega
        rw [← hjn]
        subst hjn1
        rw [← hjn] at HC
        clear hjn
        refine HC.out.mono ?_
        intro e w12 hB
        obtain ⟨rfl, n12, v12, l12, h12⟩ := H10.out.app HP.out hB (er := 0) (its' := bigL k 0 65536) (big_e3 HE.out.2) (big_app3 HE.out.2)
        have H12 := Lib.hid h12
        have hcall := append_calls w12 k none 0 [] h12.sk (HE.out.1.below h12.bel).kv hk ⟨fun h => absurd rfl h, (fun x hx => by cases hx)⟩ ⟨(fun x hx => by cases hx), (fun x hx => by cases hx)⟩ (by simp)
        have HC2 := Lib.hid hcall
        clear h12 hB H10 HC hcall
        go_wp2_with fail
        go_at_call 12
        refine HC2.out.mono ?_
        intro e w13 hB
        obtain ⟨rfl, n13, v13, l13, h13⟩ := H12.out.app HP.out hB (er := 0) (its' := bigL k 0 65536) big_e4 big_app4
        have H13 := Lib.hid h13
        clear hB H12 HC2 h13
        go_wp2_with fail
        go_at_call 22
        refine (marker_calls 131072 w13).mono ?_
        rintro e w14 ⟨aN, rfl, hlN, hb14⟩
        have H14 := Lib.hid (And.intro (H13.out.below hb14) hlN)
        clear hlN hb14 H13
        go_wp2_with fail
        go_at_call 12
        obtain ⟨w15, hw15⟩ : ∃ q, q = w14.alloc (.cells #[.slice aN 1 1, .bool true, .int .u64 0, .bool false, .int .i64 0, .int .i64 131072] 34) := ⟨_, rfl⟩
        have hb15 : Below w14.heap.size w14 w15 := by rw [hw15]; exact (Below.refl _ _).alloc (Nat.le_refl _) _
        have hrd15 : RdE w15 (some ⟨w14.heap.size, 0, none⟩) [⟨aN, 1, ⟨[(xB, oneB)], true, 0, false, 0, 131072⟩⟩] := by
          have hx : ∀ x ∈ ([⟨aN, 1, ⟨[(xB, oneB)], true, 0, false, 0, 131072⟩⟩] : List SE), Ll w14 x.la x.lc x.e.lab := one_ll H14.out.2
          rw [hw15]
          exact RdE.new w14 _ _ rfl hx
        have h15 := H14.out.1.below hb15
        have hcall := append_calls w15 k (some ⟨w14.heap.size, 0, none⟩) 1 _ h15.sk (HE.out.1.below h15.bel).kv hk hrd15 (esOk_lab (by kernel_rfl)) (by simp)
        rw [← hw15]
        have H15 := Lib.hid h15
        clear hw15 hb15 hrd15 h15 H14
        refine hcall.mono ?_
        clear hcall
        intro e w16 hB
        obtain ⟨rfl, n16, v16, l16, h16⟩ := H15.out.app HP.out hB (er := 4) (its' := bigL k 0 65536) (big_e5 HE.out.2) (big_app5 HE.out.2)
        have H16 := Lib.hid h16
        have hl16 : l16.length = 65536 := by
          have := congrArg List.length h16.mp
          rw [List.length_map, bigL_len] at this
          exact this
        clear hB H15 h16
        go_wp2_with fail
        go_at_call 31
        have hcall := len_calls w16 H16.out.sk
        rw [hl16] at hcall
        refine hcall.mono ?_
        clear hcall
        rintro e w17 ⟨rfl, rfl⟩
        go_wp2_with fail
        go_at_call 49
        have hcall := from_callsF 65535 w16 H16.out.sk
        rw [H16.out.mp] at hcall
        refine hcall.mono ?_
        clear hcall hl16
        rintro e w18 ⟨a18, c18, l18, rfl, -, -, hm18, hb18⟩
        have hl18 : l18.length = 1 := by
          have := congrArg List.length hm18
          rw [List.length_map] at this
          rw [this]
          unfold fromS
          rw [if_pos ⟨by decide, by rw [bigL_len]; decide⟩, List.length_drop, bigL_len]
          rfl
        rw [hl18]
        have H18 := Lib.hid (H16.out.below hb18)
        clear hm18 hb18 hl18 H16
        go_wp2_with fail
        go_at_call 79
        have hcall := open_calls k hk w18 (HE.out.1.below H18.out.bel).kv H18.out.sk
        rw [H18.out.mp] at hcall
        refine hcall.mono ?_
        clear hcall
        rintro e w19 ⟨a19, c19, l19, rfl, ho19, -, -, -, -, -, hb19⟩
        have hl19 : l19.length = 1 := by
          have := big_open hk ho19
          rwa [List.length_map] at this
        rw [hl19]
        have H19 := Lib.hid (Bthen H18.out.bel hb19)
        clear ho19 hb19 hl19 H18
        go_wp2_with fail
        go_ret
        exact ⟨rfl, H19.out⟩
end Go.Proofs.YtdgfldeeflmnmaaGreatDoor.Sk
namespace Go.Proofs.YtdgfldeeflmnmaaGreatDoor.Sk
open Go Go.RowKit
/-- no sink: nil, or one without a map -/
def NoneAt (w : World) (a : Option Addr) : Prop := a = none ∨ ∃ p, a = some ⟨p, 0, none⟩ ∧ p < w.heap.size ∧ w.cell? ⟨p, 1, none⟩ = some (.map none)
theorem NoneAt.below {w w' : World} {a : Option Addr} (h : NoneAt w a) (hb : Below w.heap.size w w') : NoneAt w' a := by
  rcases h with h | ⟨p, e, hp, hc⟩
  · exact .inl h
  · exact .inr ⟨p, e, Nat.lt_of_lt_of_le hp hb.size, (hb.cell (p := ⟨p, 1, none⟩) hp).trans hc⟩
theorem nnone_calls (w : World) {a : Option Addr} (h : NoneAt w a) : Calls Tryz.prog 39 #[.pointer a] w fun e w' => e = .returned (.bool true) ∧ w = w' := by
  rcases h with rfl | ⟨p, rfl, _, c1⟩
  · go_enter Tryz.func39, Tryz.ntmps39
    go_wp2
    go_ret
    exact ⟨rfl, rfl⟩
  · have hq := fun wx : World => run_eql_map_nil (P := Tryz.prog) wx 74 96 93 none Tryz.underlying74
    go_enter Tryz.func39, Tryz.ntmps39
    go_wp2
    go_ret
    exact ⟨rfl, rfl⟩
set_option maxRecDepth 100000 in
theorem nlen_calls (w : World) {a : Option Addr} (h : NoneAt w a) : Calls Tryz.prog 31 #[.pointer a] w fun e w' => e = .returned (.int .i64 0) ∧ w = w' := by
  have HN := Lib.hid h
  clear h
  go_enter Tryz.func31, Tryz.ntmps31
  go_wp2_with fail
  go_at_call 39
  refine (nnone_calls w HN.out).mono ?_
  rintro e w1 ⟨rfl, rfl⟩
  go_wp2
  go_ret
  exact ⟨rfl, rfl⟩
set_option maxRecDepth 100000 in
theorem nfrom_calls (i : Int) (w : World) {a : Option Addr} (h : NoneAt w a) : Calls Tryz.prog 49 #[.pointer a, .int .i64 i] w fun e w' => e = .returned (.slice none 0 0) ∧ w = w' := by
  have HN := Lib.hid h
  clear h
  go_enter Tryz.func49, Tryz.ntmps49
  go_wp2_with (go_at_call 39; refine (nnone_calls w HN.out).mono ?_; rintro e w1 ⟨rfl, rfl⟩)
  go_ret
  exact ⟨rfl, rfl⟩
set_option maxRecDepth 100000 in
theorem nall_calls (w : World) {a : Option Addr} (h : NoneAt w a) : Calls Tryz.prog 14 #[.pointer a] w fun e w' => e = .returned (.slice none 0 0) ∧ w = w' := by
  have HN := Lib.hid h
  clear h
  go_enter Tryz.func14, Tryz.ntmps14
  go_wp2_with fail
  go_at_call 49
  refine (nfrom_calls 0 w HN.out).mono ?_
  rintro e w1 ⟨rfl, rfl⟩
  go_wp2
  go_ret
  exact ⟨rfl, rfl⟩
set_option maxRecDepth 100000 in
theorem nkeys_calls (w : World) {a : Option Addr} (h : NoneAt w a) : Calls Tryz.prog 81 #[.pointer a] w fun e w' => e = .returned (.slice none 0 0) ∧ w = w' := by
  have HN := Lib.hid h
  clear h
  go_enter Tryz.func81, Tryz.ntmps81
  go_wp2_with fail
  go_at_call 39
  refine (nnone_calls w HN.out).mono ?_
  rintro e w1 ⟨rfl, rfl⟩
  go_wp2
  go_ret
  exact ⟨rfl, rfl⟩
set_option maxRecDepth 100000 in
theorem nopen_calls (key : ByteArray) (w : World) {a : Option Addr} (h : NoneAt w a) : Calls Tryz.prog 79 #[.pointer a, .string key] w fun e w' => e = .returned (.slice none 0 0) ∧ w = w' := by
  have HN := Lib.hid h
  clear h
  go_enter Tryz.func79, Tryz.ntmps79
  go_wp2_with fail
  go_at_call 39
  refine (nnone_calls w HN.out).mono ?_
  rintro e w1 ⟨rfl, rfl⟩
  go_wp2
  go_ret
  exact ⟨rfl, rfl⟩
theorem nof_calls (K : ByteArray) (w : World) {a : Option Addr} (h : NoneAt w a) : Calls Tryz.prog 80 #[.pointer a, .string K] w fun e w' => (∃ b c, e = .returned (.slice b 0 c)) ∧ Below w.heap.size w w' := by
  refine (of_callsG K w (ap := a) (its := []) (fun W hW => (nfrom_calls 0 W (h.below hW)).mono ?_) (Nat.zero_le _)).mono ?_
  · rintro e w' ⟨rfl, rfl⟩
    exact ⟨none, 0, [], rfl, World.ownsRow_nil _ _ _ _, (fun x hx => by cases hx), rfl, Below.refl _ _⟩
  · rintro e w' ⟨b, c, xs, rfl, _, _, hm, hb⟩
    have h0 : xs = [] := List.map_eq_nil_iff.1 hm
    subst h0
    exact ⟨⟨b, c, rfl⟩, hb⟩
set_option maxRecDepth 100000 in
theorem nappend_calls (key : ByteArray) (l : Value) (w : World) {a : Option Addr} (h : NoneAt w a) : Calls Tryz.prog 12 #[.pointer a, .string key, l] w fun e w' => e = .returned (.int .i64 1) ∧ Below w.heap.size w w' := by
  obtain ⟨w0, hw0⟩ : ∃ q, q = w.alloc (.cells #[.string key] 9) := ⟨_, rfl⟩
  have hb0 : Below w.heap.size w w0 := by rw [hw0]; exact (Below.refl _ _).alloc (Nat.le_refl _) _
  have HN := Lib.hid (And.intro (h.below hb0) hb0)
  clear h hb0
  go_enter Tryz.func12, Tryz.ntmps12
  go_wp2_with fail
  go_at_call 39
  rw [← hw0]
  clear hw0
  refine (nnone_calls w0 HN.out.1).mono ?_
  rintro e w1 ⟨rfl, rfl⟩
  go_wp2
  go_ret
  exact ⟨rfl, HN.out.2⟩
set_option maxRecDepth 100000 in
set_option maxHeartbeats 4000000 in
theorem lnone_calls (k : ByteArray) (w : World) : Calls Tryz.prog 30 #[.string k] w fun e w' => e = .returned (.bool true) ∧ Below w.heap.size w w' := by
  go_enter Tryz.func30, Tryz.ntmps30
  go_wp2_with fail
  obtain ⟨w0, hw0⟩ : ∃ q, q = (w.alloc (.cells #[.slice none 0 0, .map none] 76)).alloc (.cells #[.pointer none, .pointer (some ⟨w.heap.size, 0, none⟩)] 26) := ⟨_, rfl⟩
  have hb0 : Below w.heap.size w w0 := by rw [hw0]; exact ((Below.refl _ _).alloc (Nat.le_refl _) _).alloc (by simp) _
  have hsk : w0.heap[w.heap.size]? = some (.cells #[.slice none 0 0, .map none] 76 (0, 0)) := by rw [hw0, Below.heap_alloc _ _ _ (by simp)]; exact heap_alloc_new w _
  have hrw : w0.heap[w.heap.size + 1]? = some (.cells #[.pointer none, .pointer (some ⟨w.heap.size, 0, none⟩)] 26 (0, 0)) := by
    rw [hw0]
    have := heap_alloc_new (w.alloc (.cells #[.slice none 0 0, .map none] 76)) (.cells #[.pointer none, .pointer (some ⟨w.heap.size, 0, none⟩)] 26)
    simpa using this
  rw [← hw0]
  have H0 := Lib.hid (And.intro hb0 (And.intro hsk hrw))
  clear hw0 hb0 hsk hrw
  go_loopw [9] (fun i wr => ∃ j : Nat, j ≤ 2 ∧ i = .int .i64 j ∧ Below w0.heap.size w0 wr) (fun i _ => 2 - (intOf i).toNat)
  case atStart => exact ⟨0, by omega, rfl, Below.refl _ _⟩
  case round =>
    obtain ⟨j, hj, rfl, hb⟩ := hrel
    have hrw := (hb.block _ (isT_of H0.out.2.2).lt).trans H0.out.2.2
    have c0 := block_cell hrw 0 _ rfl
    have c1 := block_cell hrw 1 _ rfl
    clear hrw
    rcases (show j = 0 ∨ j = 1 ∨ j = 2 by omega) with rfl | rfl | rfl
    · skip
      have hN : ∀ W, Below wr.heap.size wr W → NoneAt W (none) := fun W hW => .inl rfl
      have HN := Lib.hid (And.intro hN hb)
      have hwl := hb.size
      clear hN
      obtain ⟨w1, hw1⟩ : ∃ q, q = wr := ⟨_, rfl⟩
      subst hw1
      go_wp2_with fail
      go_at_call 12
      obtain ⟨w2, hw2⟩ : ∃ q, q = w1.alloc (.cells #[.slice none 0 0, .bool false, .int .u64 0, .bool false, .int .i64 0, .int .i64 (-1)] 34) := ⟨_, rfl⟩
      have hb2 : Below w1.heap.size w1 w2 := by rw [hw2]; exact (Below.refl _ _).alloc (Nat.le_refl _) _
      rw [← hw2]
      have H2 := Lib.hid hb2
      clear hw2 hb2 hb c0 c1
      refine (nappend_calls k _ w2 (HN.out.1 _ H2.out)).mono ?_
      rintro e w3 ⟨rfl, hb3⟩
      have H3 := Lib.hid (Bthen H2.out hb3)
      clear hb3 H2
      go_wp2_with fail
      go_at_call 31
      refine (nlen_calls w3 (HN.out.1 _ H3.out)).mono ?_
      rintro e w4 ⟨rfl, rfl⟩
      go_wp2_with fail
      go_at_call 14
      refine (nall_calls w3 (HN.out.1 _ H3.out)).mono ?_
      rintro e w4 ⟨rfl, rfl⟩
      go_wp2_with fail
      go_at_call 49
      refine (nfrom_calls 0 w3 (HN.out.1 _ H3.out)).mono ?_
      rintro e w4 ⟨rfl, rfl⟩
      go_wp2_with fail
      go_at_call 80
      refine (nof_calls k w3 (HN.out.1 _ H3.out)).mono ?_
      rintro e w5 ⟨⟨bo, co, rfl⟩, hb5⟩
      have H5 := Lib.hid (Bthen H3.out hb5)
      clear hb5 H3
      go_wp2_with fail
      go_at_call 81
      refine (nkeys_calls w5 (HN.out.1 _ H5.out)).mono ?_
      rintro e w6 ⟨rfl, rfl⟩
      go_wp2_with fail
      go_at_call 79
      refine (nopen_calls k w5 (HN.out.1 _ H5.out)).mono ?_
      rintro e w6 ⟨rfl, rfl⟩
      go_wp2_with fail
      go_roundw
      case rel => exact ⟨1, by omega, rfl, Bthen HN.out.2 H5.out⟩
      case measure => simp [intOf]
    · skip
      have hN : ∀ W, Below wr.heap.size wr W → NoneAt W (some ⟨w.heap.size, 0, none⟩) := fun W hW => .inr ⟨w.heap.size, rfl, Nat.lt_of_lt_of_le (isT_of H0.out.2.1).lt (Nat.le_trans hb.size hW.size), block_cell ((hW.block _ (Nat.lt_of_lt_of_le (isT_of H0.out.2.1).lt hb.size)).trans ((hb.block _ (isT_of H0.out.2.1).lt).trans H0.out.2.1)) 1 _ rfl⟩
      have HN := Lib.hid (And.intro hN hb)
      have hwl := hb.size
      clear hN
      obtain ⟨w1, hw1⟩ : ∃ q, q = wr := ⟨_, rfl⟩
      subst hw1
      go_wp2_with fail
      go_at_call 12
      obtain ⟨w2, hw2⟩ : ∃ q, q = w1.alloc (.cells #[.slice none 0 0, .bool false, .int .u64 0, .bool false, .int .i64 0, .int .i64 (-1)] 34) := ⟨_, rfl⟩
      have hb2 : Below w1.heap.size w1 w2 := by rw [hw2]; exact (Below.refl _ _).alloc (Nat.le_refl _) _
      rw [← hw2]
      have H2 := Lib.hid hb2
      clear hw2 hb2 hb c0 c1
      refine (nappend_calls k _ w2 (HN.out.1 _ H2.out)).mono ?_
      rintro e w3 ⟨rfl, hb3⟩
      have H3 := Lib.hid (Bthen H2.out hb3)
      clear hb3 H2
      go_wp2_with fail
      go_at_call 31
      refine (nlen_calls w3 (HN.out.1 _ H3.out)).mono ?_
      rintro e w4 ⟨rfl, rfl⟩
      go_wp2_with fail
      go_at_call 14
      refine (nall_calls w3 (HN.out.1 _ H3.out)).mono ?_
      rintro e w4 ⟨rfl, rfl⟩
      go_wp2_with fail
      go_at_call 49
      refine (nfrom_calls 0 w3 (HN.out.1 _ H3.out)).mono ?_
      rintro e w4 ⟨rfl, rfl⟩
      go_wp2_with fail
      go_at_call 80
      refine (nof_calls k w3 (HN.out.1 _ H3.out)).mono ?_
      rintro e w5 ⟨⟨bo, co, rfl⟩, hb5⟩
      have H5 := Lib.hid (Bthen H3.out hb5)
      clear hb5 H3
      go_wp2_with fail
      go_at_call 81
      refine (nkeys_calls w5 (HN.out.1 _ H5.out)).mono ?_
      rintro e w6 ⟨rfl, rfl⟩
      go_wp2_with fail
      go_at_call 79
      refine (nopen_calls k w5 (HN.out.1 _ H5.out)).mono ?_
      rintro e w6 ⟨rfl, rfl⟩
      go_wp2_with fail
      go_roundw
      case rel => exact ⟨2, by omega, rfl, Bthen HN.out.2 H5.out⟩
      case measure => simp [intOf]
    · have HB := Lib.hid (H0.out.1.trans (hb.mono H0.out.1.size))
      clear hb c0 c1
      go_wp2_with fail
      go_ret
      exact ⟨rfl, HB.out⟩
end Go.Proofs.YtdgfldeeflmnmaaGreatDoor.Sk
namespace Go.Proofs.YtdgfldeeflmnmaaGreatDoor.Sk
open Go Go.RowKit
def tx0 : Ent := ⟨[(xB, oneB)], false, 1023, false, 0, 20⟩
def tx1 : Ent := ⟨[(xB, oneB)], true, 0, false, 0, 7⟩
def tx2 : Ent := ⟨[(xB, ⟨#[45, 32, 37]⟩)], false, 18446744073709551615, true, -77, 0⟩
/-- what texts asks of its entries -/
structure TxOk (e : Ent) : Prop where
  er : textErr (d kJ) e = 0
  ln : e.lab.length ≤ 1
  sz : LabZ e.lab
  rg : EntIn e
  tl : (textT (d kJ) e).length ≤ 1000
theorem tx0_ok : TxOk tx0 := ⟨by kernel_rfl, by decide, fun x hx => (by rw [List.mem_singleton.1 hx]; decide), by constructor <;> decide, of_decide_eq_true (by kernel_rfl)⟩
theorem tx1_ok : TxOk tx1 := ⟨by kernel_rfl, by decide, fun x hx => (by rw [List.mem_singleton.1 hx]; decide), by constructor <;> decide, of_decide_eq_true (by kernel_rfl)⟩
theorem tx2_ok : TxOk tx2 := ⟨by kernel_rfl, by decide, fun x hx => (by rw [List.mem_singleton.1 hx]; decide), by constructor <;> decide, of_decide_eq_true (by kernel_rfl)⟩
def chgL : List ByteArray := [⟨#[32]⟩, ⟨#[48]⟩, ⟨#[45]⟩, ⟨#[37]⟩, ⟨#[97]⟩, ⟨#[70]⟩, ⟨#[37, 52, 49]⟩]
theorem chgL_small : ∀ c ∈ chgL, c.size ≤ 3 := by decide
set_option maxRecDepth 100000 in
set_option maxHeartbeats 8000000 in
theorem texts_calls (w : World) (hE : Ev w) (hS : Es w) :
    Calls Tryz.prog 28 #[.string kJ] w (TdPost (.bool true) w) := by
  have HE := Lib.hid (And.intro hE hS)
  clear hE hS
  obtain ⟨K, hK⟩ : ∃ q, q = kJ := ⟨_, rfl⟩
  rw [← hK]
  have HK := Lib.hid hK
  have hKs : K.size ≤ 1100000 := by rw [hK]; decide
  clear hK
  go_enter Tryz.func28, Tryz.ntmps28
  go_wp2_with fail
  go_at_call 21
  refine (sample_calls 20 1023 w).mono ?_
  rintro e w1 ⟨a1, rfl, hl1, hb1⟩
  have H1 := Lib.hid (And.intro hl1 hb1)
  clear hl1 hb1
  go_wp2_with fail
  go_at_call 22
  refine (marker_calls 7 w1).mono ?_
  rintro e w2 ⟨a2, rfl, hl2, hb2⟩
  have H2 := Lib.hid (And.intro (H1.out.1.below hb2 (Nat.le_refl _)) (And.intro hl2 (Bthen H1.out.2 hb2)))
  clear hl2 hb2 H1
  go_wp2_with fail
  go_at_call 9
  refine (lone_calls ⟨#[120]⟩ ⟨#[45, 32, 37]⟩ w2).mono ?_
  rintro e w3 ⟨rfl, hw3⟩
  obtain ⟨a3, ha3⟩ : ∃ q, q = (some ⟨w2.heap.size, 0, none⟩ : Option Addr) := ⟨_, rfl⟩
  have hl3 := oneW_ll w2 ⟨#[120]⟩ ⟨#[45, 32, 37]⟩
  have hb3 := oneW_below w2 ⟨#[120]⟩ ⟨#[45, 32, 37]⟩
  rw [← hw3] at hl3 hb3
  rw [← ha3] at hl3 ⊢
  have H3 := Lib.hid (And.intro (H2.out.1.below hb3 (Nat.le_refl _)) (And.intro (H2.out.2.1.below hb3 (Nat.le_refl _)) (And.intro hl3 (Bthen H2.out.2.2 hb3))))
  clear hl3 hb3 hw3 ha3 H2
  go_wp2_with fail
  obtain ⟨L, hL⟩ : ∃ q, q = ([⟨a1, 1, tx0⟩, ⟨a2, 1, tx1⟩, ⟨a3, 1, tx2⟩] : List SE) := ⟨_, rfl⟩
  have hll : ∀ x ∈ L, Ll w3 x.la x.lc x.e.lab := by
    rw [hL]
    simp only [List.mem_cons, List.not_mem_nil, or_false]
    rintro x (rfl | rfl | rfl)
    · exact H3.out.1
    · exact H3.out.2.1
    · exact H3.out.2.2.1
  have hrd := RdE.new w3 L #[.slice a1 1 1, .bool false, .int .u64 1023, .bool false, .int .i64 0, .int .i64 20, .slice a2 1 1, .bool true, .int .u64 0, .bool false, .int .i64 0, .int .i64 7, .slice a3 1 1, .bool false, .int .u64 18446744073709551615, .bool true, .int .i64 (-77), .int .i64 0] (by rw [hL]; rfl) hll
  have hok : ∀ x ∈ L, TxOk x.e := by
    rw [hL]
    simp only [List.mem_cons, List.not_mem_nil, or_false]
    rintro x (rfl | rfl | rfl)
    · exact tx0_ok
    · exact tx1_ok
    · exact tx2_ok
  have hlen : L.length = 3 := by rw [hL]; rfl
  obtain ⟨w4, hw4⟩ : ∃ q, q = w3.alloc (.cells #[.slice a1 1 1, .bool false, .int .u64 1023, .bool false, .int .i64 0, .int .i64 20, .slice a2 1 1, .bool true, .int .u64 0, .bool false, .int .i64 0, .int .i64 7, .slice a3 1 1, .bool false, .int .u64 18446744073709551615, .bool true, .int .i64 (-77), .int .i64 0] 34) := ⟨_, rfl⟩
  have hb4 : Below w3.heap.size w3 w4 := by rw [hw4]; exact (Below.refl _ _).alloc (Nat.le_refl _) _
  obtain ⟨b4, hb4'⟩ : ∃ q, q = w3.heap.size := ⟨_, rfl⟩
  rw [← hw4, ← hb4'] at hrd
  rw [← hw4, ← hb4']
  have H4 := Lib.hid (And.intro hrd (And.intro hok (Bthen H3.out.2.2.2 hb4)))
  clear hrd hok hb4 hw4 hb4' hll hL H3
  go_loopw [16] (fun i wr => ∃ j : Nat, j ≤ 3 ∧ i = .int .i64 j ∧ Below w4.heap.size w4 wr) (fun i _ => 3 - (intOf i).toNat)
  case atStart => exact ⟨0, by omega, rfl, Below.refl _ _⟩
  case round =>
    obtain ⟨j, hj, rfl, hb⟩ := hrel
    obtain ⟨w5, hw5⟩ : ∃ q, q = wr := ⟨_, rfl⟩
    subst hw5
    have H5 := Lib.hid hb
    have hs5 := hb.size
    clear hb
    by_cases hlt : j < 3
    · obtain ⟨x, hx⟩ : ∃ x, L[j]? = some x := ⟨_, List.getElem?_eq_getElem (by omega)⟩
      obtain ⟨b, off, e, hbl, ht, hc⟩ := (H4.out.1.below H5.out (Nat.le_refl _)).at_ hx
      cases e
      simp only [Nat.zero_add] at hc
      have d3 : decide ((j : Int) < 3) = true := decide_eq_true (by omega)
      have hxm := List.mem_of_getElem? hx
      have HX := Lib.hid (And.intro (H4.out.2.1 x hxm) ((H4.out.1.below H5.out (Nat.le_refl _)).lab x hxm))
      have c0 := hc 0 _ rfl
      rw [Nat.add_zero] at c0
      have c1 := hc 1 _ rfl
      have c2 := hc 2 _ rfl
      have c3 := hc 3 _ rfl
      have c4 := hc 4 _ rfl
      have c5 := hc 5 _ rfl
      clear hc hx hxm ht
      go_wp2_with fail
      go_at_call 26
      obtain ⟨w6, hw6⟩ : ∃ q, q = w5.alloc (.cells #[.slice x.la x.e.lab.length x.lc, .bool x.e.mark, .int .u64 x.e.bits, .bool x.e.st, .int .i64 x.e.time, .int .i64 x.e.stamp] 34) := ⟨_, rfl⟩
      have hb6 : Below w5.heap.size w5 w6 := by rw [hw6]; exact (Below.refl _ _).alloc (Nat.le_refl _) _
      rw [← hw6]
      have H6 := Lib.hid (And.intro (HX.out.2.below hb6 (Nat.le_refl _)) (Bthen H5.out hb6))
      clear hw6 hb6 c0 c1 c2 c3 c4 c5 d3
      refine (theirs_calls K x.la x.e.lab.length x.lc x.e.mark x.e.st x.e.bits x.e.time x.e.stamp w6).mono ?_
      rintro e w7 ⟨rfl, hb7⟩
      have H7 := Lib.hid (And.intro (H6.out.1.below hb7 (Nat.le_refl _)) (Bthen H6.out.2 hb7))
      clear hb7 H6
      go_wp2_with fail
      go_at_call 25
      have hcall := rtext_calls K x.la x.lc x.e w7 hKs H7.out.1.rd (by have := HX.out.1.ln; omega) HX.out.1.sz HX.out.1.rg
      obtain ⟨t, htx⟩ : ∃ t : ByteArray, t = ⟨(textT (d K) x.e).toArray⟩ := ⟨_, rfl⟩
      have hts : t.size ≤ 1000 := by
        have h1 := HX.out.1.tl
        rw [← HK.out] at h1
        rw [htx]
        show (textT (d K) x.e).toArray.size ≤ 1000
        rw [List.size_toArray]
        exact h1
      have hte : textErr (d K) x.e = 0 := by rw [HK.out]; exact HX.out.1.er
      rw [← htx, hte] at hcall
      clear htx hte
      refine hcall.mono ?_
      clear hcall
      rintro e w8 ⟨rfl, hb8⟩
      have H8 := Lib.hid (Bthen H7.out.2 hb8)
      have HW4 : Hid (Below w.heap.size w w8) := Lib.hid (Bthen H4.out.2.2 H8.out)
      clear hb8 H7
      go_wp2_with fail
      go_loopw [7] (fun i wr => ∃ m : Nat, m ≤ t.size + 1 ∧ i = .int .i64 m ∧ Below w8.heap.size w8 wr) (fun i _ => t.size + 1 - (intOf i).toNat)
      case atStart => exact ⟨0, by omega, rfl, Below.refl _ _⟩
      case round =>
        obtain ⟨m, hm, rfl, hb⟩ := hrel
        obtain ⟨w9, hw9⟩ : ∃ q, q = wr := ⟨_, rfl⟩
        subst hw9
        have H9 := Lib.hid hb
        clear hb
        by_cases hmt : m ≤ t.size
        · have hd1 : decide ((m : Int) ≤ (t.size : Int)) = true := decide_eq_true (by omega)
          go_wp2_with fail
          obtain ⟨w10, hw10⟩ : ∃ q, q = w9.alloc (.cells #[.string ⟨#[32]⟩, .string ⟨#[48]⟩, .string ⟨#[45]⟩, .string ⟨#[37]⟩, .string ⟨#[97]⟩, .string ⟨#[70]⟩, .string ⟨#[37, 52, 49]⟩] 9) := ⟨_, rfl⟩
          obtain ⟨b9, hb9⟩ : ∃ q, q = w9.heap.size := ⟨_, rfl⟩
          have hb10 : Below w9.heap.size w9 w10 := by rw [hw10]; exact (Below.refl _ _).alloc (Nat.le_refl _) _
          have hrow : w10.heap[b9]? = some (.cells (chgL.map Value.string).toArray 9 (0, 0)) := by rw [hw10, hb9]; exact heap_alloc_new w9 _
          rw [← hw10, ← hb9]
          have H10 := Lib.hid (And.intro hrow (Bthen H9.out hb10))
          have HW10 := Lib.hid (Bthen HW4.out (Bthen H9.out hb10))
          clear hw10 hb9 hb10 hrow hd1
          have hmn : (m : Int) ≤ (t.size : Int) := by omega
          have hm0 : (0 : Int) ≤ (m : Int) := by omega
          have htI : (t.size : Int) ≤ 1000 := by omega
          go_loopw [38] (fun i wr => ∃ n : Nat, n ≤ 7 ∧ i = .int .i64 n ∧ Below w10.heap.size w10 wr) (fun i _ => 7 - (intOf i).toNat)
          case atStart => exact ⟨0, by omega, rfl, Below.refl _ _⟩
          case round =>
            obtain ⟨n, hn, rfl, hb⟩ := hrel
            obtain ⟨w11, hw11⟩ : ∃ q, q = wr := ⟨_, rfl⟩
            subst hw11
            have H11 := Lib.hid (And.intro ((hb.block _ (isT_of H10.out.1).lt).trans H10.out.1) hb)
            have HW11 := Lib.hid (Bthen HW10.out hb)
            clear hb
            by_cases hn7 : n < 7
            · obtain ⟨c, hc⟩ : ∃ c, chgL[n]? = some c := ⟨_, List.getElem?_eq_getElem hn7⟩
              have hcs := chgL_small c (List.mem_of_getElem? hc)
              have hcell : w11.cell? ⟨b9, n, none⟩ = some (.string c) := block_cell H11.out.1 n _ (by rw [List.getElem?_toArray, List.getElem?_map, hc]; rfl)
              have hbl := (isT_of H11.out.1).lt
              have dn : decide ((n : Int) < 7) = true := decide_eq_true (by omega)
              clear hc
              have hadd : ∀ (x y : ByteArray), x.size + y.size ≤ 4000 → ∀ W, (Op.stringOp .add x y).run Tryz.prog W = .ok (.string (x ++ y)) W := fun x y h W => run_string_add_sum W x y (by omega)
              have hz0 : (t.extract 0 m).size ≤ 1000 := by rw [ByteArray.size_extract]; omega
              have hz2 : (t.extract (m + 1) t.size).size ≤ 1000 := by rw [ByteArray.size_extract]; omega
              have hz1 : (t.extract m t.size).size ≤ 1000 := by rw [ByteArray.size_extract]; omega
              have hz3 : (t.extract 0 m ++ c).size ≤ 1003 := by rw [ByteArray.size_append]; omega
              have ha1 := hadd (t.extract 0 m) c (by omega)
              have ha2 := hadd (t.extract 0 m ++ c) (t.extract m t.size) (by omega)
              have ha3 := hadd (t.extract 0 m ++ c) (t.extract (m + 1) t.size) (by omega)
              have g1 : IntKind.i64.wrap ((m : Int) + 1) = (m : Int) + 1 := IntWalk.i64_in _ (by omega)
              have g2 : ((m : Int) + 1).toNat = m + 1 := by omega
              clear hz0 hz1 hz2 hz3 hadd
              by_cases hlt2 : m < t.size
              · have dm : decide (m < t.size) = true := decide_eq_true hlt2
                have dm1 : (m : Int) + 1 ≤ (t.size : Int) := by omega
                go_wp2_with fail
                go_region_held_law (fun _ => True) (trivial)
                  (first
                    | (go_at_call 27
                       refine at_worldR ?_
                       intro W1 hW1
                       have hb1 : Below w11.heap.size w11 W1 := by rw [hW1]; first | exact Below.refl _ _ | exact (Below.refl _ _).drew | exact hA | exact hA.drew
                       clear hW1
                       refine (reads_calls _ W1 (HE.out.1.below (Bthen HW11.out hb1)) (HE.out.2.below (Bthen HW11.out hb1))).mono ?_
                       rintro e wA ⟨rfl, hbA⟩
                       have hA : Below w11.heap.size w11 wA := Bthen hb1 hbA
                       clear hb1 hbA))
                all_goals
                  have HA := Lib.hid hA
                  clear hA
                  go_wp2_with fail
                  go_roundw
                  case rel => exact ⟨n + 1, by omega, by go_num, Bthen H11.out.2 HA.out⟩
                  case measure => simp [intOf]; omega
              · have dm : decide (m < t.size) = false := decide_eq_false hlt2
                clear ha3
                go_wp2_with fail
                refine wp_region_held_drew (S := fun _ : World => True) (by kernel_rfl) ?_ (fun hHeld => ?_)
                · trivial
                refine wpAnyH_take (i := 0) (oi := ⟨_, _, _, _, _, _⟩) (v := _) rfl (by kernel_rfl) (by kernel_rfl) (by kernel_rfl) (fun _ _ _ h => h) (Or.inl ⟨by rfl, by intro wq hSw; (try dsimp only at hSw); go_simp; (try with_reducible rfl)⟩) (by assumption) ?_
                try simp only [Act.put, List.setIfInBounds_toArray, List.set_cons_zero, List.set_cons_succ]
                refine wpAnyH_take (i := 1) (oi := ⟨_, _, _, _, _, _⟩) (v := _) rfl (by kernel_rfl) (by kernel_rfl) (by kernel_rfl) (fun _ _ _ h => h) (Or.inl ⟨by rfl, by intro wq hSw; (try dsimp only at hSw); go_simp; (try with_reducible rfl)⟩) (by assumption) ?_
                try simp only [Act.put, List.setIfInBounds_toArray, List.set_cons_zero, List.set_cons_succ]
                refine wpAnyH_take (i := 2) (oi := ⟨_, _, _, _, _, _⟩) (v := _) rfl (by kernel_rfl) (by kernel_rfl) (by kernel_rfl) (fun _ _ _ h => h) (Or.inl ⟨by rfl, by intro wq hSw; (try dsimp only at hSw); go_simp; (try with_reducible rfl)⟩) (by assumption) ?_
                try simp only [Act.put, List.setIfInBounds_toArray, List.set_cons_zero, List.set_cons_succ]
                refine wpAnyH_take (i := 3) (oi := ⟨_, _, _, _, _, _⟩) (v := _) rfl (by kernel_rfl) (by kernel_rfl) (by kernel_rfl) (fun _ _ _ h => h) (Or.inl ⟨by rfl, by intro wq hSw; (try dsimp only at hSw); go_simp; (try with_reducible rfl)⟩) (by assumption) ?_
                try simp only [Act.put, List.setIfInBounds_toArray, List.set_cons_zero, List.set_cons_succ]
                refine wpAnyH_take (i := 4) (oi := ⟨_, _, _, _, _, _⟩) (v := _) rfl (by kernel_rfl) (by kernel_rfl) (by kernel_rfl) (fun _ _ _ h => h) (Or.inl ⟨by rfl, by intro wq hSw; (try dsimp only at hSw); go_simp; (try with_reducible rfl)⟩) (by assumption) ?_
                try simp only [Act.put, List.setIfInBounds_toArray, List.set_cons_zero, List.set_cons_succ]
                refine wpAnyH_take (i := 5) (oi := ⟨_, _, _, _, _, _⟩) (v := _) rfl (by kernel_rfl) (by kernel_rfl) (by kernel_rfl) (fun _ _ _ h => h) (Or.inl ⟨by rfl, by intro wq hSw; (try dsimp only at hSw); go_simp; (try with_reducible rfl)⟩) (by assumption) ?_
                try simp only [Act.put, List.setIfInBounds_toArray, List.set_cons_zero, List.set_cons_succ]
                refine wpAnyH_take (i := 6) (oi := ⟨_, _, _, _, _, _⟩) (v := _) rfl (by kernel_rfl) (by kernel_rfl) (by kernel_rfl) (fun _ _ _ h => h) (Or.inl ⟨by rfl, by intro wq hSw; (try dsimp only at hSw); go_simp; (try with_reducible rfl)⟩) (by assumption) ?_
                try simp only [Act.put, List.setIfInBounds_toArray, List.set_cons_zero, List.set_cons_succ]
                refine wpAnyH_take (i := 7) (oi := ⟨_, _, _, _, _, _⟩) (v := _) rfl (by kernel_rfl) (by kernel_rfl) (by kernel_rfl) (fun _ _ _ h => h) (Or.inl ⟨by rfl, by intro wq hSw; (try dsimp only at hSw); go_simp; (try with_reducible rfl)⟩) (by assumption) ?_
                try simp only [Act.put, List.setIfInBounds_toArray, List.set_cons_zero, List.set_cons_succ]
                refine wpAnyH_take (i := 8) (oi := ⟨_, _, _, _, _, _⟩) (v := _) rfl (by kernel_rfl) (by kernel_rfl) (by kernel_rfl) (fun _ _ _ h => h) (Or.inl ⟨by rfl, by intro wq hSw; (try dsimp only at hSw); go_simp; (try with_reducible rfl)⟩) (by assumption) ?_
                try simp only [Act.put, List.setIfInBounds_toArray, List.set_cons_zero, List.set_cons_succ]
                refine wpAnyH_ready (rs := [9]) (by kernel_rfl) (by simp) ?_
                refine AllReadyH.cons (o := ⟨_, _, _, _, _, _⟩) rfl (fun K hK => ?_) AllReadyH.nil
                go_simp
                go_at_call 27
                refine at_worldR ?_
                intro W1 hW1
                have hb1 : Below w11.heap.size w11 W1 := by rw [hW1]; first | exact Below.refl _ _ | exact (Below.refl _ _).drew
                clear hW1
                refine (reads_calls _ W1 (HE.out.1.below (Bthen HW11.out hb1)) (HE.out.2.below (Bthen HW11.out hb1))).mono ?_
                rintro e wA ⟨rfl, hbA⟩
                have hA : Below w11.heap.size w11 wA := Bthen hb1 hbA
                clear hb1 hbA
                dsimp only
                refine hK.out _ _ ?_ (fun hHeld => ?_)
                · trivial
                clear hK K
                try simp only [Act.put, List.setIfInBounds_toArray, List.set_cons_zero, List.set_cons_succ]
                refine wpAnyH_take (i := 10) (oi := ⟨_, _, _, _, _, _⟩) (v := _) rfl (by kernel_rfl) (by kernel_rfl) (by kernel_rfl) (fun _ _ _ h => h) (Or.inl ⟨by rfl, by intro wq hSw; (try dsimp only at hSw); go_simp; (try with_reducible rfl)⟩) (by assumption) ?_
                try simp only [Act.put, List.setIfInBounds_toArray, List.set_cons_zero, List.set_cons_succ]
                refine wpAnyH_take (i := 11) (oi := ⟨_, _, _, _, _, _⟩) (v := _) rfl (by kernel_rfl) (by kernel_rfl) (by kernel_rfl) (fun _ _ _ h => h) (Or.inl ⟨by rfl, by intro wq hSw; (try dsimp only at hSw); go_simp; (try with_reducible rfl)⟩) (by assumption) ?_
                try simp only [Act.put, List.setIfInBounds_toArray, List.set_cons_zero, List.set_cons_succ]
                refine wpAnyH_take (i := 12) (oi := ⟨_, _, _, _, _, _⟩) (v := _) rfl (by kernel_rfl) (by kernel_rfl) (by kernel_rfl) (fun _ _ _ h => h) (Or.inl ⟨by rfl, by intro wq hSw; (try dsimp only at hSw); go_simp; (try with_reducible rfl)⟩) (by assumption) ?_
                try simp only [Act.put, List.setIfInBounds_toArray, List.set_cons_zero, List.set_cons_succ]
                refine wpAnyH_take (i := 13) (oi := ⟨_, _, _, _, _, _⟩) (v := _) rfl (by kernel_rfl) (by kernel_rfl) (by kernel_rfl) (fun _ _ _ h => h) (Or.inl ⟨by rfl, by intro wq hSw; (try dsimp only at hSw); go_simp; (try with_reducible rfl)⟩) (by assumption) ?_
                try simp only [Act.put, List.setIfInBounds_toArray, List.set_cons_zero, List.set_cons_succ]
                refine wpAnyH_ready (rs := [14]) (by kernel_rfl) (by simp) ?_
                refine AllReadyH.cons (o := ⟨_, _, _, _, _, _⟩) rfl (fun K hK => ?_) AllReadyH.nil
                go_simp
                refine hK.out _ _ ?_ (fun hHeld => ?_)
                · trivial
                clear hK K
                try simp only [Act.put, List.setIfInBounds_toArray, List.set_cons_zero, List.set_cons_succ]
                refine wpAnyH_take (i := 15) (oi := ⟨_, _, _, _, _, _⟩) (v := _) rfl (by kernel_rfl) (by kernel_rfl) (by kernel_rfl) (fun _ _ _ h => h) (Or.inl ⟨by rfl, by intro wq hSw; (try dsimp only at hSw); go_simp; (try with_reducible rfl)⟩) (by assumption) ?_
                try simp only [Act.put, List.setIfInBounds_toArray, List.set_cons_zero, List.set_cons_succ]
                refine wpAnyH_take (i := 16) (oi := ⟨_, _, _, _, _, _⟩) (v := _) rfl (by kernel_rfl) (by kernel_rfl) (by kernel_rfl) (fun _ _ _ h => h) (Or.inl ⟨by rfl, by intro wq hSw; (try dsimp only at hSw); go_simp; (try with_reducible rfl)⟩) (by assumption) ?_
                try simp only [Act.put, List.setIfInBounds_toArray, List.set_cons_zero, List.set_cons_succ]
                refine wpAnyH_take (i := 17) (oi := ⟨_, _, _, _, _, _⟩) (v := undef) rfl (by kernel_rfl) (by kernel_rfl) (by kernel_rfl) (fun _ _ _ h => h) (Or.inr ⟨by rfl, rfl⟩) (by assumption) ?_
                try simp only [Act.put, List.setIfInBounds_toArray, List.set_cons_zero, List.set_cons_succ]
                refine wpAnyH_take (i := 18) (oi := ⟨_, _, _, _, _, _⟩) (v := undef) rfl (by kernel_rfl) (by kernel_rfl) (by kernel_rfl) (fun _ _ _ h => h) (Or.inr ⟨by rfl, rfl⟩) (by assumption) ?_
                try simp only [Act.put, List.setIfInBounds_toArray, List.set_cons_zero, List.set_cons_succ]
                refine wpAnyH_take (i := 19) (oi := ⟨_, _, _, _, _, _⟩) (v := undef) rfl (by kernel_rfl) (by kernel_rfl) (by kernel_rfl) (fun _ _ _ h => h) (Or.inr ⟨by rfl, rfl⟩) (by assumption) ?_
                try simp only [Act.put, List.setIfInBounds_toArray, List.set_cons_zero, List.set_cons_succ]
                refine wpAnyH_take (i := 20) (oi := ⟨_, _, _, _, _, _⟩) (v := undef) rfl (by kernel_rfl) (by kernel_rfl) (by kernel_rfl) (fun _ _ _ h => h) (Or.inr ⟨by rfl, rfl⟩) (by assumption) ?_
                try simp only [Act.put, List.setIfInBounds_toArray, List.set_cons_zero, List.set_cons_succ]
                refine wpAnyH_take (i := 21) (oi := ⟨_, _, _, _, _, _⟩) (v := undef) rfl (by kernel_rfl) (by kernel_rfl) (by kernel_rfl) (fun _ _ _ h => h) (Or.inr ⟨by rfl, rfl⟩) (by assumption) ?_
                try simp only [Act.put, List.setIfInBounds_toArray, List.set_cons_zero, List.set_cons_succ]
                refine wpAnyH_take (i := 22) (oi := ⟨_, _, _, _, _, _⟩) (v := undef) rfl (by kernel_rfl) (by kernel_rfl) (by kernel_rfl) (fun _ _ _ h => h) (Or.inr ⟨by rfl, rfl⟩) (by assumption) ?_
                try simp only [Act.put, List.setIfInBounds_toArray, List.set_cons_zero, List.set_cons_succ]
                refine wpAnyH_take (i := 23) (oi := ⟨_, _, _, _, _, _⟩) (v := undef) rfl (by kernel_rfl) (by kernel_rfl) (by kernel_rfl) (fun _ _ _ h => h) (Or.inr ⟨by rfl, rfl⟩) (by assumption) ?_
                try simp only [Act.put, List.setIfInBounds_toArray, List.set_cons_zero, List.set_cons_succ]
                refine wpAnyH_take (i := 24) (oi := ⟨_, _, _, _, _, _⟩) (v := undef) rfl (by kernel_rfl) (by kernel_rfl) (by kernel_rfl) (fun _ _ _ h => h) (Or.inr ⟨by rfl, rfl⟩) (by assumption) ?_
                try simp only [Act.put, List.setIfInBounds_toArray, List.set_cons_zero, List.set_cons_succ]
                refine wpAnyH_take (i := 25) (oi := ⟨_, _, _, _, _, _⟩) (v := undef) rfl (by kernel_rfl) (by kernel_rfl) (by kernel_rfl) (fun _ _ _ h => h) (Or.inr ⟨by rfl, rfl⟩) (by assumption) ?_
                try simp only [Act.put, List.setIfInBounds_toArray, List.set_cons_zero, List.set_cons_succ]
                refine wpAnyH_take (i := 26) (oi := ⟨_, _, _, _, _, _⟩) (v := undef) rfl (by kernel_rfl) (by kernel_rfl) (by kernel_rfl) (fun _ _ _ h => h) (Or.inr ⟨by rfl, rfl⟩) (by assumption) ?_
                try simp only [Act.put, List.setIfInBounds_toArray, List.set_cons_zero, List.set_cons_succ]
                refine wpAnyH_take (i := 27) (oi := ⟨_, _, _, _, _, _⟩) (v := undef) rfl (by kernel_rfl) (by kernel_rfl) (by kernel_rfl) (fun _ _ _ h => h) (Or.inr ⟨by rfl, rfl⟩) (by assumption) ?_
                try simp only [Act.put, List.setIfInBounds_toArray, List.set_cons_zero, List.set_cons_succ]
                refine wpAnyH_take (i := 28) (oi := ⟨_, _, _, _, _, _⟩) (v := undef) rfl (by kernel_rfl) (by kernel_rfl) (by kernel_rfl) (fun _ _ _ h => h) (Or.inr ⟨by rfl, rfl⟩) (by assumption) ?_
                try simp only [Act.put, List.setIfInBounds_toArray, List.set_cons_zero, List.set_cons_succ]
                refine wpAnyH_take (i := 29) (oi := ⟨_, _, _, _, _, _⟩) (v := _) rfl (by kernel_rfl) (by kernel_rfl) (by kernel_rfl) (fun _ _ _ h => h) (Or.inl ⟨by rfl, by intro wq hSw; (try dsimp only at hSw); go_simp; (try with_reducible rfl)⟩) (by assumption) ?_
                try simp only [Act.put, List.setIfInBounds_toArray, List.set_cons_zero, List.set_cons_succ]
                refine wpAnyH_take (i := 30) (oi := ⟨_, _, _, _, _, _⟩) (v := _) rfl (by kernel_rfl) (by kernel_rfl) (by kernel_rfl) (fun _ _ _ h => h) (Or.inl ⟨by rfl, by intro wq hSw; (try dsimp only at hSw); go_simp; (try with_reducible rfl)⟩) (by assumption) ?_
                try simp only [Act.put, List.setIfInBounds_toArray, List.set_cons_zero, List.set_cons_succ]
                refine wpAnyH_done (by kernel_rfl) ?_ _
                skip
                all_goals
                  have HA := Lib.hid hA
                  clear hA
                  go_wp2_with fail
                  go_roundw
                  case rel => exact ⟨n + 1, by omega, by go_num, Bthen H11.out.2 HA.out⟩
                  case measure => simp [intOf]; omega
            · obtain rfl : n = 7 := by omega
              have hadd : ∀ (x y : ByteArray), x.size + y.size ≤ 4000 → ∀ W, (Op.stringOp .add x y).run Tryz.prog W = .ok (.string (x ++ y)) W := fun x y h W => run_string_add_sum W x y (by omega)
              have hz0 : (t.extract 0 m).size ≤ 1000 := by rw [ByteArray.size_extract]; omega
              have hz2 : (t.extract (m + 1) t.size).size ≤ 1000 := by rw [ByteArray.size_extract]; omega
              have ha1 := hadd (t.extract 0 m) (t.extract (m + 1) t.size) (by omega)
              have g1 : IntKind.i64.wrap ((m : Int) + 1) = (m : Int) + 1 := IntWalk.i64_in _ (by omega)
              have g2 : ((m : Int) + 1).toNat = m + 1 := by omega
              clear hz0 hz2 hadd
              by_cases hlt2 : m < t.size
              · have dm : decide (m < t.size) = true := decide_eq_true hlt2
                have dm1 : (m : Int) + 1 ≤ (t.size : Int) := by omega
                go_wp2_with fail
                go_region_held_law (fun _ => True) (trivial)
                  (first
                    | (go_at_call 27
                       refine at_worldR ?_
                       intro W1 hW1
                       have hb1 : Below w11.heap.size w11 W1 := by rw [hW1]; first | exact Below.refl _ _ | exact (Below.refl _ _).drew | exact hA | exact hA.drew
                       clear hW1
                       refine (reads_calls _ W1 (HE.out.1.below (Bthen HW11.out hb1)) (HE.out.2.below (Bthen HW11.out hb1))).mono ?_
                       rintro e wA ⟨rfl, hbA⟩
                       have hA : Below w11.heap.size w11 wA := Bthen hb1 hbA
                       clear hb1 hbA))
                all_goals
                  have HA := Lib.hid hA
                  clear hA
                  go_wp2_with fail
                  go_roundw
                  case rel => exact ⟨m + 1, by omega, by go_num, Bthen H10.out.2 (Bthen H11.out.2 HA.out)⟩
                  case measure => simp [intOf]; omega
              · have dm : decide (m < t.size) = false := decide_eq_false hlt2
                clear ha1
                go_wp2_with fail
                refine wp_region_held_drew (S := fun _ : World => True) (by kernel_rfl) ?_ (fun hHeld => ?_)
                · trivial
                refine wpAnyH_take (i := 0) (oi := ⟨_, _, _, _, _, _⟩) (v := _) rfl (by kernel_rfl) (by kernel_rfl) (by kernel_rfl) (fun _ _ _ h => h) (Or.inl ⟨by rfl, by intro wq hSw; (try dsimp only at hSw); go_simp; (try with_reducible rfl)⟩) (by assumption) ?_
                try simp only [Act.put, List.setIfInBounds_toArray, List.set_cons_zero, List.set_cons_succ]
                refine wpAnyH_take (i := 1) (oi := ⟨_, _, _, _, _, _⟩) (v := _) rfl (by kernel_rfl) (by kernel_rfl) (by kernel_rfl) (fun _ _ _ h => h) (Or.inl ⟨by rfl, by intro wq hSw; (try dsimp only at hSw); go_simp; (try with_reducible rfl)⟩) (by assumption) ?_
                try simp only [Act.put, List.setIfInBounds_toArray, List.set_cons_zero, List.set_cons_succ]
                refine wpAnyH_take (i := 2) (oi := ⟨_, _, _, _, _, _⟩) (v := _) rfl (by kernel_rfl) (by kernel_rfl) (by kernel_rfl) (fun _ _ _ h => h) (Or.inl ⟨by rfl, by intro wq hSw; (try dsimp only at hSw); go_simp; (try with_reducible rfl)⟩) (by assumption) ?_
                try simp only [Act.put, List.setIfInBounds_toArray, List.set_cons_zero, List.set_cons_succ]
                refine wpAnyH_ready (rs := [3]) (by kernel_rfl) (by simp) ?_
                refine AllReadyH.cons (o := ⟨_, _, _, _, _, _⟩) rfl (fun K hK => ?_) AllReadyH.nil
                go_simp
                go_at_call 27
                refine at_worldR ?_
                intro W1 hW1
                have hb1 : Below w11.heap.size w11 W1 := by rw [hW1]; first | exact Below.refl _ _ | exact (Below.refl _ _).drew
                clear hW1
                refine (reads_calls _ W1 (HE.out.1.below (Bthen HW11.out hb1)) (HE.out.2.below (Bthen HW11.out hb1))).mono ?_
                rintro e wA ⟨rfl, hbA⟩
                have hA : Below w11.heap.size w11 wA := Bthen hb1 hbA
                clear hb1 hbA
                dsimp only
                refine hK.out _ _ ?_ (fun hHeld => ?_)
                · trivial
                clear hK K
                try simp only [Act.put, List.setIfInBounds_toArray, List.set_cons_zero, List.set_cons_succ]
                refine wpAnyH_take (i := 4) (oi := ⟨_, _, _, _, _, _⟩) (v := _) rfl (by kernel_rfl) (by kernel_rfl) (by kernel_rfl) (fun _ _ _ h => h) (Or.inl ⟨by rfl, by intro wq hSw; (try dsimp only at hSw); go_simp; (try with_reducible rfl)⟩) (by assumption) ?_
                try simp only [Act.put, List.setIfInBounds_toArray, List.set_cons_zero, List.set_cons_succ]
                refine wpAnyH_take (i := 5) (oi := ⟨_, _, _, _, _, _⟩) (v := _) rfl (by kernel_rfl) (by kernel_rfl) (by kernel_rfl) (fun _ _ _ h => h) (Or.inl ⟨by rfl, by intro wq hSw; (try dsimp only at hSw); go_simp; (try with_reducible rfl)⟩) (by assumption) ?_
                try simp only [Act.put, List.setIfInBounds_toArray, List.set_cons_zero, List.set_cons_succ]
                refine wpAnyH_take (i := 6) (oi := ⟨_, _, _, _, _, _⟩) (v := _) rfl (by kernel_rfl) (by kernel_rfl) (by kernel_rfl) (fun _ _ _ h => h) (Or.inl ⟨by rfl, by intro wq hSw; (try dsimp only at hSw); go_simp; (try with_reducible rfl)⟩) (by assumption) ?_
                try simp only [Act.put, List.setIfInBounds_toArray, List.set_cons_zero, List.set_cons_succ]
                refine wpAnyH_take (i := 7) (oi := ⟨_, _, _, _, _, _⟩) (v := _) rfl (by kernel_rfl) (by kernel_rfl) (by kernel_rfl) (fun _ _ _ h => h) (Or.inl ⟨by rfl, by intro wq hSw; (try dsimp only at hSw); go_simp; (try with_reducible rfl)⟩) (by assumption) ?_
                try simp only [Act.put, List.setIfInBounds_toArray, List.set_cons_zero, List.set_cons_succ]
                refine wpAnyH_ready (rs := [8]) (by kernel_rfl) (by simp) ?_
                refine AllReadyH.cons (o := ⟨_, _, _, _, _, _⟩) rfl (fun K hK => ?_) AllReadyH.nil
                go_simp
                refine hK.out _ _ ?_ (fun hHeld => ?_)
                · trivial
                clear hK K
                try simp only [Act.put, List.setIfInBounds_toArray, List.set_cons_zero, List.set_cons_succ]
                refine wpAnyH_take (i := 9) (oi := ⟨_, _, _, _, _, _⟩) (v := _) rfl (by kernel_rfl) (by kernel_rfl) (by kernel_rfl) (fun _ _ _ h => h) (Or.inl ⟨by rfl, by intro wq hSw; (try dsimp only at hSw); go_simp; (try with_reducible rfl)⟩) (by assumption) ?_
                try simp only [Act.put, List.setIfInBounds_toArray, List.set_cons_zero, List.set_cons_succ]
                refine wpAnyH_take (i := 10) (oi := ⟨_, _, _, _, _, _⟩) (v := _) rfl (by kernel_rfl) (by kernel_rfl) (by kernel_rfl) (fun _ _ _ h => h) (Or.inl ⟨by rfl, by intro wq hSw; (try dsimp only at hSw); go_simp; (try with_reducible rfl)⟩) (by assumption) ?_
                try simp only [Act.put, List.setIfInBounds_toArray, List.set_cons_zero, List.set_cons_succ]
                refine wpAnyH_take (i := 11) (oi := ⟨_, _, _, _, _, _⟩) (v := undef) rfl (by kernel_rfl) (by kernel_rfl) (by kernel_rfl) (fun _ _ _ h => h) (Or.inr ⟨by rfl, rfl⟩) (by assumption) ?_
                try simp only [Act.put, List.setIfInBounds_toArray, List.set_cons_zero, List.set_cons_succ]
                refine wpAnyH_take (i := 12) (oi := ⟨_, _, _, _, _, _⟩) (v := undef) rfl (by kernel_rfl) (by kernel_rfl) (by kernel_rfl) (fun _ _ _ h => h) (Or.inr ⟨by rfl, rfl⟩) (by assumption) ?_
                try simp only [Act.put, List.setIfInBounds_toArray, List.set_cons_zero, List.set_cons_succ]
                refine wpAnyH_take (i := 13) (oi := ⟨_, _, _, _, _, _⟩) (v := undef) rfl (by kernel_rfl) (by kernel_rfl) (by kernel_rfl) (fun _ _ _ h => h) (Or.inr ⟨by rfl, rfl⟩) (by assumption) ?_
                try simp only [Act.put, List.setIfInBounds_toArray, List.set_cons_zero, List.set_cons_succ]
                refine wpAnyH_take (i := 14) (oi := ⟨_, _, _, _, _, _⟩) (v := undef) rfl (by kernel_rfl) (by kernel_rfl) (by kernel_rfl) (fun _ _ _ h => h) (Or.inr ⟨by rfl, rfl⟩) (by assumption) ?_
                try simp only [Act.put, List.setIfInBounds_toArray, List.set_cons_zero, List.set_cons_succ]
                refine wpAnyH_take (i := 15) (oi := ⟨_, _, _, _, _, _⟩) (v := undef) rfl (by kernel_rfl) (by kernel_rfl) (by kernel_rfl) (fun _ _ _ h => h) (Or.inr ⟨by rfl, rfl⟩) (by assumption) ?_
                try simp only [Act.put, List.setIfInBounds_toArray, List.set_cons_zero, List.set_cons_succ]
                refine wpAnyH_take (i := 16) (oi := ⟨_, _, _, _, _, _⟩) (v := undef) rfl (by kernel_rfl) (by kernel_rfl) (by kernel_rfl) (fun _ _ _ h => h) (Or.inr ⟨by rfl, rfl⟩) (by assumption) ?_
                try simp only [Act.put, List.setIfInBounds_toArray, List.set_cons_zero, List.set_cons_succ]
                refine wpAnyH_take (i := 17) (oi := ⟨_, _, _, _, _, _⟩) (v := undef) rfl (by kernel_rfl) (by kernel_rfl) (by kernel_rfl) (fun _ _ _ h => h) (Or.inr ⟨by rfl, rfl⟩) (by assumption) ?_
                try simp only [Act.put, List.setIfInBounds_toArray, List.set_cons_zero, List.set_cons_succ]
                refine wpAnyH_take (i := 18) (oi := ⟨_, _, _, _, _, _⟩) (v := undef) rfl (by kernel_rfl) (by kernel_rfl) (by kernel_rfl) (fun _ _ _ h => h) (Or.inr ⟨by rfl, rfl⟩) (by assumption) ?_
                try simp only [Act.put, List.setIfInBounds_toArray, List.set_cons_zero, List.set_cons_succ]
                refine wpAnyH_take (i := 19) (oi := ⟨_, _, _, _, _, _⟩) (v := undef) rfl (by kernel_rfl) (by kernel_rfl) (by kernel_rfl) (fun _ _ _ h => h) (Or.inr ⟨by rfl, rfl⟩) (by assumption) ?_
                try simp only [Act.put, List.setIfInBounds_toArray, List.set_cons_zero, List.set_cons_succ]
                refine wpAnyH_take (i := 20) (oi := ⟨_, _, _, _, _, _⟩) (v := undef) rfl (by kernel_rfl) (by kernel_rfl) (by kernel_rfl) (fun _ _ _ h => h) (Or.inr ⟨by rfl, rfl⟩) (by assumption) ?_
                try simp only [Act.put, List.setIfInBounds_toArray, List.set_cons_zero, List.set_cons_succ]
                refine wpAnyH_take (i := 21) (oi := ⟨_, _, _, _, _, _⟩) (v := _) rfl (by kernel_rfl) (by kernel_rfl) (by kernel_rfl) (fun _ _ _ h => h) (Or.inl ⟨by rfl, by intro wq hSw; (try dsimp only at hSw); go_simp; (try with_reducible rfl)⟩) (by assumption) ?_
                try simp only [Act.put, List.setIfInBounds_toArray, List.set_cons_zero, List.set_cons_succ]
                refine wpAnyH_take (i := 22) (oi := ⟨_, _, _, _, _, _⟩) (v := _) rfl (by kernel_rfl) (by kernel_rfl) (by kernel_rfl) (fun _ _ _ h => h) (Or.inl ⟨by rfl, by intro wq hSw; (try dsimp only at hSw); go_simp; (try with_reducible rfl)⟩) (by assumption) ?_
                try simp only [Act.put, List.setIfInBounds_toArray, List.set_cons_zero, List.set_cons_succ]
                refine wpAnyH_done (by kernel_rfl) ?_ _
                skip
                all_goals
                  have HA := Lib.hid hA
                  clear hA
                  go_wp2_with fail
                  go_roundw
                  case rel => exact ⟨m + 1, by omega, by go_num, Bthen H10.out.2 (Bthen H11.out.2 HA.out)⟩
                  case measure => simp [intOf]; omega
        · have hd1 : decide ((m : Int) ≤ (t.size : Int)) = false := decide_eq_false (by omega)
          have HZ := Lib.hid (Bthen H8.out H9.out)
          go_wp2_with fail
          go_roundw
          case rel => exact ⟨j + 1, by omega, by go_num, HZ.out⟩
          case measure => simp [intOf]; omega
    · obtain rfl : j = 3 := by omega
      have HZ := Lib.hid (Bthen H4.out.2.2 H5.out)
      go_wp2_with fail
      go_ret
      exact ⟨rfl, HZ.out⟩
end Go.Proofs.YtdgfldeeflmnmaaGreatDoor.Sk
namespace Go.Proofs.YtdgfldeeflmnmaaGreatDoor.Sk
open Go Go.RowKit
def remL : List Bool → Nat
  | [] => 0
  | b :: l => (if b = true then 0 else 1) + remL l
theorem remL_set : ∀ (l : List Bool) (i : Nat), l[i]? = some false → remL (l.set i true) + 1 = remL l
  | [], _, h => by simp at h
  | b :: l, 0, h => by
    have : b = false := by simpa using h
    subst this
    simp [remL, Nat.add_comm]
  | b :: l, i + 1, h => by
    have := remL_set l i (by simpa using h)
    simp only [List.set_cons_succ, remL]
    omega
theorem remL_zero : ∀ (l : List Bool), remL l = 0 → ∀ (i : Nat) (b : Bool), l[i]? = some b → b = true
  | [], _, _, _, h => by simp at h
  | c :: l, h0, 0, b, h => by
    cases c
    · simp [remL] at h0
    · simpa using h.symm
  | c :: l, h0, i + 1, b, h => by
    refine remL_zero l ?_ i b (by simpa using h)
    unfold remL at h0
    omega
theorem wpAnyH_inv {P : Program} {md : Region.Mode} {ops : Array Oper} {Q : Exit → Act → World → Prop} {S : World → Prop} (Inv : Array Bool → Act → World → Prop)
    (h0 : ∀ l a w, Inv l a w → Region.ready md ops l = [] → Q .normal a w)
    (hs : ∀ l a w, Inv l a w → ∀ i ∈ Region.ready md ops l, wpOp P ops Q i (fun a' w' => S w' ∧ Inv (l.setIfInBounds i true) a' w') a w) :
    ∀ n l a w, remL l.toList = n → Inv l a w → wpAnyH P md ops Q S n l a w
  | 0, l, a, w, hn, h => by
    have hr : Region.ready md ops l = [] := List.eq_nil_iff_forall_not_mem.2 fun i hi => by
      have h1 := (mem_ready.1 hi).1
      rcases Nat.lt_or_ge i l.size with h' | h'
      · have h2 := remL_zero l.toList hn i l[i] (by simp [h'])
        simp [h'] at h1
        rw [h1] at h2
        cases h2
      · simp [Array.getElem?_eq_none h'] at h1
    exact ⟨hr, h0 l a w h hr⟩
  | n + 1, l, a, w, hn, h => ⟨fun e => h0 l a w h e, fun i hi => wpOp_mono (fun a' w' h' => ⟨h'.1, wpAnyH_inv Inv h0 hs n _ a' w' (by
      have h1 := (mem_ready.1 hi).1
      have h' : i < l.size := by
        rcases Nat.lt_or_ge i l.size with h' | h'
        · exact h'
        · simp [Array.getElem?_eq_none h'] at h1
      have h2 := remL_set l.toList i (by simp [h'] at h1 ⊢; exact h1)
      rw [Array.toList_setIfInBounds]
      omega) h'.2⟩) (hs l a w h i hi)⟩
def zE6 : Array Value := #[.slice none 0 0, .bool false, .int .u64 0, .bool false, .int .i64 0, .int .i64 0]
theorem alloc_wp {o : Oper} (h : o.op = .alloc 34) {a : Act} {w : World} {K : Act → World → Prop} {Q : Exit → Act → World → Prop} (hK : K (a.put o.dst (.pointer (some ⟨w.heap.size, 0, none⟩))) (w.alloc (.cells zE6 34))) : o.wp Tryz.prog a w K Q := by
  obtain ⟨dst, op, ty, pos, af, gd⟩ := o
  dsimp only at h hK
  subst h
  unfold zE6 at hK
  go_simp
  exact hK
def enA (x : SE) : Array Value := #[.slice x.la x.e.lab.length x.lc, .bool x.e.mark, .int .u64 x.e.bits, .bool x.e.st, .int .i64 x.e.time, .int .i64 x.e.stamp]
def set6 (w : World) (g : Nat) (v : Array Value) : World := (((((w.setCell ⟨g, 0, none⟩ (v.getD 0 undef)).setCell ⟨g, 1, none⟩ (v.getD 1 undef)).setCell ⟨g, 2, none⟩ (v.getD 2 undef)).setCell ⟨g, 3, none⟩ (v.getD 3 undef)).setCell ⟨g, 4, none⟩ (v.getD 4 undef)).setCell ⟨g, 5, none⟩ (v.getD 5 undef)
theorem store_wp {o : Oper} {p q : Nat} (h : o.op = .store 34 (.tmp p) (.tmp q)) (hd : o.dst = none) {a : Act} {w : World} {K : Act → World → Prop} {Q : Exit → Act → World → Prop} {g : Nat} {y : SE} (hp : a.tmps[p]?.getD undef = .pointer (some ⟨g, 0, none⟩)) (hq : a.tmps[q]?.getD undef = .agg (enA y))
    (hb : w.heap[g]? = some (.cells zE6 34 (0, 0))) (hK : K a (set6 w g (enA y))) : o.wp Tryz.prog a w K Q := by
  obtain ⟨dst, op, ty, pos, af, gd⟩ := o
  dsimp only at h hd
  subst h
  subst hd
  have c0 := block_cell hb 0 _ rfl
  have c1 := block_cell hb 1 _ rfl
  have c2 := block_cell hb 2 _ rfl
  have c3 := block_cell hb 3 _ rfl
  have c4 := block_cell hb 4 _ rfl
  have c5 := block_cell hb 5 _ rfl
  have f0 := block_froz hb 0
  have f1 := block_froz hb 1
  have f2 := block_froz hb 2
  have f3 := block_froz hb 3
  have f4 := block_froz hb 4
  have f5 := block_froz hb 5
  have hlt := (isT_of hb).lt
  unfold enA at hq
  replace hK : K a ((((((w.setCell ⟨g, 0, none⟩ (.slice y.la y.e.lab.length y.lc)).setCell ⟨g, 1, none⟩ (.bool y.e.mark)).setCell ⟨g, 2, none⟩ (.int .u64 y.e.bits)).setCell ⟨g, 3, none⟩ (.bool y.e.st)).setCell ⟨g, 4, none⟩ (.int .i64 y.e.time)).setCell ⟨g, 5, none⟩ (.int .i64 y.e.stamp)) := hK
  clear hb
  go_simp
  exact hK
theorem set6_block {w : World} {g : Nat} {v : Array Value} (hb : w.heap[g]? = some (.cells zE6 34 (0, 0))) (hv : v.size = 6) : (set6 w g v).heap[g]? = some (.cells v 34 (0, 0)) := by
  obtain ⟨l⟩ := v
  match l, hv with
  | [x0, x1, x2, x3, x4, x5], _ =>
    unfold set6 World.setCell
    simp only [Array.getElem?_modify, hb]
    rfl
theorem set6_other {w : World} {g k : Nat} {v : Array Value} (h : k ≠ g) : (set6 w g v).heap[k]? = w.heap[k]? := by
  unfold set6
  iterate 5 (refine (Below.heap_setCell _ _ _ k h).trans ?_)
  exact Below.heap_setCell _ _ _ k h
theorem set6_below {w0 w : World} {g : Nat} {v : Array Value} (h : Below w0.heap.size w0 w) (hg : w0.heap.size ≤ g) : Below w0.heap.size w0 (set6 w g v) := by
  unfold set6
  iterate 6 (refine Below.setCell (p := ⟨g, _, none⟩) ?_ hg _)
  exact h
/-- a slot, before and behind its making -/
def slv (u : Value) : Option Nat → Value
  | none => u
  | some g => .pointer (some ⟨g, 0, none⟩)
def At6 (w0 w : World) (o : Option Nat) (s : Bool) (v : Array Value) : Prop := (s = true → o ≠ none) ∧ ∀ g, o = some g → w0.heap.size ≤ g ∧ w.heap[g]? = some (.cells (if s = true then v else zE6) 34 (0, 0))
def Ne6 (o p : Option Nat) : Prop := ∀ g h, o = some g → p = some h → g ≠ h
def LB6 (b5 b6 b7 b8 s5 s6 s7 s8 : Bool) : Array Bool := #[true, true, true, true, true, true, true, true, true, true, true, true, true, true, true, true, true, true, true, true, true, true, b5, b6, b7, b8, s5, s6, s7, s8]
theorem At6.alloc {w0 w : World} {o : Option Nat} {s : Bool} {v : Array Value} (h : At6 w0 w o s v) (x : Obj) : At6 w0 (w.alloc x) o s v :=
  ⟨h.1, fun g e => ⟨(h.2 g e).1, (Below.heap_alloc w x g (Array.getElem?_eq_some_iff.1 (h.2 g e).2).1).trans (h.2 g e).2⟩⟩
theorem At6.new {w0 w : World} {v : Array Value} (hw : w0.heap.size ≤ w.heap.size) : At6 w0 (w.alloc (.cells zE6 34)) (some w.heap.size) false v :=
  ⟨(fun h => by cases h), (fun g e => by cases e; exact ⟨hw, heap_alloc_new w _⟩)⟩
theorem At6.set {w0 w : World} {o p : Option Nat} {s : Bool} {v u : Array Value} {g : Nat} (h : At6 w0 w o s v) (hg : p = some g) (hn : Ne6 o p) : At6 w0 (set6 w g u) o s v :=
  ⟨h.1, fun k e => ⟨(h.2 k e).1, (set6_other (hn k g e hg)).trans (h.2 k e).2⟩⟩
theorem At6.put {w0 w : World} {g : Nat} {v : Array Value} (h : At6 w0 w (some g) false v) (hv : v.size = 6) : At6 w0 (set6 w g v) (some g) true v :=
  ⟨(fun _ => by simp), (fun k e => by cases e; exact ⟨(h.2 g rfl).1, set6_block (h.2 g rfl).2 hv⟩)⟩
theorem Ne6.new {w0 w : World} {o : Option Nat} {s : Bool} {v : Array Value} (h : At6 w0 w o s v) : Ne6 o (some w.heap.size) := fun g k e1 e2 => by
  cases e2
  have := (Array.getElem?_eq_some_iff.1 (h.2 g e1).2).1
  omega
theorem Ne6.symm {o p : Option Nat} (h : Ne6 o p) : Ne6 p o := fun g k e1 e2 e => h k g e2 e1 e.symm
def Inv6 (w0 : World) (y5 y6 y7 y8 : SE) (F : Value → Value → Value → Value → Act) (u5 u6 u7 u8 : Value) (l : Array Bool) (a : Act) (w : World) : Prop :=
  ∃ (o5 o6 o7 o8 : Option Nat) (s5 s6 s7 s8 : Bool), l = LB6 o5.isSome o6.isSome o7.isSome o8.isSome s5 s6 s7 s8 ∧ a = F (slv u5 o5) (slv u6 o6) (slv u7 o7) (slv u8 o8) ∧ (At6 w0 w o5 s5 (enA y5) ∧ At6 w0 w o6 s6 (enA y6) ∧ At6 w0 w o7 s7 (enA y7) ∧ At6 w0 w o8 s8 (enA y8)) ∧ (Ne6 o5 o6 ∧ Ne6 o5 o7 ∧ Ne6 o5 o8 ∧ Ne6 o6 o7 ∧ Ne6 o6 o8 ∧ Ne6 o7 o8) ∧ Below w0.heap.size w0 w
def rdy6 (i : Nat) (b5 b6 b7 b8 s5 s6 s7 s8 : Bool) : Bool := (decide (i = 22) && !b5) || (decide (i = 23) && !b6) || (decide (i = 24) && !b7) || (decide (i = 25) && !b8) || (decide (i = 26) && !s5 && b5) || (decide (i = 27) && !s6 && s5 && b6) || (decide (i = 28) && !s7 && s6 && b7) || (decide (i = 29) && !s8 && s7 && b8)
def AlI (ops : Array Oper) (i : Nat) (t : Tmp) : Prop := ∃ o : Oper, ops[i]? = some o ∧ o.op = Op.alloc 34 ∧ o.dst = some t ∧ o.guard = none
def StI (ops : Array Oper) (i : Nat) (t q : Tmp) : Prop := ∃ o : Oper, ops[i]? = some o ∧ o.op = Op.store 34 (Operand.tmp t) (Operand.tmp q) ∧ o.dst = none ∧ o.guard = none
set_option maxHeartbeats 4000000 in
theorem region6 {ops : Array Oper} {Q : Exit → Act → World → Prop} {S : World → Prop} {w0 : World} {y5 y6 y7 y8 : SE} {F : Value → Value → Value → Value → Act} {u5 u6 u7 u8 : Value} {q5 q6 q7 q8 : Nat}
    (hR : ∀ b5 b6 b7 b8 s5 s6 s7 s8 : Bool, (Region.ready .any ops (LB6 b5 b6 b7 b8 s5 s6 s7 s8)).all (fun i => rdy6 i b5 b6 b7 b8 s5 s6 s7 s8) = true)
    (hN : ∀ b5 b6 b7 b8 s5 s6 s7 s8 : Bool, (s5 = true → b5 = true) → (s6 = true → b6 = true) → (s7 = true → b7 = true) → (s8 = true → b8 = true) → (Region.ready .any ops (LB6 b5 b6 b7 b8 s5 s6 s7 s8)).isEmpty = true → (b5 && b6 && b7 && b8 && s5 && s6 && s7 && s8) = true)
    (hA5 : AlI ops 22 5)
    (hA6 : AlI ops 23 6)
    (hA7 : AlI ops 24 7)
    (hA8 : AlI ops 25 8)
    (hB5 : StI ops 26 5 q5)
    (hB6 : StI ops 27 6 q6)
    (hB7 : StI ops 28 7 q7)
    (hB8 : StI ops 29 8 q8)
    (hF5 : ∀ x5 x6 x7 x8 v, (F x5 x6 x7 x8).put (some 5) v = F v x6 x7 x8)
    (hE5 : ∀ x5 x6 x7 x8, (F x5 x6 x7 x8).tmps[(5 : Nat)]?.getD undef = x5 ∧ (F x5 x6 x7 x8).tmps[q5]?.getD undef = .agg (enA y5))
    (hF6 : ∀ x5 x6 x7 x8 v, (F x5 x6 x7 x8).put (some 6) v = F x5 v x7 x8)
    (hE6 : ∀ x5 x6 x7 x8, (F x5 x6 x7 x8).tmps[(6 : Nat)]?.getD undef = x6 ∧ (F x5 x6 x7 x8).tmps[q6]?.getD undef = .agg (enA y6))
    (hF7 : ∀ x5 x6 x7 x8 v, (F x5 x6 x7 x8).put (some 7) v = F x5 x6 v x8)
    (hE7 : ∀ x5 x6 x7 x8, (F x5 x6 x7 x8).tmps[(7 : Nat)]?.getD undef = x7 ∧ (F x5 x6 x7 x8).tmps[q7]?.getD undef = .agg (enA y7))
    (hF8 : ∀ x5 x6 x7 x8 v, (F x5 x6 x7 x8).put (some 8) v = F x5 x6 x7 v)
    (hE8 : ∀ x5 x6 x7 x8, (F x5 x6 x7 x8).tmps[(8 : Nat)]?.getD undef = x8 ∧ (F x5 x6 x7 x8).tmps[q8]?.getD undef = .agg (enA y8))
    (hS : ∀ w, Below w0.heap.size w0 w → S w)
    (hQ : ∀ g5 g6 g7 g8 w, Below w0.heap.size w0 w → w.heap[g5]? = some (.cells (enA y5) 34 (0, 0)) → w.heap[g6]? = some (.cells (enA y6) 34 (0, 0)) → w.heap[g7]? = some (.cells (enA y7) 34 (0, 0)) → w.heap[g8]? = some (.cells (enA y8) 34 (0, 0)) → Q .normal (F (.pointer (some ⟨g5, 0, none⟩)) (.pointer (some ⟨g6, 0, none⟩)) (.pointer (some ⟨g7, 0, none⟩)) (.pointer (some ⟨g8, 0, none⟩))) w)
    {w : World} (hw : Below w0.heap.size w0 w) : wpAnyH Tryz.prog .any ops Q S 8 (LB6 false false false false false false false false) (F u5 u6 u7 u8) w := by
  refine wpAnyH_inv (Inv6 w0 y5 y6 y7 y8 F u5 u6 u7 u8) ?_ ?_ 8 _ _ w (by unfold LB6; simp [remL]) ⟨none, none, none, none, false, false, false, false, rfl, rfl, ⟨?_, ?_, ?_, ?_⟩, ⟨?_, ?_, ?_, ?_, ?_, ?_⟩, hw⟩
  · rintro l a w ⟨o5, o6, o7, o8, s5, s6, s7, s8, rfl, rfl, ⟨h5, h6, h7, h8⟩, _, hb⟩ he
    have h1 := hN o5.isSome o6.isSome o7.isSome o8.isSome s5 s6 s7 s8 (fun e => by cases o5; exact absurd rfl (h5.1 e); rfl) (fun e => by cases o6; exact absurd rfl (h6.1 e); rfl) (fun e => by cases o7; exact absurd rfl (h7.1 e); rfl) (fun e => by cases o8; exact absurd rfl (h8.1 e); rfl) (by rw [he]; rfl)
    simp only [Bool.and_eq_true] at h1
    obtain ⟨⟨⟨⟨⟨⟨⟨e5, e6⟩, e7⟩, e8⟩, rfl⟩, rfl⟩, rfl⟩, rfl⟩ := h1
    obtain ⟨g5, rfl⟩ := Option.isSome_iff_exists.1 e5
    obtain ⟨g6, rfl⟩ := Option.isSome_iff_exists.1 e6
    obtain ⟨g7, rfl⟩ := Option.isSome_iff_exists.1 e7
    obtain ⟨g8, rfl⟩ := Option.isSome_iff_exists.1 e8
    exact hQ g5 g6 g7 g8 w hb (h5.2 g5 rfl).2 (h6.2 g6 rfl).2 (h7.2 g7 rfl).2 (h8.2 g8 rfl).2
  · rintro l a w ⟨o5, o6, o7, o8, s5, s6, s7, s8, rfl, rfl, ⟨h5, h6, h7, h8⟩, ⟨n56, n57, n58, n67, n68, n78⟩, hb⟩ i hi
    have h1 := List.all_eq_true.1 (hR o5.isSome o6.isSome o7.isSome o8.isSome s5 s6 s7 s8) i hi
    unfold rdy6 at h1
    simp only [Bool.or_eq_true, Bool.and_eq_true, decide_eq_true_eq, Bool.not_eq_true'] at h1
    rcases h1 with ((((((⟨rfl, e⟩ | ⟨rfl, e⟩) | ⟨rfl, e⟩) | ⟨rfl, e⟩) | ⟨⟨rfl, es⟩, e⟩) | ⟨⟨⟨rfl, es⟩, ep⟩, e⟩) | ⟨⟨⟨rfl, es⟩, ep⟩, e⟩) | ⟨⟨⟨rfl, es⟩, ep⟩, e⟩
    · obtain ⟨o, ho, hop, hod, hog⟩ := hA5
      have hz : o5 = none := by cases o5; rfl; cases e
      subst hz
      have hs0 : s5 = false := by cases s5; rfl; exact absurd rfl (h5.1 rfl)
      subst hs0
      unfold wpOp
      simp only [ho]
      rw [if_pos (by unfold Region.wanted; rw [hog])]
      refine .inl (alloc_wp hop ?_)
      rw [hod, hF5]
      refine ⟨hS _ (hb.alloc hb.size _), ?_⟩
      exact ⟨some w.heap.size, o6, o7, o8, false, s6, s7, s8, rfl, rfl, ⟨At6.new hb.size, h6.alloc _, h7.alloc _, h8.alloc _⟩, ⟨(Ne6.new h6).symm, (Ne6.new h7).symm, (Ne6.new h8).symm, n67, n68, n78⟩, hb.alloc hb.size _⟩
    · obtain ⟨o, ho, hop, hod, hog⟩ := hA6
      have hz : o6 = none := by cases o6; rfl; cases e
      subst hz
      have hs0 : s6 = false := by cases s6; rfl; exact absurd rfl (h6.1 rfl)
      subst hs0
      unfold wpOp
      simp only [ho]
      rw [if_pos (by unfold Region.wanted; rw [hog])]
      refine .inl (alloc_wp hop ?_)
      rw [hod, hF6]
      refine ⟨hS _ (hb.alloc hb.size _), ?_⟩
      exact ⟨o5, some w.heap.size, o7, o8, s5, false, s7, s8, rfl, rfl, ⟨h5.alloc _, At6.new hb.size, h7.alloc _, h8.alloc _⟩, ⟨Ne6.new h5, n57, n58, (Ne6.new h7).symm, (Ne6.new h8).symm, n78⟩, hb.alloc hb.size _⟩
    · obtain ⟨o, ho, hop, hod, hog⟩ := hA7
      have hz : o7 = none := by cases o7; rfl; cases e
      subst hz
      have hs0 : s7 = false := by cases s7; rfl; exact absurd rfl (h7.1 rfl)
      subst hs0
      unfold wpOp
      simp only [ho]
      rw [if_pos (by unfold Region.wanted; rw [hog])]
      refine .inl (alloc_wp hop ?_)
      rw [hod, hF7]
      refine ⟨hS _ (hb.alloc hb.size _), ?_⟩
      exact ⟨o5, o6, some w.heap.size, o8, s5, s6, false, s8, rfl, rfl, ⟨h5.alloc _, h6.alloc _, At6.new hb.size, h8.alloc _⟩, ⟨n56, Ne6.new h5, n58, Ne6.new h6, n68, (Ne6.new h8).symm⟩, hb.alloc hb.size _⟩
    · obtain ⟨o, ho, hop, hod, hog⟩ := hA8
      have hz : o8 = none := by cases o8; rfl; cases e
      subst hz
      have hs0 : s8 = false := by cases s8; rfl; exact absurd rfl (h8.1 rfl)
      subst hs0
      unfold wpOp
      simp only [ho]
      rw [if_pos (by unfold Region.wanted; rw [hog])]
      refine .inl (alloc_wp hop ?_)
      rw [hod, hF8]
      refine ⟨hS _ (hb.alloc hb.size _), ?_⟩
      exact ⟨o5, o6, o7, some w.heap.size, s5, s6, s7, false, rfl, rfl, ⟨h5.alloc _, h6.alloc _, h7.alloc _, At6.new hb.size⟩, ⟨n56, n57, Ne6.new h5, n67, Ne6.new h6, Ne6.new h7⟩, hb.alloc hb.size _⟩
    · obtain ⟨o, ho, hop, hod, hog⟩ := hB5
      obtain ⟨g, rfl⟩ := Option.isSome_iff_exists.1 e
      subst es
      unfold wpOp
      simp only [ho]
      rw [if_pos (by unfold Region.wanted; rw [hog])]
      refine .inl (store_wp hop hod (hE5 _ _ _ _).1 (hE5 _ _ _ _).2 (h5.2 g rfl).2 ?_)
      refine ⟨hS _ (set6_below hb (h5.2 g rfl).1), ?_⟩
      exact ⟨some g, o6, o7, o8, true, s6, s7, s8, rfl, rfl, ⟨h5.put rfl, h6.set rfl n56.symm, h7.set rfl n57.symm, h8.set rfl n58.symm⟩, ⟨n56, n57, n58, n67, n68, n78⟩, set6_below hb (h5.2 g rfl).1⟩
    · obtain ⟨o, ho, hop, hod, hog⟩ := hB6
      obtain ⟨g, rfl⟩ := Option.isSome_iff_exists.1 e
      subst es
      unfold wpOp
      simp only [ho]
      rw [if_pos (by unfold Region.wanted; rw [hog])]
      refine .inl (store_wp hop hod (hE6 _ _ _ _).1 (hE6 _ _ _ _).2 (h6.2 g rfl).2 ?_)
      refine ⟨hS _ (set6_below hb (h6.2 g rfl).1), ?_⟩
      exact ⟨o5, some g, o7, o8, s5, true, s7, s8, rfl, rfl, ⟨h5.set rfl n56, h6.put rfl, h7.set rfl n67.symm, h8.set rfl n68.symm⟩, ⟨n56, n57, n58, n67, n68, n78⟩, set6_below hb (h6.2 g rfl).1⟩
    · obtain ⟨o, ho, hop, hod, hog⟩ := hB7
      obtain ⟨g, rfl⟩ := Option.isSome_iff_exists.1 e
      subst es
      unfold wpOp
      simp only [ho]
      rw [if_pos (by unfold Region.wanted; rw [hog])]
      refine .inl (store_wp hop hod (hE7 _ _ _ _).1 (hE7 _ _ _ _).2 (h7.2 g rfl).2 ?_)
      refine ⟨hS _ (set6_below hb (h7.2 g rfl).1), ?_⟩
      exact ⟨o5, o6, some g, o8, s5, s6, true, s8, rfl, rfl, ⟨h5.set rfl n57, h6.set rfl n67, h7.put rfl, h8.set rfl n78.symm⟩, ⟨n56, n57, n58, n67, n68, n78⟩, set6_below hb (h7.2 g rfl).1⟩
    · obtain ⟨o, ho, hop, hod, hog⟩ := hB8
      obtain ⟨g, rfl⟩ := Option.isSome_iff_exists.1 e
      subst es
      unfold wpOp
      simp only [ho]
      rw [if_pos (by unfold Region.wanted; rw [hog])]
      refine .inl (store_wp hop hod (hE8 _ _ _ _).1 (hE8 _ _ _ _).2 (h8.2 g rfl).2 ?_)
      refine ⟨hS _ (set6_below hb (h8.2 g rfl).1), ?_⟩
      exact ⟨o5, o6, o7, some g, s5, s6, s7, true, rfl, rfl, ⟨h5.set rfl n58, h6.set rfl n68, h7.set rfl n78, h8.put rfl⟩, ⟨n56, n57, n58, n67, n68, n78⟩, set6_below hb (h8.2 g rfl).1⟩
  · exact ⟨(fun h => by cases h), (fun g e => by cases e)⟩
  · exact ⟨(fun h => by cases h), (fun g e => by cases e)⟩
  · exact ⟨(fun h => by cases h), (fun g e => by cases e)⟩
  · exact ⟨(fun h => by cases h), (fun g e => by cases e)⟩
  all_goals exact fun g h e => by cases e
theorem wpAnyH_at {P : Program} {md : Region.Mode} {ops : Array Oper} {Q : Exit → Act → World → Prop} {S : World → Prop} {n m : Nat} {l l0 : Array Bool} {a : Act} {w : World} (F : Act → Act) (hn : n = m) (hl : l = l0) (hF : F a = a) (h : ∀ A, A = a → wpAnyH P md ops Q S m l0 (F A) w) : wpAnyH P md ops Q S n l a w := by rw [hn, hl]; have := h a rfl; rwa [hF] at this
def putF (A : Act) (x5 x6 x7 x8 : Value) : Act := (((A.put (some 5) x5).put (some 6) x6).put (some 7) x7).put (some 8) x8
/-- what the region leaves -/
structure R6 (y5 y6 y7 y8 : SE) (w0 : World) (g5 g6 g7 g8 : Nat) (w : World) : Prop where
  b5 : w.heap[g5]? = some (.cells (enA y5) 34 (0, 0))
  b6 : w.heap[g6]? = some (.cells (enA y6) 34 (0, 0))
  b7 : w.heap[g7]? = some (.cells (enA y7) 34 (0, 0))
  b8 : w.heap[g8]? = some (.cells (enA y8) 34 (0, 0))
  bel : Below w0.heap.size w0 w
end Go.Proofs.YtdgfldeeflmnmaaGreatDoor.Sk
