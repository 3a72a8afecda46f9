/- Texts of the claim, put together: TrB. -/
import Derived.Test.YtimahlimmblgkaaGreatDoorPTrA
namespace Go.Proofs.YtimahlimmblgkaaGreatDoor.Sy
open Go Go.RowKit
theorem index_cut (c : UInt8) : ∀ s : B, Lib.index s [c] = match (cutAt c s).2 with | none => -1 | some _ => ((cutAt c s).1.length : Int)
  | [] => rfl
  | x :: r => by
    have ih := index_cut c r
    rw [Lib.index, cutAt]
    by_cases hx : x = c
    · subst hx; simp [List.isPrefixOf]
    · have hp : [c].isPrefixOf (x :: r) = false := by simp [List.isPrefixOf, Ne.symm hx]
      rw [if_neg hx, hp, ih]
      cases (cutAt c r).2 with
      | none => simp
      | some y => simp
theorem cut_cutAt (c : UInt8) (s : B) : Lib.cut s [c] = ((cutAt c s).1, ((cutAt c s).2).getD [], ((cutAt c s).2).isSome) := by
  unfold Lib.cut
  rw [index_cut]
  cases h : (cutAt c s).2 with
  | none =>
    have : cutAt c s = ((cutAt c s).1, none) := by rw [← h]
    have hm : (cutAt c s).1 = s := by
      clear this
      induction s with
      | nil => rfl
      | cons x r ih =>
        rw [cutAt] at h ⊢
        split at h
        · cases h
        · rename_i hx; rw [if_neg hx]; simp only; rw [ih h]
    simp [hm]
  | some r =>
    have hl := cutAt_len (show cutAt c s = ((cutAt c s).1, some r) by rw [← h])
    obtain ⟨u, hu⟩ : ∃ u, u = (cutAt c s).1 := ⟨_, rfl⟩
    rw [← hu] at hl ⊢
    have h1 : s.take u.length = u := by rw [hl]; simp
    have h2 : s.drop (u.length + 1) = r := by rw [hl, ← List.drop_drop, List.drop_left]; rfl
    simp [h1, h2]
theorem cutAt_le (c : UInt8) : ∀ s : B, (cutAt c s).1.length ≤ s.length
  | [] => Nat.le_refl _
  | x :: r => by
    rw [cutAt]
    split
    · exact Nat.zero_le _
    · have := cutAt_le c r; simpa using this
theorem hasPre_one (c : UInt8) (s : B) : Lib.hasPrefix s [c] = decide (s.head? = some c) := by
  unfold Lib.hasPrefix
  cases s with
  | nil => rfl
  | cons x r =>
    simp [List.isPrefixOf]
    by_cases h : c = x
    · simp [h]
    · simp [h, Ne.symm h]
/-- the numbers of a quantifier, by its two words -/
def bracesB (tw : Bool) (l h : B) : Option (Int × Int) :=
  if tw = false then (number l).map (fun n => (n, n))
  else if h = [] then (number l).map (fun n => (n, -1))
  else match number l, number h with
    | some a, some b => if a ≤ b then some (a, b) else none
    | _, _ => none
theorem braces_eq (u : B) : braces u = bracesB ((cutAt 44 u).2).isSome (cutAt 44 u).1 (((cutAt 44 u).2).getD []) := by
  unfold braces bracesB
  cases hc : cutAt 44 u with
  | mk x y =>
    cases y with
    | none => rfl
    | some z =>
      cases z with
      | nil => rfl
      | cons c r =>
        simp
        cases number x <;> cases number (c :: r) <;> rfl
/-- while a quantifier is read -/
structure QS (w : World) (p b4 b6 b16 : Nat) (s : ByteArray) (k : Nat) (mn mx : Int) (N : Array Value) (wx : World) : Prop where
  e6 : wx.heap[b6]? = some (.cells #[.int .u8 5, .slice none 0 0, .int .i64 mn, .int .i64 mx, .bool false, .slice (some ⟨b16, 0, none⟩) 1 1] 27 (0, 0))
  e4 : wx.heap[b4]? = some (.cells #[.int .u8 0, .slice none 0 0, .int .i64 0, .int .i64 0, .bool false, .slice none 0 0] 27 (0, 0))
  e16 : wx.heap[b16]? = some (.cells N 27 (0, 0))
  e3 : wx.heap[w.heap.size]? = some (.cells N 27 (0, 0))
  pa : Pa wx p s k
  fr : Fr (fun q => q = p) w wx
  ge : p < w.heap.size ∧ b4 = w.heap.size + 1 ∧ b16 = w.heap.size + 2 ∧ b6 = w.heap.size + 3
section
variable {w wx wy : World} {p b4 b6 b16 : Nat} {s : ByteArray} {k k' : Nat} {mn mx mn' mx' : Int} {N : Array Value}
theorem QS.go (h : QS w p b4 b6 b16 s k mn mx N wx) (hf : Fr (fun q => q = p) wx wy) (hp : Pa wy p s k') : QS w p b4 b6 b16 s k' mn mx N wy := by
  have hg := h.ge
  exact ⟨(hf.block _ (isT_of h.e6).lt (by omega)).trans h.e6, (hf.block _ (isT_of h.e4).lt (by omega)).trans h.e4, (hf.block _ (isT_of h.e16).lt (by omega)).trans h.e16, (hf.block _ (isT_of h.e3).lt (by omega)).trans h.e3, hp, h.fr.trans hf, h.ge⟩
theorem QS.bel (h : QS w p b4 b6 b16 s k mn mx N wx) (hb : Below wx.heap.size wx wy) : QS w p b4 b6 b16 s k mn mx N wy := h.go (Fr.of_bel hb) ((hb.block _ h.pa.lt).trans h.pa)
theorem QS.drewN (h : QS w p b4 b6 b16 s k mn mx N wx) (n : Nat) : QS w p b4 b6 b16 s k mn mx N (wx.drewN n) := ⟨h.e6, h.e4, h.e16, h.e3, h.pa, h.fr.drwN n, h.ge⟩
theorem QS.drew (h : QS w p b4 b6 b16 s k mn mx N wx) : QS w p b4 b6 b16 s k mn mx N wx.drew := ⟨h.e6, h.e4, h.e16, h.e3, h.pa, h.fr.drw, h.ge⟩
theorem set_at {w : World} {b i : Nat} {cs : Array Value} {v : Value} {t : TypeId} (h : w.heap[b]? = some (.cells cs t (0, 0))) : (w.setCell ⟨b, i, none⟩ v).heap[b]? = some (.cells (cs.setIfInBounds i v) t (0, 0)) := by
  unfold World.setCell
  simp only [Array.getElem?_modify, h]
  rfl
theorem QS.mov (h : QS w p b4 b6 b16 s k mn mx N wx) (j : Nat) : QS w p b4 b6 b16 s j mn mx N (wx.setCell ⟨p, 1, none⟩ (.int .i64 (j : Int))) := h.go (fr1 1 _) (h.pa.set j)
theorem QS.fr6 (h : QS w p b4 b6 b16 s k mn mx N wx) (hf : Fr (fun q => q = b6) wx wy) (he : wy.heap[b6]? = some (.cells #[.int .u8 5, .slice none 0 0, .int .i64 mn', .int .i64 mx', .bool false, .slice (some ⟨b16, 0, none⟩) 1 1] 27 (0, 0))) :
    QS w p b4 b6 b16 s k mn' mx' N wy := by
  have hg := h.ge
  refine ⟨he, (hf.block _ (isT_of h.e4).lt (by omega)).trans h.e4, (hf.block _ (isT_of h.e16).lt (by omega)).trans h.e16, (hf.block _ (isT_of h.e3).lt (by omega)).trans h.e3, (hf.block _ h.pa.lt (by omega)).trans h.pa, ?_, h.ge⟩
  have := h.fr.size
  refine ⟨hf.os.trans h.fr.os, hf.tape.trans h.fr.tape, hf.output.trans h.fr.output, Nat.le_trans h.fr.size hf.size, fun q hq hx => ?_⟩
  exact (hf.block q (by omega) (by omega)).trans (h.fr.block q hq hx)
theorem QS.setMn (h : QS w p b4 b6 b16 s k mn mx N wx) (v : Int) : QS w p b4 b6 b16 s k v mx N (wx.setCell ⟨b6, 2, none⟩ (.int .i64 v)) := h.fr6 (fr1 2 _) (set_at h.e6)
theorem QS.setMx (h : QS w p b4 b6 b16 s k mn mx N wx) (v : Int) : QS w p b4 b6 b16 s k mn v N (wx.setCell ⟨b6, 3, none⟩ (.int .i64 v)) := h.fr6 (fr1 3 _) (set_at h.e6)
end
theorem hd_lt {s : ByteArray} {k : Nat} {c : UInt8} (h : (s.data.toList.drop k).head? = some c) : k < s.size := by
  rcases Nat.lt_or_ge k s.size with h' | h'
  · exact h'
  · rw [List.drop_of_length_le (by rw [len_d]; exact h')] at h
    cases h
theorem head_cases (r : B) : r.head? = some 42 ∨ r.head? = some 43 ∨ r.head? = some 63 ∨ r.head? = some 123 ∨ (r.head? ≠ some 42 ∧ r.head? ≠ some 43 ∧ r.head? ≠ some 63 ∧ r.head? ≠ some 123) := by
  by_cases h1 : r.head? = some 42
  · exact .inl h1
  by_cases h2 : r.head? = some 43
  · exact .inr (.inl h2)
  by_cases h3 : r.head? = some 63
  · exact .inr (.inr (.inl h3))
  by_cases h4 : r.head? = some 123
  · exact .inr (.inr (.inr (.inl h4)))
  · exact .inr (.inr (.inr (.inr ⟨h1, h2, h3, h4⟩)))
theorem QS.start {w : World} {p b4 b6 b16 : Nat} {s : ByteArray} {k : Nat} {N : Array Value} (hp : Pa w p s k) (h4 : b4 = w.heap.size + 1) (h16 : b16 = w.heap.size + 1 + 1) (h6 : b6 = w.heap.size + 1 + 1 + 1) :
    QS w p b4 b6 b16 s k 0 (-1) N ((((w.alloc (.cells N 27)).alloc (.cells #[.int .u8 0, .slice none 0 0, .int .i64 0, .int .i64 0, .bool false, .slice none 0 0] 27)).alloc (.cells N 27)).alloc (.cells #[.int .u8 5, .slice none 0 0, .int .i64 0, .int .i64 (-1), .bool false, .slice (some ⟨b16, 0, none⟩) 1 1] 27)) := by
  subst h4 h16 h6
  have hb : Below w.heap.size w ((((w.alloc (.cells N 27)).alloc (.cells #[.int .u8 0, .slice none 0 0, .int .i64 0, .int .i64 0, .bool false, .slice none 0 0] 27)).alloc (.cells N 27)).alloc (.cells #[.int .u8 5, .slice none 0 0, .int .i64 0, .int .i64 (-1), .bool false, .slice (some ⟨w.heap.size + 1 + 1, 0, none⟩) 1 1] 27)) :=
    ((((Below.refl _ _).alloc (Nat.le_refl _) _).alloc (by simp) _).alloc (by simp <;> omega) _).alloc (by simp <;> omega) _
  refine ⟨alloc_at _ (by simp) _, ?_, ?_, ?_, (hb.block _ hp.lt).trans hp, Fr.of_bel hb, hp.lt, rfl, rfl, rfl⟩
  · rw [Below.heap_alloc _ _ _ (by simp <;> omega), Below.heap_alloc _ _ _ (by simp)]
    exact alloc_at _ (by simp) _
  · rw [Below.heap_alloc _ _ _ (by simp)]
    exact alloc_at _ (by simp) _
  · rw [Below.heap_alloc _ _ _ (by simp <;> omega), Below.heap_alloc _ _ _ (by simp <;> omega), Below.heap_alloc _ _ _ (by simp)]
    exact alloc_at _ rfl _
theorem RdF.one {w : World} {b : Nat} {x : L} (h : w.heap[b]? = some (.cells x.cs.toArray 27 (0, 0))) : RdF w (some ⟨b, 0, none⟩) (nFlat [x]) := by
  intro _
  refine ⟨b, 0, rfl, (isT_of h).lt, fun j u hu => ?_⟩
  simp only [nFlat, List.flatMap_cons, List.flatMap_nil, List.append_nil] at hu
  rw [Nat.zero_add]
  exact block_cell h j u (by simpa using hu)
/-- the tree of a quantifier that was read -/
theorem QS.done {P : Nat → Prop} {w wx wE : World} {p b4 b6 b16 : Nat} {s : ByteArray} {k : Nat} {mn mx : Int} {N : Array Value} {n : L} (lz : Bool) (h : QS w p b4 b6 b16 s k mn mx N wx) (hN : N = n.cs.toArray) (hn : RdT P w n) (hPp : ∀ b, P b → b ≠ p) (hmn : i64 mn) (hmx : i64 mx)
    (hE : Fr (fun q => q = b6 ∨ q = b4) wx wE) : RdT (fun b => P b ∨ w.heap.size ≤ b) wE (.mk 5 none 0 [] mn mx lz (some ⟨b16, 0, none⟩) 1 [n]) ∧ Pa wE p s k ∧ Fr (fun q => q = p) w wE := by
  have hg := h.ge
  have hsz := h.fr.size
  have hf : Fr (fun q => q = p) w wE := ⟨hE.os.trans h.fr.os, hE.tape.trans h.fr.tape, hE.output.trans h.fr.output, Nat.le_trans hsz hE.size, fun q hq hx => (hE.block q (by omega) (by omega)).trans (h.fr.block q hq hx)⟩
  have e16 := (hE.block _ (isT_of h.e16).lt (by omega)).trans h.e16
  rw [hN] at e16
  refine ⟨RdT.node (by decide) hmn hmx (RdF.one e16) (by simp) (fun q e => ?_) (fun q e => ?_) (fun x hx => ?_), (hE.block _ h.pa.lt (by omega)).trans h.pa, hf⟩
  · cases e; exact ⟨rfl, (isT_of e16).lt⟩
  · cases e; exact .inr (by dsimp only; omega)
  · rw [List.mem_singleton.1 hx]
    exact (hn.fr hf (fun b h1 _ => hPp b h1)).mono (fun b hb _ => .inl hb)
theorem QS.back {P : Nat → Prop} {w wx wE : World} {p b4 b6 b16 : Nat} {s : ByteArray} {k : Nat} {mn mx : Int} {N : Array Value} {n : L} (h : QS w p b4 b6 b16 s k mn mx N wx) (hn : RdT P w n) (hPp : ∀ b, P b → b ≠ p)
    (hE : Fr (fun q => q = b4) wx wE) : RdT (fun b => P b ∨ w.heap.size ≤ b) wE n ∧ Pa wE p s k ∧ Fr (fun q => q = p) w wE := by
  have hg := h.ge
  have hsz := h.fr.size
  have hf : Fr (fun q => q = p) w wE := ⟨hE.os.trans h.fr.os, hE.tape.trans h.fr.tape, hE.output.trans h.fr.output, Nat.le_trans hsz hE.size, fun q hq hx => (hE.block q (by omega) (by omega)).trans (h.fr.block q hq hx)⟩
  exact ⟨(hn.fr hf (fun b h1 _ => hPp b h1)).mono (fun b hb _ => .inl hb), (hE.block _ h.pa.lt (by omega)).trans h.pa, hf⟩
/-- behind the switch of quantifier -/
def QRel (w : World) (p b4 b6 b16 : Nat) (s : ByteArray) (k : Nat) (N : Array Value) (wx : World) : Prop :=
  ∃ (j : Nat) (mn mx : Int), k + j ≤ s.size ∧ QS w p b4 b6 b16 s (k + j) mn mx N wx ∧ quant (s.data.toList.drop k) = some (some (mn, mx), j) ∧ i64 mn ∧ i64 mx
/-- behind the numbers of a quantifier -/
def IRel (w w0 : World) (p b4 b6 b16 : Nat) (s : ByteArray) (k : Nat) (N : Array Value) (u : B) (s7 : Value) (wx : World) : Prop :=
  ∃ (ok : Bool) (mn mx : Int), s7 = .bool ok ∧ QS w p b4 b6 b16 s k mn mx N wx ∧ Below w0.heap.size w0 wx ∧ (ok = true → braces u = some (mn, mx)) ∧ (ok = false → braces u = none) ∧ i64 mn ∧ i64 mx
theorem quant_sign {r : B} {c : UInt8} (h : r.head? = some c) : (c = 42 → quant r = some (some (0, -1), 1)) ∧ (c = 43 → quant r = some (some (1, -1), 1)) ∧ (c = 63 → quant r = some (some (0, 1), 1)) := by
  cases r with
  | nil => cases h
  | cons x t =>
    simp at h
    subst h
    exact ⟨fun e => by rw [e]; rfl, fun e => by rw [e]; rfl, fun e => by rw [e]; rfl⟩
theorem quant_other {r : B} (h1 : r.head? ≠ some 42) (h2 : r.head? ≠ some 43) (h3 : r.head? ≠ some 63) (h4 : r.head? ≠ some 123) : quant r = some (none, 0) := by
  cases r with
  | nil => rfl
  | cons x t =>
    simp at h1 h2 h3 h4
    rw [quant, if_neg h1, if_neg h2, if_neg h3, if_neg h4]
/-- what quantifier gives -/
def QPost (Q : Nat → Prop) (p : Nat) (s : ByteArray) (k : Nat) (t : T) (w : World) (e : Ending) (w' : World) : Prop :=
  (∃ y : L, RdT Q w' y ∧ ((∃ (m : T) (j : Nat), quantifier t (s.data.toList.drop k) = some (m, j) ∧ e = .returned (.tuple #[y.val, .bool true]) ∧ y.tree = m ∧ Pa w' p s (k + j)) ∨
    (quantifier t (s.data.toList.drop k) = none ∧ e = .returned (.tuple #[y.val, .bool false])))) ∧ Fr (fun q => q = p) w w'
set_option maxRecDepth 100000 in
set_option maxHeartbeats 8000000 in
theorem quantifier_calls {P : Nat → Prop} {w0 : World} (hV : Vs w0) (p : Nat) (s : ByteArray) (k : Nat) (n : L) (w : World) (hb0 : Below w0.heap.size w0 w) (hp0 : w0.heap.size ≤ p) (hp : Pa w p s k) (hk : k ≤ s.size) (hs : s.size ≤ 1000000)
    (hn : RdT P w n) (hPp : ∀ b, P b → b ≠ p) : Calls Tryz.prog 108 #[.pointer (some ⟨p, 0, none⟩), n.val] w (QPost (fun b => P b ∨ w.heap.size ≤ b) p s k n.tree w) := by
  have HH := Lib.hid (And.intro hV (And.intro hb0 (And.intro hp0 (And.intro hn hPp))))
  obtain ⟨t, ht⟩ : ∃ q, q = n.tree := ⟨_, rfl⟩
  rw [← ht]
  obtain ⟨kx, sax, scx, sx, mnx, mxx, lzx, nax, ncx, lx⟩ := n
  have HT := Lib.hid ht
  rw [val_mk]
  have HPA := Lib.hid hp
  clear hV hb0 hp0 hn hPp ht hp
  obtain ⟨mm, hmm⟩ : ∃ q, q = sx.length := ⟨_, rfl⟩
  obtain ⟨ml, hml⟩ : ∃ q, q = lx.length := ⟨_, rfl⟩
  have HMM := Lib.hid (And.intro hmm hml)
  rw [← hmm, ← hml]
  clear hmm hml
  go_enter Tryz.func108, Tryz.ntmps108
  go_upto_block 0 with fail
  obtain ⟨b6, hb6⟩ : ∃ q, q = w.heap.size + 1 + 1 + 1 := ⟨_, rfl⟩
  obtain ⟨b16, hb16⟩ : ∃ q, q = w.heap.size + 1 + 1 := ⟨_, rfl⟩
  obtain ⟨b4, hb4⟩ : ∃ q, q = w.heap.size + 1 := ⟨_, rfl⟩
  obtain ⟨b3, hb3⟩ : ∃ q, q = w.heap.size := ⟨_, rfl⟩
  obtain ⟨w1, hw1⟩ : ∃ q, q = (((w.alloc (.cells #[.int .u8 kx, .slice sax mm scx, .int .i64 mnx, .int .i64 mxx, .bool lzx, .slice nax ml ncx] 27)).alloc (.cells #[.int .u8 0, .slice none 0 0, .int .i64 0, .int .i64 0, .bool false, .slice none 0 0] 27)).alloc (.cells #[.int .u8 kx, .slice sax mm scx, .int .i64 mnx, .int .i64 mxx, .bool lzx, .slice nax ml ncx] 27)).alloc (.cells #[.int .u8 5, .slice none 0 0, .int .i64 0, .int .i64 (-1), .bool false, .slice (some ⟨w.heap.size + 1 + 1, 0, none⟩) 1 1] 27) := ⟨_, rfl⟩
  rw [← hw1]
  have hq1 : QS w p b4 b6 b16 s k 0 (-1) #[.int .u8 kx, .slice sax mm scx, .int .i64 mnx, .int .i64 mxx, .bool lzx, .slice nax ml ncx] w1 := by rw [hw1, ← hb16]; exact QS.start HPA.out hb4 hb16 hb6
  rw [← hb6, ← hb16, ← hb4, ← hb3]
  have Q1 := Lib.hid hq1
  have HB := Lib.hid (And.intro hb6 (And.intro hb16 (And.intro hb4 hb3)))
  have n46 : b4 ≠ b6 := by omega
  have n64 : b6 ≠ b4 := by omega
  have np6 : p ≠ b6 := by have := HPA.out.lt; omega
  have n6p : b6 ≠ p := Ne.symm np6
  clear hq1 hw1 hb6 hb16 hb4 hb3
  go_cut [] (fun wx => QRel w p b4 b6 b16 s k #[.int .u8 kx, .slice sax mm scx, .int .i64 mnx, .int .i64 mxx, .bool lzx, .slice nax ml ncx] wx)
  case first =>
    rcases head_cases (s.data.toList.drop k) with h | h | h | h | ⟨h1, h2, h3, h4⟩
    · have HY := Lib.hid h
      clear h
      go_wp2_with fail
      go_at_call 80
      refine (take_yes p s ⟨#[42]⟩ k _ Q1.out.pa (by have := hd_lt HY.out; show k + 1 ≤ s.size; omega) hs (by rw [hasPre_one]; exact decide_eq_true HY.out)).mono ?_
      rintro e wy ⟨rfl, hpl, hfl⟩
      have QY := Lib.hid (Q1.out.go hfl hpl)
      clear hpl hfl
      have hk1 : k + 1 ≤ s.size := by have := hd_lt HY.out; omega
      go_wp2_with fail
      go_meet
      exact ⟨1, 0, -1, hk1, QY.out, (quant_sign HY.out).1 rfl, ⟨by decide, by decide⟩, ⟨by decide, by decide⟩⟩
    · have HY := Lib.hid h
      clear h
      have HN42 : Hid ((s.data.toList.drop k).head? ≠ some 42) := Lib.hid (by rw [HY.out]; decide)
      go_wp2_with fail
      go_at_call 80
      refine (take_no p s ⟨#[42]⟩ k _ Q1.out.pa hk hs (by rw [hasPre_one]; exact decide_eq_false HN42.out)).mono ?_
      rintro e wn42 ⟨rfl, hpl, hfl⟩
      have Q42 := Lib.hid (Q1.out.go hfl hpl)
      clear hpl hfl
      go_wp2_with fail
      go_at_call 80
      refine (take_yes p s ⟨#[43]⟩ k _ Q42.out.pa (by have := hd_lt HY.out; show k + 1 ≤ s.size; omega) hs (by rw [hasPre_one]; exact decide_eq_true HY.out)).mono ?_
      rintro e wy ⟨rfl, hpl, hfl⟩
      have QY := Lib.hid (Q42.out.go hfl hpl)
      clear hpl hfl
      have hk1 : k + 1 ≤ s.size := by have := hd_lt HY.out; omega
      have a0 := block_cell QY.out.e6 0 _ rfl
      have a1 := block_cell QY.out.e6 1 _ rfl
      have a2 := block_cell QY.out.e6 2 _ rfl
      have a3 := block_cell QY.out.e6 3 _ rfl
      have a4 := block_cell QY.out.e6 4 _ rfl
      have a5 := block_cell QY.out.e6 5 _ rfl
      have g2 := block_froz QY.out.e6 2
      have g3 := block_froz QY.out.e6 3
      have g4 := block_froz QY.out.e6 4
      go_wp2_with fail
      go_meet
      exact ⟨1, 1, -1, hk1, QY.out.setMn 1, (quant_sign HY.out).2.1 rfl, ⟨by decide, by decide⟩, ⟨by decide, by decide⟩⟩
    · have HY := Lib.hid h
      clear h
      have HN42 : Hid ((s.data.toList.drop k).head? ≠ some 42) := Lib.hid (by rw [HY.out]; decide)
      have HN43 : Hid ((s.data.toList.drop k).head? ≠ some 43) := Lib.hid (by rw [HY.out]; decide)
      go_wp2_with fail
      go_at_call 80
      refine (take_no p s ⟨#[42]⟩ k _ Q1.out.pa hk hs (by rw [hasPre_one]; exact decide_eq_false HN42.out)).mono ?_
      rintro e wn42 ⟨rfl, hpl, hfl⟩
      have Q42 := Lib.hid (Q1.out.go hfl hpl)
      clear hpl hfl
      go_wp2_with fail
      go_at_call 80
      refine (take_no p s ⟨#[43]⟩ k _ Q42.out.pa hk hs (by rw [hasPre_one]; exact decide_eq_false HN43.out)).mono ?_
      rintro e wn43 ⟨rfl, hpl, hfl⟩
      have Q43 := Lib.hid (Q42.out.go hfl hpl)
      clear hpl hfl
      go_wp2_with fail
      go_at_call 80
      refine (take_yes p s ⟨#[63]⟩ k _ Q43.out.pa (by have := hd_lt HY.out; show k + 1 ≤ s.size; omega) hs (by rw [hasPre_one]; exact decide_eq_true HY.out)).mono ?_
      rintro e wy ⟨rfl, hpl, hfl⟩
      have QY := Lib.hid (Q43.out.go hfl hpl)
      clear hpl hfl
      have hk1 : k + 1 ≤ s.size := by have := hd_lt HY.out; omega
      have a0 := block_cell QY.out.e6 0 _ rfl
      have a1 := block_cell QY.out.e6 1 _ rfl
      have a2 := block_cell QY.out.e6 2 _ rfl
      have a3 := block_cell QY.out.e6 3 _ rfl
      have a4 := block_cell QY.out.e6 4 _ rfl
      have a5 := block_cell QY.out.e6 5 _ rfl
      have g2 := block_froz QY.out.e6 2
      have g3 := block_froz QY.out.e6 3
      have g4 := block_froz QY.out.e6 4
      go_wp2_with fail
      go_meet
      exact ⟨1, 0, 1, hk1, QY.out.setMx 1, (quant_sign HY.out).2.2 rfl, ⟨by decide, by decide⟩, ⟨by decide, by decide⟩⟩
    · have HY := Lib.hid h
      clear h
      have HN42 : Hid ((s.data.toList.drop k).head? ≠ some 42) := Lib.hid (by rw [HY.out]; decide)
      have HN43 : Hid ((s.data.toList.drop k).head? ≠ some 43) := Lib.hid (by rw [HY.out]; decide)
      have HN63 : Hid ((s.data.toList.drop k).head? ≠ some 63) := Lib.hid (by rw [HY.out]; decide)
      go_wp2_with fail
      go_at_call 80
      refine (take_no p s ⟨#[42]⟩ k _ Q1.out.pa hk hs (by rw [hasPre_one]; exact decide_eq_false HN42.out)).mono ?_
      rintro e wn42 ⟨rfl, hpl, hfl⟩
      have Q42 := Lib.hid (Q1.out.go hfl hpl)
      clear hpl hfl
      go_wp2_with fail
      go_at_call 80
      refine (take_no p s ⟨#[43]⟩ k _ Q42.out.pa hk hs (by rw [hasPre_one]; exact decide_eq_false HN43.out)).mono ?_
      rintro e wn43 ⟨rfl, hpl, hfl⟩
      have Q43 := Lib.hid (Q42.out.go hfl hpl)
      clear hpl hfl
      go_wp2_with fail
      go_at_call 80
      refine (take_no p s ⟨#[63]⟩ k _ Q43.out.pa hk hs (by rw [hasPre_one]; exact decide_eq_false HN63.out)).mono ?_
      rintro e wn63 ⟨rfl, hpl, hfl⟩
      have Q63 := Lib.hid (Q43.out.go hfl hpl)
      clear hpl hfl
      go_wp2_with fail
      go_at_call 80
      refine (take_yes p s ⟨#[123]⟩ k _ Q63.out.pa (by have := hd_lt HY.out; show k + 1 ≤ s.size; omega) hs (by rw [hasPre_one]; exact decide_eq_true HY.out)).mono ?_
      rintro e wy ⟨rfl, hpl, hfl⟩
      have QY := Lib.hid (Q63.out.go hfl hpl)
      clear hpl hfl
      have hk1 : k + 1 ≤ s.size := by have := hd_lt HY.out; omega
      obtain ⟨rest, hrest⟩ : ∃ q, q = s.data.toList.drop (k + 1) := ⟨_, rfl⟩
      have hhead : s.data.toList.drop k = 123 :: rest := by
        have h1 := HY.out
        cases hd : s.data.toList.drop k with
        | nil => rw [hd] at h1; cases h1
        | cons x y =>
          rw [hd] at h1
          have hy : rest = y := by rw [hrest, ← List.drop_drop, hd]; rfl
          simp at h1
          rw [h1, hy]
      obtain ⟨u, hu⟩ : ∃ q, q = (cutAt 125 rest).1 := ⟨_, rfl⟩
      obtain ⟨cl, hcl⟩ : ∃ q, q = ((cutAt 125 rest).2).isSome := ⟨_, rfl⟩
      obtain ⟨af, haf⟩ : ∃ q, q = ((cutAt 125 rest).2).getD [] := ⟨_, rfl⟩
      obtain ⟨U, hU⟩ : ∃ q : ByteArray, q = ⟨u.toArray⟩ := ⟨_, rfl⟩
      obtain ⟨AF, hAF⟩ : ∃ q : ByteArray, q = ⟨af.toArray⟩ := ⟨_, rfl⟩
      have hrl : rest.length + k + 1 = s.size := by rw [hrest, List.length_drop, len_d]; omega
      have hul : u.length ≤ rest.length := by
        rw [hu]; exact cutAt_le 125 rest
      have hUd : U.data.toList = u := by rw [hU]
      have hUs : U.size = u.length := by rw [← len_d, hUd]
      have hspec : Hid (quant (s.data.toList.drop k) = if cl = true then (braces u).map (fun q => (some q, u.length + 2)) else none) := Lib.hid (by
        rw [hhead, quant, hu, hcl]
        cases h : cutAt 125 rest with
        | mk x y => cases y <;> simp)
      have hclen : Hid (cl = true → u.length + 1 ≤ rest.length) := Lib.hid (fun e => by
        rw [hcl] at e
        cases h : cutAt 125 rest with
        | mk x y =>
          cases y with
          | none => rw [h] at e; cases e
          | some z =>
            have h2 := cutAt_len h
            rw [hu, h, h2]
            simp)
      have hcut : Hid (∀ W, Below w0.heap.size w0 W → Calls Tryz.prog 140 #[.string (s.extract (k + 1) s.size), .string ⟨#[125]⟩] W fun e w' => e = .returned (.tuple #[.string U, .string AF, .bool cl]) ∧ ∃ m, w' = W.drewN m) := Lib.hid (fun W hb => by
        obtain ⟨m, hm⟩ := (HH.out.1.below hb).cut
        have h := Tryz.strings_Cut (s.extract (k + 1) s.size) ⟨#[125]⟩ m W (by have := len_d (s.extract (k + 1) s.size); rw [ex_drop, List.length_drop, len_d] at this; omega) hm
        rw [ex_drop, ← hrest, cut_cutAt, ← hu, ← haf, ← hcl, ← hU, ← hAF] at h
        exact h)
      have hyb : Below w0.heap.size w0 wy := HH.out.2.1.trans (QY.out.fr.below (B := w0.heap.size) (fun q hq e => by have := HH.out.2.2.1; omega) HH.out.2.1.size)
      have HYB := Lib.hid hyb
      have HR := Lib.hid (And.intro hrl (And.intro hul (And.intro hUd hUs)))
      have hUsz : U.size ≤ 1000000 := by omega
      clear hrest hhead hu hcl haf hU hAF hrl hul hUd hUs hyb
      have c0 : wy.cell? ⟨p, 0, none⟩ = some (.string s) := block_cell QY.out.pa 0 _ rfl
      have c1 : wy.cell? ⟨p, 1, none⟩ = some (.int .i64 ((k : Int) + 1)) := block_cell QY.out.pa 1 _ (by rfl)
      go_wp2_with fail
      go_quiet ((go_at_call 140; exact Calls.quiet_of (hcut.out _ (HYB.out.trans ⟨rfl, rfl, rfl, Nat.le_refl _, fun _ _ => rfl⟩))))
      obtain ⟨w2, hw2⟩ : ∃ q, q = wy.drewN nq := ⟨_, rfl⟩
      rw [← hw2]
      have Q2 := Lib.hid (show QS w p b4 b6 b16 s (k + 1) 0 (-1) #[.int .u8 kx, .slice sax mm scx, .int .i64 mnx, .int .i64 mxx, .bool lzx, .slice nax ml ncx] w2 by rw [hw2]; exact QY.out.drewN nq)
      have HB2 := Lib.hid (show Below w0.heap.size w0 w2 by rw [hw2]; exact HYB.out.trans ⟨rfl, rfl, rfl, Nat.le_refl _, fun _ _ => rfl⟩)
      clear hw2 c0 c1
      obtain ⟨l1, hl1⟩ : ∃ q, q = (cutAt 44 u).1 := ⟨_, rfl⟩
      obtain ⟨tw, htw⟩ : ∃ q, q = ((cutAt 44 u).2).isSome := ⟨_, rfl⟩
      obtain ⟨h1, hh1⟩ : ∃ q, q = ((cutAt 44 u).2).getD [] := ⟨_, rfl⟩
      obtain ⟨L1, hL1⟩ : ∃ q : ByteArray, q = ⟨l1.toArray⟩ := ⟨_, rfl⟩
      obtain ⟨H1, hH1⟩ : ∃ q : ByteArray, q = ⟨h1.toArray⟩ := ⟨_, rfl⟩
      have hL1d : L1.data.toList = l1 := by rw [hL1]
      have hH1d : H1.data.toList = h1 := by rw [hH1]
      have hlen2 : l1.length ≤ u.length ∧ h1.length ≤ u.length := by
        rw [hl1, hh1]
        cases hc : cutAt 44 u with
        | mk x y =>
          cases y with
          | none =>
            refine ⟨?_, Nat.zero_le _⟩
            have : x = (cutAt 44 u).1 := by rw [hc]
            rw [this]
            exact cutAt_le 44 u
          | some z => have := cutAt_len hc; rw [this]; simp <;> omega
      have hbr : Hid (braces u = bracesB tw l1 h1) := Lib.hid (by rw [braces_eq, ← htw, ← hh1, ← hl1])
      have hcut2 : Hid (∀ W, Below w0.heap.size w0 W → Calls Tryz.prog 140 #[.string U, .string ⟨#[44]⟩] W fun e w' => e = .returned (.tuple #[.string L1, .string H1, .bool tw]) ∧ ∃ m, w' = W.drewN m) := Lib.hid (fun W hb => by
        obtain ⟨m, hm⟩ := (HH.out.1.below hb).cut
        have h := Tryz.strings_Cut U ⟨#[44]⟩ m W (by omega) hm
        rw [HR.out.2.2.1, cut_cutAt, ← hl1, ← hh1, ← htw, ← hL1, ← hH1] at h
        exact h)
      have hLs : L1.size ≤ 1000000 := by rw [← len_d, hL1d]; have := HR.out; omega
      have hHs : H1.size ≤ 1000000 := by rw [← len_d, hH1d]; have := HR.out; omega
      have hH0 : Hid (H1 = ⟨#[]⟩ ↔ h1 = []) := Lib.hid (by rw [hH1]; constructor <;> intro e <;> simpa using e)
      have HL1 := Lib.hid (And.intro hL1d hH1d)
      clear hl1 htw hh1 hL1 hH1 hL1d hH1d hlen2
      go_wp2_with fail
      go_at_call 140
      refine (hcut2.out w2 HB2.out).mono ?_
      rintro e w3 ⟨rfl, nq3, hw3⟩
      have Q3 := Lib.hid (show QS w p b4 b6 b16 s (k + 1) 0 (-1) #[.int .u8 kx, .slice sax mm scx, .int .i64 mnx, .int .i64 mxx, .bool lzx, .slice nax ml ncx] w3 by rw [hw3]; exact Q2.out.drewN nq3)
      have HB3 := Lib.hid (show Below w0.heap.size w0 w3 by rw [hw3]; exact HB2.out.trans ⟨rfl, rfl, rfl, Nat.le_refl _, fun _ _ => rfl⟩)
      clear hw3
      have c1 : w3.cell? ⟨p, 1, none⟩ = some (.int .i64 ((k : Int) + 1)) := block_cell Q3.out.pa 1 _ (by rfl)
      have f1 := block_froz Q3.out.pa 1
      go_wp2_with fail
      go_at_call 141
      refine at_world ?_
      intro w4 hw4
      obtain ⟨kk, hkk⟩ : ∃ q : Nat, q = k + 1 + (U.size + 1) := ⟨_, rfl⟩
      have Q4 := Lib.hid (show QS w p b4 b6 b16 s kk 0 (-1) #[.int .u8 kx, .slice sax mm scx, .int .i64 mnx, .int .i64 mxx, .bool lzx, .slice nax ml ncx] w4 by
        rw [hw4, show ((k : Int) + 1 + ((U.size : Int) + 1)) = ((kk : Nat) : Int) by omega]
        exact Q3.out.mov kk)
      have HB4 := Lib.hid (show Below w0.heap.size w0 w4 by rw [hw4]; exact HB3.out.setCell (p := ⟨p, 1, none⟩) HH.out.2.2.1 _)
      have HK := Lib.hid hkk
      clear hw4 hkk c1 f1
      refine (number_calls L1 (by omega) w4 (HH.out.1.below HB4.out)).mono ?_
      rintro e w5 ⟨hn, hb5⟩
      have Q5 := Lib.hid (Q4.out.bel hb5)
      have HB5 := Lib.hid (HB4.out.trans (hb5.mono HB4.out.size))
      clear hb5
      rw [HL1.out.1] at hn
      obtain ⟨okl, v, hnl, rfl, hvi⟩ : ∃ (okl : Bool) (v : Int), number l1 = (if okl = true then some v else none) ∧ e = .returned (.tuple #[.int .i64 v, .bool okl]) ∧ i64 v := by
        rcases hn with ⟨v, hv, rfl⟩ | ⟨hno, v, hi, rfl⟩
        · have := number_ok hv
          exact ⟨true, v, hv, rfl, by omega, by omega⟩
        · exact ⟨false, v, hno, rfl, hi⟩
      have HNL := Lib.hid (And.intro hnl hvi)
      clear hn hnl hvi
      have a0 := block_cell Q5.out.e6 0 _ rfl
      have a1 := block_cell Q5.out.e6 1 _ rfl
      have a2 := block_cell Q5.out.e6 2 _ rfl
      have a3 := block_cell Q5.out.e6 3 _ rfl
      have a4 := block_cell Q5.out.e6 4 _ rfl
      have a5 := block_cell Q5.out.e6 5 _ rfl
      have g2 := block_froz Q5.out.e6 2
      have g3 := block_froz Q5.out.e6 3
      have g4 := block_froz Q5.out.e6 4
      go_upto_block 1 with fail
      obtain ⟨w6, hw6⟩ : ∃ q, q = w5.setCell ⟨b6, 2, none⟩ (.int .i64 v) := ⟨_, rfl⟩
      rw [← hw6]
      have Q6 := Lib.hid (show QS w p b4 b6 b16 s kk v (-1) #[.int .u8 kx, .slice sax mm scx, .int .i64 mnx, .int .i64 mxx, .bool lzx, .slice nax ml ncx] w6 by rw [hw6]; exact Q5.out.setMn v)
      have hb6g : w0.heap.size ≤ b6 := by have := Q5.out.ge; have := HH.out.2.1.size; omega
      have HB6 := Lib.hid (show Below w0.heap.size w0 w6 by rw [hw6]; exact HB5.out.setCell (p := ⟨b6, 2, none⟩) hb6g _)
      have HG6 := Lib.hid hb6g
      clear hw6 a0 a1 a2 a3 a4 a5 g2 g3 g4 hb6g
      go_cut [7] (fun s7 wx => IRel w w0 p b4 b6 b16 s kk #[.int .u8 kx, .slice sax mm scx, .int .i64 mnx, .int .i64 mxx, .bool lzx, .slice nax ml ncx] u s7 wx)
      case first =>
        have a0 := block_cell Q6.out.e6 0 _ rfl
        have a1 := block_cell Q6.out.e6 1 _ rfl
        have a2 := block_cell Q6.out.e6 2 _ rfl
        have a3 := block_cell Q6.out.e6 3 _ rfl
        have a4 := block_cell Q6.out.e6 4 _ rfl
        have a5 := block_cell Q6.out.e6 5 _ rfl
        have g2 := block_froz Q6.out.e6 2
        have g3 := block_froz Q6.out.e6 3
        have g4 := block_froz Q6.out.e6 4
        cases tw
        · have hbe : Hid (braces u = (number l1).map (fun n => (n, n))) := Lib.hid (by rw [hbr.out]; rfl)
          go_wp2_with fail
          go_meet
          refine ⟨okl, v, v, rfl, Q6.out.setMx v, HB6.out.setCell (p := ⟨b6, 3, none⟩) HG6.out _, fun e => ?_, fun e => ?_, HNL.out.2, HNL.out.2⟩
          · rw [hbe.out, HNL.out.1, if_pos e]; rfl
          · rw [hbe.out, HNL.out.1, if_neg (by rw [e]; decide)]; rfl
        · by_cases he : H1 = ⟨#[]⟩
          · have hbe : Hid (braces u = (number l1).map (fun n => (n, -1))) := Lib.hid (by
              rw [hbr.out]; unfold bracesB; rw [if_neg (by decide), if_pos (hH0.out.1 he)])
            subst he
            go_wp2_with fail
            go_meet
            refine ⟨okl, v, -1, rfl, Q6.out, HB6.out, fun e => ?_, fun e => ?_, HNL.out.2, ⟨by decide, by decide⟩⟩
            · rw [hbe.out, HNL.out.1, if_pos e]; rfl
            · rw [hbe.out, HNL.out.1, if_neg (by rw [e]; decide)]; rfl
          · have hbe : Hid (braces u = match number l1, number h1 with
                | some a, some b => if a ≤ b then some (a, b) else none
                | _, _ => none) := Lib.hid (by
              rw [hbr.out]; unfold bracesB; rw [if_neg (by decide), if_neg (fun e => he (hH0.out.2 e))])
            have hq : (H1.toList == (⟨#[]⟩ : ByteArray).toList) = false := beq_eq_false_iff_ne.2 (fun e => he (str_toList e))
            have hq1 : H1.toList.isEmpty = false := by
              cases hc : H1.toList with
              | nil => exact absurd (str_toList (by rw [hc, ByteArray.toList_eq])) he
              | cons _ _ => rfl
            clear he
            go_wp2_with fail
            go_at_call 141
            refine (number_calls H1 (by omega) w6 (HH.out.1.below HB6.out)).mono ?_
            rintro e w7 ⟨hn, hb7⟩
            have Q7 := Lib.hid (Q6.out.bel hb7)
            have HB7 := Lib.hid (HB6.out.trans (hb7.mono HB6.out.size))
            clear hb7
            rw [HL1.out.2] at hn
            obtain ⟨okh, x, hnh, rfl, hxi⟩ : ∃ (okh : Bool) (x : Int), number h1 = (if okh = true then some x else none) ∧ e = .returned (.tuple #[.int .i64 x, .bool okh]) ∧ i64 x := by
              rcases hn with ⟨v, hv, rfl⟩ | ⟨hno, v, hi, rfl⟩
              · have := number_ok hv
                exact ⟨true, v, hv, rfl, by omega, by omega⟩
              · exact ⟨false, v, hno, rfl, hi⟩
            have HNH := Lib.hid (And.intro hnh hxi)
            clear hn hnh hxi
            clear a0 a1 a2 a3 a4 a5 g2 g3 g4
            have a0 := block_cell Q7.out.e6 0 _ rfl
            have a1 := block_cell Q7.out.e6 1 _ rfl
            have a2 := block_cell Q7.out.e6 2 _ rfl
            have a3 := block_cell Q7.out.e6 3 _ rfl
            have a4 := block_cell Q7.out.e6 4 _ rfl
            have a5 := block_cell Q7.out.e6 5 _ rfl
            have g2 := block_froz Q7.out.e6 2
            have g3 := block_froz Q7.out.e6 3
            have g4 := block_froz Q7.out.e6 4
            obtain ⟨ge, hge⟩ : ∃ q : Bool, q = decide (v ≤ x) := ⟨_, rfl⟩
            have hge' : decide (v ≤ x) = ge := hge.symm
            have HGE := Lib.hid hge
            clear hge
            have hfin : Hid (∀ b : Bool, b = (okl && okh && ge) → (b = true → braces u = some (v, x)) ∧ (b = false → braces u = none)) := Lib.hid (fun b hb => by
              rw [hbe.out, HNL.out.1, HNH.out.1, hb, HGE.out]
              cases okl <;> cases okh <;> simp
              )
            cases okl <;> cases okh
            all_goals
              go_wp2_with fail
              go_meet
              exact ⟨_, v, x, rfl, Q7.out.setMx x, HB7.out.setCell (p := ⟨b6, 3, none⟩) HG6.out _, (hfin.out _ (by simp)).1, (hfin.out _ (by simp)).2, HNL.out.2, HNH.out.2⟩
      case rest =>
        unfold IRel at hcut
        obtain ⟨okv, mn, mx, rfl, hq, hbx, hyes, hno, hi1, hi2⟩ := hcut
        have QC := Lib.hid hq
        obtain ⟨w8, hw8⟩ : ∃ q, q = wc := ⟨_, rfl⟩
        subst hw8
        clear hq hbx
        cases okv
        · have hnone : Hid (quantifier t (s.data.toList.drop k) = none) := Lib.hid (by unfold quantifier; rw [hspec.out, hno rfl]; cases cl <;> rfl)
          clear hyes hno
          have e3 : w8.heap[b3]? = some (.cells #[.int .u8 kx, .slice sax mm scx, .int .i64 mnx, .int .i64 mxx, .bool lzx, .slice nax ml ncx] 27 (0, 0)) := by rw [HB.out.2.2.2]; exact QC.out.e3
          have d0 := block_cell e3 0 _ rfl
          have d1 := block_cell e3 1 _ rfl
          have d2 := block_cell e3 2 _ rfl
          have d3 := block_cell e3 3 _ rfl
          have d4 := block_cell e3 4 _ rfl
          have d5 := block_cell e3 5 _ rfl
          clear e3
          have r0 := block_cell QC.out.e4 0 _ rfl
          have r1 := block_cell QC.out.e4 1 _ rfl
          have r2 := block_cell QC.out.e4 2 _ rfl
          have r3 := block_cell QC.out.e4 3 _ rfl
          have r4 := block_cell QC.out.e4 4 _ rfl
          have r5 := block_cell QC.out.e4 5 _ rfl
          have v0 := block_froz QC.out.e4 0
          have v1 := block_froz QC.out.e4 1
          have v2 := block_froz QC.out.e4 2
          have v3 := block_froz QC.out.e4 3
          have v4 := block_froz QC.out.e4 4
          have v5 := block_froz QC.out.e4 5
          go_wp2_with fail
          obtain ⟨wE, hwE⟩ : ∃ q, q = ((((((w8.setCell ⟨b4, 0, none⟩ (.int .u8 kx)).setCell ⟨b4, 1, none⟩ (.slice sax mm scx)).setCell ⟨b4, 2, none⟩ (.int .i64 mnx)).setCell ⟨b4, 3, none⟩ (.int .i64 mxx)).setCell ⟨b4, 4, none⟩ (.bool lzx)).setCell ⟨b4, 5, none⟩ (.slice nax ml ncx)) := ⟨_, rfl⟩
          rw [← hwE]
          have hE : wE.heap[b4]? = some (.cells #[.int .u8 kx, .slice sax mm scx, .int .i64 mnx, .int .i64 mxx, .bool lzx, .slice nax ml ncx] 27 (0, 0)) := by rw [hwE]; exact six_cells QC.out.e4
          have hfE : Fr (fun q => q = b4) w8 wE := by rw [hwE]; exact six_fr
          have s0 := block_cell hE 0 _ rfl
          have s1 := block_cell hE 1 _ rfl
          have s2 := block_cell hE 2 _ rfl
          have s3 := block_cell hE 3 _ rfl
          have s4 := block_cell hE 4 _ rfl
          have s5 := block_cell hE 5 _ rfl
          have HD := Lib.hid (QS.back QC.out HH.out.2.2.2.1 HH.out.2.2.2.2 hfE)
          clear hwE hE hfE
          refine bodyPost_ret (v := .tuple #[.agg #[.int .u8 kx, .slice sax mm scx, .int .i64 mnx, .int .i64 mxx, .bool lzx, .slice nax ml ncx], .bool false]) (by simp [results, Tryz.results108, go_sem, s0, s1, s2, s3, s4, s5]) rfl ⟨⟨_, HD.out.1, .inr ⟨hnone.out, by rw [HMM.out.1, HMM.out.2]; rfl⟩⟩, HD.out.2.2⟩
        · cases cl
          · have hnone : Hid (quantifier t (s.data.toList.drop k) = none) := Lib.hid (by unfold quantifier; rw [hspec.out]; rfl)
            clear hyes hno
            have e3 : w8.heap[b3]? = some (.cells #[.int .u8 kx, .slice sax mm scx, .int .i64 mnx, .int .i64 mxx, .bool lzx, .slice nax ml ncx] 27 (0, 0)) := by rw [HB.out.2.2.2]; exact QC.out.e3
            have d0 := block_cell e3 0 _ rfl
            have d1 := block_cell e3 1 _ rfl
            have d2 := block_cell e3 2 _ rfl
            have d3 := block_cell e3 3 _ rfl
            have d4 := block_cell e3 4 _ rfl
            have d5 := block_cell e3 5 _ rfl
            clear e3
            have r0 := block_cell QC.out.e4 0 _ rfl
            have r1 := block_cell QC.out.e4 1 _ rfl
            have r2 := block_cell QC.out.e4 2 _ rfl
            have r3 := block_cell QC.out.e4 3 _ rfl
            have r4 := block_cell QC.out.e4 4 _ rfl
            have r5 := block_cell QC.out.e4 5 _ rfl
            have v0 := block_froz QC.out.e4 0
            have v1 := block_froz QC.out.e4 1
            have v2 := block_froz QC.out.e4 2
            have v3 := block_froz QC.out.e4 3
            have v4 := block_froz QC.out.e4 4
            have v5 := block_froz QC.out.e4 5
            go_wp2_with fail
            obtain ⟨wE, hwE⟩ : ∃ q, q = ((((((w8.setCell ⟨b4, 0, none⟩ (.int .u8 kx)).setCell ⟨b4, 1, none⟩ (.slice sax mm scx)).setCell ⟨b4, 2, none⟩ (.int .i64 mnx)).setCell ⟨b4, 3, none⟩ (.int .i64 mxx)).setCell ⟨b4, 4, none⟩ (.bool lzx)).setCell ⟨b4, 5, none⟩ (.slice nax ml ncx)) := ⟨_, rfl⟩
            rw [← hwE]
            have hE : wE.heap[b4]? = some (.cells #[.int .u8 kx, .slice sax mm scx, .int .i64 mnx, .int .i64 mxx, .bool lzx, .slice nax ml ncx] 27 (0, 0)) := by rw [hwE]; exact six_cells QC.out.e4
            have hfE : Fr (fun q => q = b4) w8 wE := by rw [hwE]; exact six_fr
            have s0 := block_cell hE 0 _ rfl
            have s1 := block_cell hE 1 _ rfl
            have s2 := block_cell hE 2 _ rfl
            have s3 := block_cell hE 3 _ rfl
            have s4 := block_cell hE 4 _ rfl
            have s5 := block_cell hE 5 _ rfl
            have HD := Lib.hid (QS.back QC.out HH.out.2.2.2.1 HH.out.2.2.2.2 hfE)
            clear hwE hE hfE
            refine bodyPost_ret (v := .tuple #[.agg #[.int .u8 kx, .slice sax mm scx, .int .i64 mnx, .int .i64 mxx, .bool lzx, .slice nax ml ncx], .bool false]) (by simp [results, Tryz.results108, go_sem, s0, s1, s2, s3, s4, s5]) rfl ⟨⟨_, HD.out.1, .inr ⟨hnone.out, by rw [HMM.out.1, HMM.out.2]; rfl⟩⟩, HD.out.2.2⟩
          · have HYS := Lib.hid (hyes rfl)
            clear hno hyes
            go_wp2_with fail
            go_meet
            have hkk := HK.out
            have hrr := HR.out
            have hcl := hclen.out (by trivial)
            exact ⟨u.length + 2, mn, mx, by omega, by rw [show k + (u.length + 2) = kk by omega]; exact QC.out, by rw [hspec.out, if_pos trivial, HYS.out]; rfl, hi1, hi2⟩
    · have HN42 := Lib.hid h1
      have HN43 := Lib.hid h2
      have HN63 := Lib.hid h3
      have HN123 := Lib.hid h4
      clear h1 h2 h3 h4
      go_wp2_with fail
      go_at_call 80
      refine (take_no p s ⟨#[42]⟩ k _ Q1.out.pa hk hs (by rw [hasPre_one]; exact decide_eq_false HN42.out)).mono ?_
      rintro e wn42 ⟨rfl, hpl, hfl⟩
      have Q42 := Lib.hid (Q1.out.go hfl hpl)
      clear hpl hfl
      go_wp2_with fail
      go_at_call 80
      refine (take_no p s ⟨#[43]⟩ k _ Q42.out.pa hk hs (by rw [hasPre_one]; exact decide_eq_false HN43.out)).mono ?_
      rintro e wn43 ⟨rfl, hpl, hfl⟩
      have Q43 := Lib.hid (Q42.out.go hfl hpl)
      clear hpl hfl
      go_wp2_with fail
      go_at_call 80
      refine (take_no p s ⟨#[63]⟩ k _ Q43.out.pa hk hs (by rw [hasPre_one]; exact decide_eq_false HN63.out)).mono ?_
      rintro e wn63 ⟨rfl, hpl, hfl⟩
      have Q63 := Lib.hid (Q43.out.go hfl hpl)
      clear hpl hfl
      go_wp2_with fail
      go_at_call 80
      refine (take_no p s ⟨#[123]⟩ k _ Q63.out.pa hk hs (by rw [hasPre_one]; exact decide_eq_false HN123.out)).mono ?_
      rintro e wn123 ⟨rfl, hpl, hfl⟩
      have Q123 := Lib.hid (Q63.out.go hfl hpl)
      clear hpl hfl
      have e3 : wn123.heap[b3]? = some (.cells #[.int .u8 kx, .slice sax mm scx, .int .i64 mnx, .int .i64 mxx, .bool lzx, .slice nax ml ncx] 27 (0, 0)) := by rw [HB.out.2.2.2]; exact Q123.out.e3
      have d0 := block_cell e3 0 _ rfl
      have d1 := block_cell e3 1 _ rfl
      have d2 := block_cell e3 2 _ rfl
      have d3 := block_cell e3 3 _ rfl
      have d4 := block_cell e3 4 _ rfl
      have d5 := block_cell e3 5 _ rfl
      clear e3
      have r0 := block_cell Q123.out.e4 0 _ rfl
      have r1 := block_cell Q123.out.e4 1 _ rfl
      have r2 := block_cell Q123.out.e4 2 _ rfl
      have r3 := block_cell Q123.out.e4 3 _ rfl
      have r4 := block_cell Q123.out.e4 4 _ rfl
      have r5 := block_cell Q123.out.e4 5 _ rfl
      have v0 := block_froz Q123.out.e4 0
      have v1 := block_froz Q123.out.e4 1
      have v2 := block_froz Q123.out.e4 2
      have v3 := block_froz Q123.out.e4 3
      have v4 := block_froz Q123.out.e4 4
      have v5 := block_froz Q123.out.e4 5
      go_wp2_with fail
      obtain ⟨wE, hwE⟩ : ∃ q, q = ((((((wn123.setCell ⟨b4, 0, none⟩ (.int .u8 kx)).setCell ⟨b4, 1, none⟩ (.slice sax mm scx)).setCell ⟨b4, 2, none⟩ (.int .i64 mnx)).setCell ⟨b4, 3, none⟩ (.int .i64 mxx)).setCell ⟨b4, 4, none⟩ (.bool lzx)).setCell ⟨b4, 5, none⟩ (.slice nax ml ncx)) := ⟨_, rfl⟩
      rw [← hwE]
      have hE : wE.heap[b4]? = some (.cells #[.int .u8 kx, .slice sax mm scx, .int .i64 mnx, .int .i64 mxx, .bool lzx, .slice nax ml ncx] 27 (0, 0)) := by rw [hwE]; exact six_cells Q123.out.e4
      have hfE : Fr (fun q => q = b4) wn123 wE := by rw [hwE]; exact six_fr
      have s0 := block_cell hE 0 _ rfl
      have s1 := block_cell hE 1 _ rfl
      have s2 := block_cell hE 2 _ rfl
      have s3 := block_cell hE 3 _ rfl
      have s4 := block_cell hE 4 _ rfl
      have s5 := block_cell hE 5 _ rfl
      have HD := Lib.hid (QS.back Q123.out HH.out.2.2.2.1 HH.out.2.2.2.2 hfE)
      clear hwE hE hfE
      refine bodyPost_ret (v := .tuple #[.agg #[.int .u8 kx, .slice sax mm scx, .int .i64 mnx, .int .i64 mxx, .bool lzx, .slice nax ml ncx], .bool true]) (by simp [results, Tryz.results108, go_sem, s0, s1, s2, s3, s4, s5]) rfl ⟨⟨_, HD.out.1, .inl ⟨t, 0, by unfold quantifier; rw [quant_other HN42.out HN43.out HN63.out HN123.out], by rw [HMM.out.1, HMM.out.2]; rfl, HT.out.symm, HD.out.2.1⟩⟩, HD.out.2.2⟩
  case rest =>
    unfold QRel at hcut
    obtain ⟨j, mn, mx, hj, hq, hqu, hi1, hi2⟩ := hcut
    have QC := Lib.hid hq
    have HQU := Lib.hid hqu
    clear hq hqu
    by_cases hz : (s.data.toList.drop (k + j)).head? = some 63
    · have HZ := Lib.hid hz
      clear hz
      go_wp2_with fail
      go_at_call 80
      refine (take_yes p s ⟨#[63]⟩ (k + j) _ QC.out.pa (by have := hd_lt HZ.out; show k + j + 1 ≤ s.size; omega) hs (by rw [hasPre_one]; exact decide_eq_true HZ.out)).mono ?_
      rintro e wl ⟨rfl, hpl, hfl⟩
      have QL := Lib.hid (QC.out.go hfl hpl)
      clear hpl hfl
      have a0 := block_cell QL.out.e6 0 _ rfl
      have a1 := block_cell QL.out.e6 1 _ rfl
      have a2 := block_cell QL.out.e6 2 _ rfl
      have a3 := block_cell QL.out.e6 3 _ rfl
      have a4 := block_cell QL.out.e6 4 _ rfl
      have a5 := block_cell QL.out.e6 5 _ rfl
      have g2 := block_froz QL.out.e6 2
      have g3 := block_froz QL.out.e6 3
      have g4 := block_froz QL.out.e6 4
      have r0 := block_cell QL.out.e4 0 _ rfl
      have r1 := block_cell QL.out.e4 1 _ rfl
      have r2 := block_cell QL.out.e4 2 _ rfl
      have r3 := block_cell QL.out.e4 3 _ rfl
      have r4 := block_cell QL.out.e4 4 _ rfl
      have r5 := block_cell QL.out.e4 5 _ rfl
      have v0 := block_froz QL.out.e4 0
      have v1 := block_froz QL.out.e4 1
      have v2 := block_froz QL.out.e4 2
      have v3 := block_froz QL.out.e4 3
      have v4 := block_froz QL.out.e4 4
      have v5 := block_froz QL.out.e4 5
      go_wp2_with fail
      obtain ⟨wE, hwE⟩ : ∃ q, q = (((((((wl.setCell ⟨b6, 4, none⟩ (.bool true)).setCell ⟨b4, 0, none⟩ (.int .u8 5)).setCell ⟨b4, 1, none⟩ (.slice none 0 0)).setCell ⟨b4, 2, none⟩ (.int .i64 mn)).setCell ⟨b4, 3, none⟩ (.int .i64 mx)).setCell ⟨b4, 4, none⟩ (.bool true)).setCell ⟨b4, 5, none⟩ (.slice (some ⟨b16, 0, none⟩) 1 1)) := ⟨_, rfl⟩
      rw [← hwE]
      have hE : wE.heap[b4]? = some (.cells #[.int .u8 5, .slice none 0 0, .int .i64 mn, .int .i64 mx, .bool true, .slice (some ⟨b16, 0, none⟩) 1 1] 27 (0, 0)) := by
        rw [hwE]
        exact six_cells (((fr1 4 _).block _ (isT_of QL.out.e4).lt n46).trans QL.out.e4)
      have hfE : Fr (fun q => q = b6 ∨ q = b4) wl wE := by
        rw [hwE]
        exact (Fr.mono (fr1 4 _) (fun _ _ e => .inl e)).trans (Fr.mono six_fr (fun _ _ e => .inr e))
      have s0 := block_cell hE 0 _ rfl
      have s1 := block_cell hE 1 _ rfl
      have s2 := block_cell hE 2 _ rfl
      have s3 := block_cell hE 3 _ rfl
      have s4 := block_cell hE 4 _ rfl
      have s5 := block_cell hE 5 _ rfl
      have HD := Lib.hid (QS.done (n := .mk kx sax scx sx mnx mxx lzx nax ncx lx) true QL.out (by rw [HMM.out.1, HMM.out.2]; rfl) HH.out.2.2.2.1 HH.out.2.2.2.2 hi1 hi2 hfE)
      clear hwE hE hfE
      refine bodyPost_ret (v := .tuple #[.agg #[.int .u8 5, .slice none 0 0, .int .i64 mn, .int .i64 mx, .bool true, .slice (some ⟨b16, 0, none⟩) 1 1], .bool true]) (by simp [results, Tryz.results108, go_sem, s0, s1, s2, s3, s4, s5]) rfl ⟨⟨_, HD.out.1, .inl ⟨.mk 5 [] mn mx true [t], j + 1, ?_, rfl, by rw [HT.out]; rfl, by rw [← Nat.add_assoc]; exact HD.out.2.1⟩⟩, HD.out.2.2⟩
      unfold quantifier
      rw [HQU.out]
      dsimp only
      rw [if_pos (by rw [List.getElem?_drop]; have := HZ.out; rw [List.head?_drop] at this; exact this)]
    · have HZ := Lib.hid hz
      clear hz
      go_wp2_with fail
      go_at_call 80
      refine (take_no p s ⟨#[63]⟩ (k + j) _ QC.out.pa hj hs (by rw [hasPre_one]; exact decide_eq_false HZ.out)).mono ?_
      rintro e wl ⟨rfl, hpl, hfl⟩
      have QL := Lib.hid (QC.out.go hfl hpl)
      clear hpl hfl
      have a0 := block_cell QL.out.e6 0 _ rfl
      have a1 := block_cell QL.out.e6 1 _ rfl
      have a2 := block_cell QL.out.e6 2 _ rfl
      have a3 := block_cell QL.out.e6 3 _ rfl
      have a4 := block_cell QL.out.e6 4 _ rfl
      have a5 := block_cell QL.out.e6 5 _ rfl
      have g2 := block_froz QL.out.e6 2
      have g3 := block_froz QL.out.e6 3
      have g4 := block_froz QL.out.e6 4
      have r0 := block_cell QL.out.e4 0 _ rfl
      have r1 := block_cell QL.out.e4 1 _ rfl
      have r2 := block_cell QL.out.e4 2 _ rfl
      have r3 := block_cell QL.out.e4 3 _ rfl
      have r4 := block_cell QL.out.e4 4 _ rfl
      have r5 := block_cell QL.out.e4 5 _ rfl
      have v0 := block_froz QL.out.e4 0
      have v1 := block_froz QL.out.e4 1
      have v2 := block_froz QL.out.e4 2
      have v3 := block_froz QL.out.e4 3
      have v4 := block_froz QL.out.e4 4
      have v5 := block_froz QL.out.e4 5
      go_wp2_with fail
      obtain ⟨wE, hwE⟩ : ∃ q, q = (((((((wl.setCell ⟨b6, 4, none⟩ (.bool false)).setCell ⟨b4, 0, none⟩ (.int .u8 5)).setCell ⟨b4, 1, none⟩ (.slice none 0 0)).setCell ⟨b4, 2, none⟩ (.int .i64 mn)).setCell ⟨b4, 3, none⟩ (.int .i64 mx)).setCell ⟨b4, 4, none⟩ (.bool false)).setCell ⟨b4, 5, none⟩ (.slice (some ⟨b16, 0, none⟩) 1 1)) := ⟨_, rfl⟩
      rw [← hwE]
      have hE : wE.heap[b4]? = some (.cells #[.int .u8 5, .slice none 0 0, .int .i64 mn, .int .i64 mx, .bool false, .slice (some ⟨b16, 0, none⟩) 1 1] 27 (0, 0)) := by
        rw [hwE]
        exact six_cells (((fr1 4 _).block _ (isT_of QL.out.e4).lt n46).trans QL.out.e4)
      have hfE : Fr (fun q => q = b6 ∨ q = b4) wl wE := by
        rw [hwE]
        exact (Fr.mono (fr1 4 _) (fun _ _ e => .inl e)).trans (Fr.mono six_fr (fun _ _ e => .inr e))
      have s0 := block_cell hE 0 _ rfl
      have s1 := block_cell hE 1 _ rfl
      have s2 := block_cell hE 2 _ rfl
      have s3 := block_cell hE 3 _ rfl
      have s4 := block_cell hE 4 _ rfl
      have s5 := block_cell hE 5 _ rfl
      have HD := Lib.hid (QS.done (n := .mk kx sax scx sx mnx mxx lzx nax ncx lx) false QL.out (by rw [HMM.out.1, HMM.out.2]; rfl) HH.out.2.2.2.1 HH.out.2.2.2.2 hi1 hi2 hfE)
      clear hwE hE hfE
      refine bodyPost_ret (v := .tuple #[.agg #[.int .u8 5, .slice none 0 0, .int .i64 mn, .int .i64 mx, .bool false, .slice (some ⟨b16, 0, none⟩) 1 1], .bool true]) (by simp [results, Tryz.results108, go_sem, s0, s1, s2, s3, s4, s5]) rfl ⟨⟨_, HD.out.1, .inl ⟨.mk 5 [] mn mx false [t], j, ?_, rfl, by rw [HT.out]; rfl, HD.out.2.1⟩⟩, HD.out.2.2⟩
      unfold quantifier
      rw [HQU.out]
      dsimp only
      rw [if_neg (by rw [List.getElem?_drop]; have := HZ.out; rw [List.head?_drop] at this; exact this)]
end Go.Proofs.YtimahlimmblgkaaGreatDoor.Sy
