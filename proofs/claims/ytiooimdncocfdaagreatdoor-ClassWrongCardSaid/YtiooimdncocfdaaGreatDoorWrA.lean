/- The law ClassWrong: what the calls return at a set that is not right. -/
import Derived.Test.YtiooimdncocfdaaGreatDoorInW
import Derived.Test.YtiooimdncocfdaaGreatDoorCtr
import Derived.Test.YtiooimdncocfdaaGreatDoorMaA
import Derived.Test.YtiooimdncocfdaaGreatDoorAwk
namespace Go.Proofs.YtiooimdncocfdaaGreatDoor
open Go.RowKit Go.Shelf
theorem Sm.take {w : World} {a : Option Addr} {cap : Nat} {l : List Rs.Sm} (h : Sm w a cap l) (k : Nat) : Sm w a cap (l.take k) := by
  refine ⟨fun hne => ?_, fun e => ?_, ?_, fun x hx => h.ok x (List.mem_of_mem_take hx)⟩
  · have hl : l ≠ [] := fun e => hne (by rw [e]; simp)
    obtain ⟨b, off, e, h1, h2⟩ := h.rd hl
    refine ⟨b, off, e, h1, fun i r hr => h2 i r ?_⟩
    rw [List.getElem?_take] at hr
    split at hr
    · exact hr
    · cases hr
  · rw [(h.nil e).1]
    exact ⟨by simp, (h.nil e).2⟩
  · have := h.le
    rw [List.length_take]
    omega
/-- a pair of no ranges and the error of a set that is not right -/
def No60 (W : World) (e : Ending) (w' : World) : Prop := ∃ d f, e = .returned (.tuple #[.slice d 0 f, .int .i64 60]) ∧ Below W.heap.size W w'
theorem No60.of {W w' : World} {e : Ending} (h : PairEr W [] 60 e w') : No60 W e w' := by
  obtain ⟨a, cap, he, _, hb⟩ := h
  exact ⟨a, cap, he, hb⟩
theorem bg {n : Nat} (h : n ≤ 1000) : n < 4611686018427387904 := by omega
section
variable {a b : Option Addr} {ca cb n m : Nat} {L G : Rs.S} {W : World}
theorem wOr (h : Sl W a ca L) (hl : L.length = n) (k : Sl W b cb G) (hm : G.length = m) (hn : n ≤ 1000) (hmm : m ≤ 1000) (hr : Rs.right L = false) :
    Calls Tryz.prog 18 #[.slice a n ca, .slice b m cb] W (No60 W) := by
  subst hl; subst hm
  exact (Or_no h k (bg hn) (bg hmm) (by rw [hr]; rfl)).mono fun _ _ h => No60.of h
theorem wAnd (h : Sl W a ca L) (hl : L.length = n) (k : Sl W b cb G) (hm : G.length = m) (hn : n ≤ 1000) (hmm : m ≤ 1000) (hr : Rs.right L = false) :
    Calls Tryz.prog 19 #[.slice b m cb, .slice a n ca] W (No60 W) := by
  subst hl; subst hm
  exact (And_no k h (bg hmm) (bg hn) (by rw [hr, Bool.and_false])).mono fun _ _ h => No60.of h
theorem wMinus (h : Sl W a ca L) (hl : L.length = n) (k : Sl W b cb G) (hm : G.length = m) (hn : n ≤ 1000) (hmm : m ≤ 1000) (hr : Rs.right L = false) :
    Calls Tryz.prog 20 #[.slice b m cb, .slice a n ca] W (No60 W) := by
  subst hl; subst hm
  exact (Minus_no k h (bg hmm) (bg hn) (by rw [hr, Bool.and_false])).mono fun _ _ h => No60.of h
theorem wNot (h : Sl W a ca L) (hl : L.length = n) (hn : n ≤ 1000) (hr : Rs.right L = false) :
    Calls Tryz.prog 21 #[.slice a n ca] W (No60 W) := by
  subst hl
  exact (Not_no h (bg hn) hr).mono fun _ _ h => No60.of h
theorem wText (hL : Lv W) (h : Sl W a ca L) (hl : L.length = n) (hn : n ≤ 1000) (hr : Rs.right L = false) :
    Calls Tryz.prog 22 #[.slice a n ca] W fun e w' => e = .returned (.tuple #[.string ⟨#[]⟩, .int .i64 60]) ∧ Below W.heap.size W w' := by
  subst hl
  exact Text_not hL h (bg hn) hr
theorem wNext (h : Sl W a ca L) (hl : L.length = n) (hn : n ≤ 1000) (hr : Rs.right L = false) (c : Int) :
    Calls Tryz.prog 23 #[.slice a n ca, .int .i64 c] W fun e w' => e = .returned (.tuple #[.int .i64 0, .bool false]) ∧ Below W.heap.size W w' := by
  subst hl
  have hc := next_calls a ca L c W h (bg hn)
  obtain ⟨e1, e2⟩ := Rs.not_next hr c
  rw [e1, e2] at hc
  exact hc
theorem wHas (h : Sl W a ca L) (hl : L.length = n) (hn : n ≤ 1000) (hr : Rs.right L = false) (c : Int) :
    Calls Tryz.prog 26 #[.slice a n ca, .int .i64 c] W fun e w' => e = .returned (.bool false) ∧ Below W.heap.size W w' := by
  subst hl
  have hc := has_calls a ca L c W h (bg hn)
  rw [hr, Bool.false_and] at hc
  exact hc
theorem wRight (h : Sl W a ca L) (hl : L.length = n) (hn : n ≤ 1000) {r : Bool} (hr : Rs.right L = r) :
    Calls Tryz.prog 24 #[.slice a n ca] W fun e w' => e = .returned (.bool r) ∧ Below W.heap.size W w' := by
  subst hl
  have hc := right_calls a ca L W h.rd (bg hn)
  rw [hr] at hc
  exact hc
theorem wCount (h : Sl W a ca L) (hl : L.length = n) (hn : n ≤ 1000) (hr : Rs.right L = false) :
    Calls Tryz.prog 25 #[.slice a n ca] W fun e w' => e = .returned (.int .i64 0) ∧ Below W.heap.size W w' := by
  subst hl
  have hc := count_calls a ca L W h.rd (fun b off e => (h.sp _ e).2) (bg hn)
  rw [hr] at hc
  exact hc
theorem wOf (h : Sl W a ca L) (hl : L.length = n) (hn : n ≤ 1000) {er : Int} (he : Rs.ofErr L = er) :
    Calls Tryz.prog 27 #[.slice a n ca] W fun e w' => ∃ d p q, e = .returned (.tuple #[.slice d p q, .int .i64 er]) ∧ Below W.heap.size W w' := by
  subst hl
  refine (Of_any h (bg hn)).mono fun e w' hh => ?_
  obtain ⟨d, q, h1, _, h3⟩ := hh
  rw [he] at h1
  exact ⟨d, _, q, h1, h3⟩
theorem gText (hL : Lv W) (h : Sl W a ca G) (hl : G.length = m) (hr : Rs.right G = true) :
    Calls Tryz.prog 22 #[.slice a m ca] W fun e w' => e = .returned (.tuple #[.string ⟨(Rs.textS G).toArray⟩, .int .i64 0]) ∧ Below W.heap.size W w' := by
  subst hl
  exact Text_r hL h hr
theorem gRead (hL : Lv W) {t : ByteArray} {k : Nat} (ht : t.data.toList = (Rs.textS G).take k) (hk : k < (Rs.textS G).length) (hb : t.size ≤ 100000) (hr : Rs.right G = true) (h0 : G ≠ []) :
    Calls Tryz.prog 28 #[.string t] W fun e w' => ∃ d q, e = .returned (.tuple #[.slice d 0 q, .int .i64 0, .int .i64 61]) ∧ Below W.heap.size W w' := by
  refine (Read_no hL (by omega) ht (Rs.read_take hr h0 hk)).mono fun e w' hh => ?_
  obtain ⟨d, q, h1, _, h3⟩ := hh
  exact ⟨d, q, h1, h3⟩
end
theorem rFlat_set1 : ∀ (l : Rs.S) (i : Nat) (v : Int), (rFlat l).set (i * 2 + 1) (.int .i64 v) = rFlat (l.set i ((l.getD i (0, 0)).1, v))
  | [], i, v => by simp [rFlat]
  | r :: l, 0, v => by simp [rFlat, rCells]
  | r :: l, i + 1, v => by
    have ih := rFlat_set1 l i v
    unfold rFlat rCells at ih ⊢
    simp only [List.flatMap_cons, List.set_cons_succ, List.getD_cons_succ, List.cons_append, List.nil_append]
    rw [← ih, show (i + 1) * 2 = (i * 2 + 1) + 1 by omega, List.set_cons_succ]
theorem rFlat_set0 : ∀ (l : Rs.S) (i : Nat) (v : Int), (rFlat l).set (i * 2) (.int .i64 v) = rFlat (l.set i (v, (l.getD i (0, 0)).2))
  | [], i, v => by simp [rFlat]
  | r :: l, 0, v => by simp [rFlat, rCells]
  | r :: l, i + 1, v => by
    have ih := rFlat_set0 l i v
    unfold rFlat rCells at ih ⊢
    simp only [List.flatMap_cons, List.set_cons_succ, List.getD_cons_succ, List.cons_append, List.nil_append]
    rw [← ih, show (i + 1) * 2 = (i * 2) + 1 + 1 by omega, List.set_cons_succ, List.set_cons_succ]
theorem good_take (l : List Rs.Sm) : l.take (min l.length 5) = l.take 5 := by
  rcases Nat.le_total l.length 5 with h | h
  · rw [Nat.min_eq_left h, List.take_length, List.take_of_length_le h]
  · rw [Nat.min_eq_right h]
theorem own_at3 {W : World} {base k : Nat} {v : Value} {l : Rs.S} (h : W.ownsRow base 27 2 v k (rFlat l)) (hl : l.length = k) : ∃ a cap, v = .slice a k cap ∧ Sl W a cap l := by
  obtain ⟨a, cap, rfl, _, hs⟩ := Sl.of_own h
  rw [hl]
  exact ⟨a, cap, rfl, hs⟩
theorem own_some3 {W : World} {base k : Nat} {v : Value} {xs : List Value} (h : W.ownsRow base 27 2 v k xs) (hk : 0 < k) : ∃ g cap, v = .slice (some ⟨g, 0, none⟩) k cap ∧ base ≤ g ∧ g < W.heap.size := by
  rcases h.2 with ⟨rfl, h0⟩ | ⟨g, cap, cur, rfl, hb, hg, rest⟩
  · omega
  · exact ⟨g, cap, rfl, hb, (Array.getElem?_eq_some_iff.1 hg).1⟩
theorem flat_at0 : ∀ {l : Rs.S} {i : Nat} {r : Rs.R}, l[i]? = some r → (rFlat l)[i * 2]? = some (.int .i64 r.1)
  | [], i, r, h => by simp at h
  | q :: l, 0, r, h => by cases h; rfl
  | q :: l, i + 1, r, h => by
    have ih := flat_at0 (l := l) (i := i) (r := r) (by simpa using h)
    rw [show (i + 1) * 2 = i * 2 + 1 + 1 by omega]
    show (rFlat l)[i * 2]? = _
    exact ih
theorem flat_at1 : ∀ {l : Rs.S} {i : Nat} {r : Rs.R}, l[i]? = some r → (rFlat l)[i * 2 + 1]? = some (.int .i64 r.2)
  | [], i, r, h => by simp at h
  | q :: l, 0, r, h => by cases h; rfl
  | q :: l, i + 1, r, h => by
    have ih := flat_at1 (l := l) (i := i) (r := r) (by simpa using h)
    rw [show (i + 1) * 2 + 1 = i * 2 + 1 + 1 + 1 by omega]
    show (rFlat l)[i * 2 + 1]? = _
    exact ih
theorem text_len3 {l : Rs.S} (h : Rs.right l = true) : (Rs.textS l).length ≤ 41 * l.length + 19 := by
  unfold Rs.textS
  split
  · rw [show Rs.allT.length = 19 by decide]; omega
  · have := Rs.flat_len l (Rs.right_rg h)
    simp only [List.length_append, List.length_singleton]
    omega
theorem text_pos3 (l : Rs.S) : 0 < (Rs.textS l).length := by
  unfold Rs.textS
  split
  · decide
  · simp
theorem insert_succ (g n cap k : Nat) (l : Rs.S) (x : Rs.R) (base : Nat) (w0 w : World) (hown : w.ownsRow base 27 2 (.slice (some ⟨g, 0, none⟩) n cap) n (rFlat l)) (hl : l.length = n) (hn : n ≤ 1000) (hk : k < n) (vb : Nat) (hvg : vb ≠ g) (hv : w.heap[vb]? = some (.cells #[.int .i64 x.1, .int .i64 x.2] 27 (0, 0))) (hb : Below base w0 w) :
    Calls Tryz.prog 17 #[.slice (some ⟨g, 0, none⟩) n cap, .int .i64 ((k : Int) + 1), .slice (some ⟨vb, 0, none⟩) 1 1] w (InsPost w0 base l (k + 1) x) := by
  have h := insert_calls g n cap (k + 1) l x base w0 w hown hl hn (by omega) vb hvg hv hb
  rwa [Int.natCast_add] at h
theorem sl_empty {W : World} {g o cap : Nat} (h : g < W.heap.size) : Sl W (some ⟨g, o, none⟩) cap [] := ⟨RdR.nil _ _, (fun e => by cases e), (fun p e => by cases e; exact ⟨rfl, h⟩)⟩
end Go.Proofs.YtiooimdncocfdaaGreatDoor
