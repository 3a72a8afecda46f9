/- Chapter 38: slices.Clone at labels; flat rows that are read. -/
import Derived.Test.YtiooimdncocfdaaGreatDoorKfA
namespace Go.Proofs.YtiooimdncocfdaaGreatDoor.Sk
open Go Go.RowKit
/-- the slice at a reads, in w, as the cells xs -/
def RdF (w : World) (a : Option Addr) (xs : List Value) : Prop := xs ≠ [] → ∃ b off, a = some ⟨b, off, none⟩ ∧ b < w.heap.size ∧ ∀ j u, xs[j]? = some u → w.cell? ⟨b, off + j, none⟩ = some u
theorem RdF.below {w w1 : World} {a : Option Addr} {xs : List Value} (h : RdF w a xs) (hb : Below w.heap.size w w1) : RdF w1 a xs := by
  intro hl
  obtain ⟨b, off, e, h1, h2⟩ := h hl
  exact ⟨b, off, e, Nat.lt_of_lt_of_le h1 hb.size, fun j u hu => (hb.cell (p := ⟨b, off + j, none⟩) h1).trans (h2 j u hu)⟩
theorem lFlat_one {l : List Lab} : ∀ u ∈ lFlat l, u.oneCell' = true := by
  intro u hu
  unfold lFlat labB at hu
  simp only [List.mem_flatMap, List.mem_cons, List.not_mem_nil, or_false] at hu
  obtain ⟨x, _, rfl | rfl⟩ := hu <;> rfl
theorem lFlat_idx : ∀ (l : List Lab) (j : Nat) (u : Value), (lFlat l)[j]? = some u → ∃ i x, l[i]? = some x ∧ ((j = i * 2 ∧ u = .string x.1) ∨ (j = i * 2 + 1 ∧ u = .string x.2))
  | [], j, u, h => by simp [lFlat] at h
  | x :: l, 0, u, h => by
    simp [lFlat, labB] at h
    exact ⟨0, x, rfl, .inl ⟨rfl, h.symm⟩⟩
  | x :: l, 1, u, h => by
    simp [lFlat, labB] at h
    exact ⟨0, x, rfl, .inr ⟨rfl, h.symm⟩⟩
  | x :: l, j + 2, u, h => by
    have h' : (lFlat l)[j]? = some u := h
    obtain ⟨i, y, hy, e⟩ := lFlat_idx l j u h'
    refine ⟨i + 1, y, by simpa using hy, ?_⟩
    rcases e with ⟨rfl, e⟩ | ⟨rfl, e⟩
    · exact .inl ⟨by omega, e⟩
    · exact .inr ⟨by omega, e⟩
theorem RdL.flat {w : World} {a : Option Addr} {l : List Lab} (h : RdL w a l) : RdF w a (lFlat l) := by
  intro hx
  obtain ⟨b, off, e, ht, hc⟩ := h (fun e => hx (by rw [e]; rfl))
  refine ⟨b, off, e, ht.lt, fun j u hu => ?_⟩
  obtain ⟨i, x, hi, hj⟩ := lFlat_idx l j u hu
  obtain ⟨c0, c1⟩ := hc i x hi
  rcases hj with ⟨rfl, rfl⟩ | ⟨rfl, rfl⟩
  · exact c0
  · exact c1
set_option maxRecDepth 100000 in
set_option maxHeartbeats 1000000 in
theorem cloneL_flat (a : Option Addr) (cap n : Nat) (xs : List Value) (w : World) (hrd : RdF w a xs) (hl : xs.length = n * 2) (hnil : a = none → n = 0 ∧ cap = 0) (h1 : ∀ u ∈ xs, u.oneCell' = true) (hn : n ≤ 1000000000) :
    Calls Tryz.prog 155 #[.slice a n cap] w fun e w' => ∃ v, e = .returned v ∧ w'.ownsRow w.heap.size 165 2 v n xs ∧ Below w.heap.size w w' := by
  have hz := Tryz.info165
  cases a with
  | none =>
    obtain ⟨rfl, rfl⟩ := hnil rfl
    obtain rfl : xs = [] := List.eq_nil_of_length_eq_zero (by omega)
    have hq := fun wx : World => Lib.run_eql_slice_nil (P := Tryz.prog) wx 56 165 none 0 0 0 0 Tryz.underlying56
    clear hz
    go_enter Tryz.func155, Tryz.ntmps155
    go_wp2
    go_ret
    exact ⟨_, rfl, World.ownsRow_nil _ _ _ _, Below.refl _ _⟩
  | some ad =>
    have hq := fun wx : World => Lib.run_eql_slice_nil (P := Tryz.prog) wx 56 165 (some ad) n cap 0 0 Tryz.underlying56
    have hown0 : (w.alloc (.cells #[] 165)).ownsRow w.heap.size 165 2 (.slice (some ⟨w.heap.size, 0, none⟩) 0 0) 0 [] :=
      ⟨rfl, .inr ⟨w.heap.size, 0, #[], rfl, Nat.le_refl _, heap_alloc_new w _, Nat.le_refl _, Nat.zero_le _, rfl, rfl⟩⟩
    have H1 := Lib.hid (And.intro h1 hz)
    have HL := Lib.hid hl
    by_cases hx : xs = []
    · subst hx
      have hnn : n = 0 := by simp at hl; omega
      subst hnn
      clear hrd hnil h1 hz hl
      go_enter Tryz.func155, Tryz.ntmps155
      go_wp2_with (at_builtin; refine wpList_app rfl _ _ 56 165 2 32 _ rfl Tryz.underlying56 H1.out.2 rfl (by decide) (by decide) w.heap.size _ 0 [] rfl hown0 ad 0 cap [] rfl rfl (fun j u hu => by simp at hu) (fun u hu => by simp at hu) (by omega) (by simp) ?_; intro v' w1 hown' _ _ hbel)
      go_ret
      exact ⟨_, rfl, hown', hbel _ ((Below.refl _ _).alloc (Nat.le_refl _) _)⟩
    · obtain ⟨b, off, e, hb, hc⟩ := hrd hx
      cases e
      have HN : Hid (∀ j u, xs[j]? = some u → (w.alloc (.cells #[] 165)).cell? ((⟨b, off, none⟩ : Addr).add j) = some u) := Lib.hid (fun j u hu => by
        rw [Addr.add_lit, World.cell?_alloc_lt _ _ _ (by exact hb)]
        exact hc j u hu)
      clear hrd hnil h1 hz hl hc
      go_enter Tryz.func155, Tryz.ntmps155
      go_wp2_with (at_builtin; refine wpList_app rfl _ _ 56 165 2 32 _ rfl Tryz.underlying56 H1.out.2 rfl (by decide) (by decide) w.heap.size _ 0 [] rfl hown0 ⟨b, off, none⟩ n cap xs rfl HL.out HN.out H1.out.1 (by omega) (by simp) ?_; intro v' w1 hown' _ _ hbel; simp only [Nat.zero_add, List.nil_append] at hown')
      go_ret
      exact ⟨_, rfl, hown', hbel _ ((Below.refl _ _).alloc (Nat.le_refl _) _)⟩
theorem cloneL_calls (a : Option Addr) (cap : Nat) (l : List Lab) (w : World) (h : RdL w a l) (hnil : a = none → l = [] ∧ cap = 0) (hn : l.length ≤ 1000000000) :
    Calls Tryz.prog 155 #[.slice a l.length cap] w fun e w' => ∃ v, e = .returned v ∧ w'.ownsRow w.heap.size 165 2 v l.length (lFlat l) ∧ Below w.heap.size w w' :=
  cloneL_flat a cap l.length (lFlat l) w h.flat (lFlat_length l) (fun e => ⟨by rw [(hnil e).1]; rfl, (hnil e).2⟩) lFlat_one hn
end Go.Proofs.YtiooimdncocfdaaGreatDoor.Sk
