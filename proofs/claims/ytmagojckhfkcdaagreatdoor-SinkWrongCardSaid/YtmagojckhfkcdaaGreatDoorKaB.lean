/- Chapter 38: slices.Clone at small entries, entries and items. -/
import Derived.Test.YtmagojckhfkcdaaGreatDoorKhB
namespace Go.Proofs.YtmagojckhfkcdaaGreatDoor.Sk
open Go Go.RowKit
theorem infoIt : (Tryz.prog.info? 40).map (fun i => (i.zero, i.size, i.bytes)) = some (some (.agg #[.string ⟨#[]⟩, .slice none 0 0, .bool false, .int .u64 0, .bool false, .int .i64 0, .int .i64 0]), 7, 80) := by kernel_rfl
set_option maxRecDepth 100000 in
set_option maxHeartbeats 1000000 in
theorem cloneI_flat (a : Option Addr) (cap n : Nat) (xs : List Value) (w : World) (hrd : RdF w a xs) (hl : xs.length = n * 7) (hnil : a = none → n = 0 ∧ cap = 0) (h1 : ∀ u ∈ xs, u.oneCell' = true) (hn : n ≤ 1000000000) :
    Calls Tryz.prog 16 #[.slice a n cap] w fun e w' => ∃ v, e = .returned v ∧ w'.ownsRow w.heap.size 40 7 v n xs ∧ Below w.heap.size w w' := by
  have hz := infoIt
  cases a with
  | none =>
    obtain ⟨rfl, rfl⟩ := hnil rfl
    obtain rfl : xs = [] := List.eq_nil_of_length_eq_zero (by omega)
    have hq := fun wx : World => Lib.run_eql_slice_nil (P := Tryz.prog) wx 28 40 none 0 0 0 0 Tryz.underlying28
    clear hz
    go_enter Tryz.func16, Tryz.ntmps16
    go_wp2
    go_ret
    exact ⟨_, rfl, World.ownsRow_nil _ _ _ _, Below.refl _ _⟩
  | some ad =>
    have hq := fun wx : World => Lib.run_eql_slice_nil (P := Tryz.prog) wx 28 40 (some ad) n cap 0 0 Tryz.underlying28
    have hown0 : (w.alloc (.cells #[] 40)).ownsRow w.heap.size 40 7 (.slice (some ⟨w.heap.size, 0, none⟩) 0 0) 0 [] :=
      ⟨rfl, .inr ⟨w.heap.size, 0, #[], rfl, Nat.le_refl _, heap_alloc_new w _, Nat.le_refl _, Nat.zero_le _, rfl, rfl⟩⟩
    have H1 := Lib.hid (And.intro h1 hz)
    have HL := Lib.hid hl
    by_cases hx : xs = []
    · subst hx
      have hnn : n = 0 := by simp at hl; omega
      subst hnn
      clear hrd hnil h1 hz hl
      go_enter Tryz.func16, Tryz.ntmps16
      go_wp2_with (at_builtin; refine wpList_app rfl _ _ 28 40 7 80 _ rfl Tryz.underlying28 H1.out.2 rfl (by decide) (by decide) w.heap.size _ 0 [] rfl hown0 ad 0 cap [] rfl rfl (fun j u hu => by simp at hu) (fun u hu => by simp at hu) (by omega) (by simp) ?_; intro v' w1 hown' _ _ hbel)
      go_ret
      exact ⟨_, rfl, hown', hbel _ ((Below.refl _ _).alloc (Nat.le_refl _) _)⟩
    · obtain ⟨b, off, e, hb, hc⟩ := hrd hx
      cases e
      have HN : Hid (∀ j u, xs[j]? = some u → (w.alloc (.cells #[] 40)).cell? ((⟨b, off, none⟩ : Addr).add j) = some u) := Lib.hid (fun j u hu => by
        rw [Addr.add_lit, World.cell?_alloc_lt _ _ _ (by exact hb)]
        exact hc j u hu)
      clear hrd hnil h1 hz hl hc
      go_enter Tryz.func16, Tryz.ntmps16
      go_wp2_with (at_builtin; refine wpList_app rfl _ _ 28 40 7 80 _ rfl Tryz.underlying28 H1.out.2 rfl (by decide) (by decide) w.heap.size _ 0 [] rfl hown0 ⟨b, off, none⟩ n cap xs rfl HL.out HN.out H1.out.1 (by omega) (by simp) ?_; intro v' w1 hown' _ _ hbel; simp only [Nat.zero_add, List.nil_append] at hown')
      go_ret
      exact ⟨_, rfl, hown', hbel _ ((Below.refl _ _).alloc (Nat.le_refl _) _)⟩
end Go.Proofs.YtmagojckhfkcdaaGreatDoor.Sk
