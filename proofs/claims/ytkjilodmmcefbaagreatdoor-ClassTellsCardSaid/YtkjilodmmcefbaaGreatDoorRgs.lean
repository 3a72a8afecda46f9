/- A slice of ranges, opened. -/
import Derived.Test.YtkjilodmmcefbaaGreatDoorPst
import Derived.Test.YtkjilodmmcefbaaGreatDoorJns
namespace Go.Proofs.YtkjilodmmcefbaaGreatDoor
open Go.ChangeShapes Go.WideShapes Go.ChangeAt Go.RowKit Go.Deep
theorem cells2 : Tryz.prog.cellsOf 34 = 2 := by kernel_rfl
theorem range_fields : ∃ f0 f1 : Field, Tryz.prog.underlying 34 = some (.struct #[f0, f1]) ∧ f0.type = 3 ∧ f1.type = 3 ∧ oneCellFields Tryz.prog #[f0, f1] = true :=
  ⟨_, _, Tryz.underlying34, rfl, rfl, by kernel_rfl⟩
set_option maxRecDepth 100000 in
theorem open_ranges {H : Type} {enc : TypeId × Value → H} {W : World} {base : Nat} {v : Value} {d : DataW H} {ps : List MemPlace} (hval : Value.okWide Tryz.prog W .any base 25 v)
    (h : DataW.Trod enc Tryz.prog W 0 (fun _ => true) true 25 v d ps) : ∃ a cap l, v = .slice a (List.length l) cap ∧ RdR W a l ∧ (a = none → l = [] ∧ cap = 0) ∧ l.length ≤ cap ∧ cap ≤ maxLen := by
  obtain ⟨a, len, cap, rfl⟩ := okWide_slice Tryz.underlying25 hval
  obtain ⟨fuel, hf⟩ := h
  obtain ⟨f0, f1, hu, t0, t1, hone⟩ := range_fields
  rcases open_fields Tryz.underlying25 hu hone cells2 hf with hcs | ⟨a', len', cap', m, hcs, hl, hm, hmm, hall⟩
  · have hcs : [Value.slice a len cap] = [.slice none 0 0] := hcs
    cases hcs
    exact ⟨none, 0, [], rfl, fun h => absurd rfl h, fun _ => ⟨rfl, rfl⟩, Nat.le_refl _, Nat.zero_le _⟩
  · have hcs : [Value.slice a len cap] = [.slice (some a') len' cap'] := hcs
    cases hcs
    simp only [if_true] at hmm
    subst hmm
    have hint : ∀ i, i < len → ∀ j f, (#[f0, f1] : Array Field)[j]? = some f → f.type = 3 → ∃ z : Int, W.cell? (a'.add (i * 2 + j)) = some (.int .i64 z) := by
      intro i hi j f hj ht
      obtain ⟨v, y, n, hc, hy⟩ := hall i (by omega) j f hj
      rw [ht] at hy
      obtain ⟨z, e, _, _⟩ := DataW.trod_int Tryz.underlying3 hy
      simp only [List.cons.injEq, and_true] at e
      subst e
      exact ⟨z, hc⟩
    have h3 : ∀ i, i < len → ∃ r : Rs.R, W.cell? (a'.add (i * 2)) = some (.int .i64 r.1) ∧ W.cell? (a'.add (i * 2 + 1)) = some (.int .i64 r.2) := by
      intro i hi
      obtain ⟨x, hx⟩ := hint i hi 0 f0 rfl t0
      obtain ⟨y, hy⟩ := hint i hi 1 f1 rfl t1
      exact ⟨(x, y), hx, hy⟩
    obtain ⟨g, hg⟩ := choose_lt h3
    refine ⟨some a', m, (List.range len).map g, by simp, fun hne => ?_, (fun e => by cases e), by simpa using hl, hm⟩
    have h0 : 0 < len := by
      rcases Nat.eq_zero_or_pos len with e | e
      · subst e; exact absurd rfl hne
      · exact e
    obtain ⟨b, off, spot⟩ := a'
    have hspot : spot = none := by simpa [Addr.add] using World.cell?_spot (hg 0 h0).1
    subst hspot
    refine ⟨b, off, rfl, ?_, fun i r hr => ?_⟩
    · have := cell_below (g := b) (o := off) (by simpa [Addr.add] using (hg 0 h0).1)
      exact this
    · simp only [List.getElem?_map] at hr
      obtain ⟨i', hi', rfl⟩ := Option.map_eq_some_iff.1 hr
      obtain ⟨hl1, hl2⟩ := List.getElem?_eq_some_iff.1 hi'
      simp only [List.getElem_range] at hl2
      subst hl2
      simp only [List.length_range] at hl1
      obtain ⟨c0, c1⟩ := hg i hl1
      rw [add_at] at c0 c1
      exact ⟨c0, by rw [Nat.add_assoc]; exact c1⟩
end Go.Proofs.YtkjilodmmcefbaaGreatDoor
