/- A slice of pairs of small words, opened. -/
import Derived.Test.YtkjilodmmcefbaaGreatDoorPst
import Derived.Test.YtkjilodmmcefbaaGreatDoorOfW
namespace Go.Proofs.YtkjilodmmcefbaaGreatDoor
open Go.ChangeShapes Go.WideShapes Go.ChangeAt Go.RowKit Go.Deep
theorem cellsP2 : Tryz.prog.cellsOf 52 = 2 := by kernel_rfl
theorem cellsW : Tryz.prog.cellsOf 39 = 1 := by kernel_rfl
theorem undP2 : Tryz.prog.underlying 52 = some (.array 2 39) := Tryz.underlying52
set_option maxRecDepth 100000 in
theorem open_pairs {H : Type} {enc : TypeId × Value → H} {W : World} {base : Nat} {v : Value} {d : DataW H} {ps : List MemPlace} (hval : Value.okWide Tryz.prog W .any base 51 v)
    (h : DataW.Trod enc Tryz.prog W 0 (fun _ => true) true 51 v d ps) : ∃ a cap l, v = .slice a (List.length l) cap ∧ Pw W a cap l ∧ cap ≤ maxLen := by
  obtain ⟨a, len, cap, rfl⟩ := okWide_slice Tryz.underlying51 hval
  obtain ⟨fuel, hf⟩ := h
  rcases open_slice Tryz.underlying51 hf with ⟨hcs, _⟩ | ⟨a', len', cap', m, n, D, Pl, hcs, hb, hl, hm, hmm, hx, hall⟩
  · have hcs : [Value.slice a len cap] = [.slice none 0 0] := hcs
    cases hcs
    exact ⟨none, 0, [], rfl, ⟨fun h => absurd rfl h, fun _ => ⟨rfl, rfl⟩, Nat.le_refl _, fun x hx => by cases hx⟩, Nat.zero_le _⟩
  · have hcs : [Value.slice a len cap] = [.slice (some a') len' cap'] := hcs
    cases hcs
    simp only [if_true] at hmm
    subst hmm
    have hint : ∀ i, i < len → ∀ j, j < 2 → ∃ z : Int, W.cell? (a'.add (i * 2 + j)) = some (.int .u32 z) ∧ 0 ≤ z ∧ z ≤ 4294967295 := by
      intro i hi j hj
      obtain ⟨cs', hc, ht'⟩ := hall i (by omega)
      rw [cellsP2] at hc
      obtain ⟨ys, n', hn', hy, hlen, hyl, hf⟩ := DataW.trod_array undP2 ht'
      obtain ⟨_, hcl, hat⟩ := World.cells?_some hc
      have hcell := hat j hj
      have h1 := hf j hj
      rw [cellsW, Nat.mul_one] at h1
      have hone' : (cs'.drop j).take 1 = [cs'[j]'(by omega)] := by
        rw [List.drop_eq_getElem_cons (by omega)]
        rfl
      rw [hone', List.getElem?_eq_getElem (by omega)] at h1
      obtain ⟨z, e, _, hw⟩ := DataW.trod_int Tryz.underlying39 h1
      simp only [List.cons.injEq, and_true] at e
      have hv : cs'[j]? = some (cs'[j]'(by omega)) := List.getElem?_eq_getElem (by omega)
      have hz := wf_u32 hw
      exact ⟨z, by rw [← Go.Deep.add_add, hcell, hv, e], hz.1, hz.2⟩
    have h3 : ∀ i, i < len → ∃ r : Rs.R, W.cell? (a'.add (i * 2)) = some (.int .u32 r.1) ∧ W.cell? (a'.add (i * 2 + 1)) = some (.int .u32 r.2) ∧ (0 ≤ r.1 ∧ r.1 ≤ 4294967295) ∧ (0 ≤ r.2 ∧ r.2 ≤ 4294967295) := by
      intro i hi
      obtain ⟨x, hx, x1, x2⟩ := hint i hi 0 (by omega)
      obtain ⟨y, hy, y1, y2⟩ := hint i hi 1 (by omega)
      exact ⟨(x, y), hx, hy, ⟨x1, x2⟩, y1, y2⟩
    obtain ⟨g, hg⟩ := choose_lt h3
    refine ⟨some a', m, (List.range len).map g, by simp, ⟨fun hne => ?_, (fun e => by cases e), by simpa using hl, fun x hx => ?_⟩, hm⟩
    · have h0 : 0 < len := by
        rcases Nat.eq_zero_or_pos len with e | e
        · subst e; exact absurd rfl hne
        · exact e
      obtain ⟨b, off, spot⟩ := a'
      have hspot : spot = none := by simpa [Addr.add] using World.cell?_spot (hg 0 h0).1
      subst hspot
      refine ⟨b, off, rfl, ?_, fun i r hr => ?_⟩
      · have := cell_below (g := b) (o := off) (by simpa [Addr.add] using (hg 0 h0).1)
        exact this
      · simp only [List.getElem?_map] at hr
        obtain ⟨i', hi', rfl⟩ := Option.map_eq_some_iff.1 hr
        obtain ⟨hl1, hl2⟩ := List.getElem?_eq_some_iff.1 hi'
        simp only [List.getElem_range] at hl2
        subst hl2
        simp only [List.length_range] at hl1
        obtain ⟨c0, c1, _⟩ := hg i hl1
        rw [add_at] at c0 c1
        exact ⟨c0, by rw [Nat.add_assoc]; exact c1⟩
    · obtain ⟨i, hi, rfl⟩ := List.mem_map.1 hx
      exact (hg i (List.mem_range.1 hi)).2.2
end Go.Proofs.YtkjilodmmcefbaaGreatDoor
