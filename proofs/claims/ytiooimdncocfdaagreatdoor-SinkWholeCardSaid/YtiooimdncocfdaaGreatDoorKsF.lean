/- Chapter 38's sink: what Append leaves as it was. -/
import Derived.Test.YtiooimdncocfdaaGreatDoorKsE
namespace Go.Proofs.YtiooimdncocfdaaGreatDoor.Sk
open Go Go.RowKit
theorem own_base {w : World} {base n size : Nat} {T : TypeId} {v : Value} {xs : List Value} (h : w.ownsRow base T size v n xs) {k : Nat} (hk : v.ownBlock = some k) : base ≤ k := by
  rcases h.2 with ⟨rfl, _⟩ | ⟨g, cap, cur, rfl, hb, hg, _⟩
  · simp [Value.ownBlock] at hk
  · obtain rfl : g = k := by simpa [Value.ownBlock] using hk
    exact hb
section
variable {w w' : World} {p base mb n : Nat} {v : Value} {l : List SI}
theorem SinkAt.lp (h : SinkAt w p base mb n v l) : p < w.heap.size := (isT_of h.cells).lt
theorem SinkAt.notMap (h : SinkAt w p base mb n v l) {b : Nat} {T : TypeId} (hb : isT w b T) : b ≠ mb := by
  rintro rfl
  obtain ⟨D, ⟨q, c, hq, _⟩, _⟩ := h.map
  obtain ⟨cs, fz, hc⟩ := hb
  rw [hc] at hq
  cases hq
theorem SinkAt.notX (h : SinkAt w p base mb n v l) {b : Nat} {T : TypeId} (hb : isT w b T) (h1 : T ≠ 144) (h2 : T ≠ 61) : ¬ (b = p ∨ b = mb ∨ v.ownBlock = some b) := by
  rintro (e | e | e)
  · exact hb.ne (isT_of h.cells) h1 e
  · exact h.notMap hb e
  · exact hb.ne (own_isT h.own e) h2 rfl
theorem SinkAt.keep (h : SinkAt w p base mb n v l) (hf : Fr (fun k => k = p ∨ k = mb ∨ v.ownBlock = some k) w w') {b : Nat} {cs : Array Value} {T : TypeId} {fz : Nat × Nat} (hb : w.heap[b]? = some (.cells cs T fz)) (h1 : T ≠ 144) (h2 : T ≠ 61) : w'.heap[b]? = some (.cells cs T fz) :=
  (hf.block b (isT_of hb).lt (h.notX (isT_of hb) h1 h2)).trans hb
theorem SinkAt.ll (h : SinkAt w p base mb n v l) (hf : Fr (fun k => k = p ∨ k = mb ∨ v.ownBlock = some k) w w') {a : Option Addr} {cap : Nat} {m : List Lab} (hl : Ll w a cap m) : Ll w' a cap m :=
  hl.fr hf (fun _ hb => h.notX hb (by decide) (by decide))
theorem SinkAt.app_below (h : SinkAt w p base mb n v l) (hf : Fr (fun k => k = p ∨ k = mb ∨ v.ownBlock = some k) w w') {B : Nat} (h1 : B ≤ p) (h2 : B ≤ mb) (h3 : B ≤ base) : Below B w w' :=
  hf.below (fun k hk hx => by
    rcases hx with e | e | e
    · omega
    · omega
    · have := own_base h.own e; omega) (by have := h.lp; omega)
theorem SinkAt.other (h : SinkAt w p base mb n v l) (hf : Fr (fun k => k = p ∨ k = mb ∨ v.ownBlock = some k) w w') {p' base' mb' n' : Nat} {v' : Value} {l' : List SI} (k : SinkAt w p' base' mb' n' v' l') (hp : p' ≠ p) (hm : mb' ≠ mb) (hv : ∀ b, v.ownBlock = some b → v'.ownBlock ≠ some b) : SinkAt w' p' base' mb' n' v' l' := by
  have hp' : ¬ (p' = p ∨ p' = mb ∨ v.ownBlock = some p') := by
    rintro (e | e | e)
    · exact hp e
    · exact h.notMap (isT_of k.cells) e
    · exact (isT_of k.cells).ne (own_isT h.own e) (by decide) rfl
  have hm' : ¬ (mb' = p ∨ mb' = mb ∨ v.ownBlock = some mb') := by
    rintro (e | e | e)
    · exact k.notMap (isT_of h.cells) e.symm
    · exact hm e
    · exact k.notMap (own_isT h.own e) rfl
  refine ⟨(hf.block p' k.lp hp').trans k.cells, own_fr k.own hf (fun b hb hx => ?_), fun x hx => h.ll hf (k.lab x hx), k.map.fr hf hm', k.le, k.len, k.ok, Nat.le_trans k.bs hf.size⟩
  rcases hx with e | e | e
  · exact (own_isT k.own hb).ne (isT_of h.cells) (by decide) e
  · exact h.notMap (own_isT k.own hb) e
  · exact hv b e hb
end
theorem RdE.new (w : World) (es : List SE) (xs : Array Value) (hx : xs.toList = eFlat es) (hl : ∀ x ∈ es, Ll w x.la x.lc x.e.lab) : RdE (w.alloc (.cells xs 59)) (some ⟨w.heap.size, 0, none⟩) es := by
  refine ⟨fun _ => ⟨w.heap.size, 0, rfl, ⟨_, _, heap_alloc_new w _⟩, fun j u hu => ?_⟩, fun x hx' => (hl x hx').below ((Below.refl _ _).alloc (Nat.le_refl _) _) (Nat.le_refl _)⟩
  rw [Nat.zero_add]
  exact new_cell w xs _ j u (by rw [← hx] at hu; simpa using hu)
theorem block_cell {w : World} {b : Nat} {cs : Array Value} {T : TypeId} (h : w.heap[b]? = some (.cells cs T (0, 0))) (j : Nat) (u : Value) (hu : cs[j]? = some u) : w.cell? ⟨b, j, none⟩ = some u := by
  simp only [World.cell?, h]
  exact hu
end Go.Proofs.YtiooimdncocfdaaGreatDoor.Sk
