/- Several parts in one text: KsE, KsF. -/
import Derived.Test.YtmagojckhfkcdaaGreatDoorKsD
/- Chapter 38's sink: Append whole, and Len. -/
namespace Go.Proofs.YtmagojckhfkcdaaGreatDoor.Sk
open Go Go.RowKit
set_option maxRecDepth 100000 in
theorem append_no (w : World) {p base mb n : Nat} {v : Value} {l : List SI} (key : ByteArray) (a : Option Addr) (c : Nat) (es : List SE) (h : SinkAt w p base mb n v l) (hv : Kv w) (hk : key.size ≤ 1100000) (hl : RdE w a es) (ho : EsOk w es) (hn : es.length ≤ 1100000) (hall : entRight key es = false) :
    Calls Tryz.prog 11 #[.pointer (some ⟨p, 0, none⟩), .string key, .slice a es.length c] w (AppPostN w p base mb v l (es.map (toIt key))) := by
  have HR := Lib.hid (And.intro h (And.intro hv hl))
  have hp : p < w.heap.size := (Array.getElem?_eq_some_iff.1 h.cells).1
  have HA := Lib.hid hall
  have HEO := Lib.hid ho
  clear h hv hl hall ho
  go_enter Tryz.func11, Tryz.ntmps11
  go_wp2_with fail
  go_at_call 30
  refine (none_cell _ (mb := mb) (by rw [World.cell?_alloc_lt _ _ _ (by simpa using hp)]; simp [World.cell?, HR.out.1.cells])).mono ?_
  rintro e w1 ⟨rfl, rfl⟩
  go_wp2_with fail
  go_at_call 32
  obtain ⟨w1, hw1⟩ : ∃ w1, (w.alloc (.cells #[.string key] 9)).alloc (.cells #[.func (Fn.func 31) #[] #[.pointer (some ⟨w.heap.size, 0, none⟩)]] 76) = w1 := ⟨_, rfl⟩
  have hb1 : Below w.heap.size w w1 := by rw [← hw1]; exact ((Below.refl _ _).alloc (Nat.le_refl _) _).alloc (by simp) _
  have hs1 : w1.heap.size = w.heap.size + 2 := by rw [← hw1]; simp
  have hcl : Clo w1 w.heap.size (w.heap.size + 1) key := by
    refine ⟨?_, ?_, by omega, by omega⟩
    · rw [← hw1, World.cell?_alloc_lt _ _ _ (by simp)]
      exact new_cell _ _ _ _ _ rfl
    · rw [← hw1]
      simp
  rw [hw1]
  refine (contains_calls w.heap.size (w.heap.size + 1) key a c es w1 hcl (HR.out.2.1.below hb1 (Nat.le_refl _)) hk (HR.out.2.2.below hb1 (Nat.le_refl _)) ⟨HEO.out.ln, HEO.out.sz⟩ (by omega)).mono ?_
  rintro e w2 ⟨rfl, hb2⟩
  rw [HA.out]
  have HB2 := Lib.hid (Bthen hb1 hb2)
  clear hb2 hb1 hw1 hcl
  go_wp2_with fail
  go_ret
  refine AppPostN.no HR.out.1 HB2.out (er := 380) ?_ (by decide) rfl
  unfold appErr
  rw [if_neg (by rw [all_it, HA.out]; decide)]
theorem append_callsN (w : World) {p base mb n : Nat} {v : Value} {l : List SI} (key : ByteArray) (a : Option Addr) (c : Nat) (es : List SE) (h : SinkAt w p base mb n v l) (hv : Kv w) (hk : key.size ≤ 1100000) (hl : RdE w a es) (ho : EsOk w es) (hn : es.length ≤ 1100000) :
    Calls Tryz.prog 11 #[.pointer (some ⟨p, 0, none⟩), .string key, .slice a es.length c] w (AppPostN w p base mb v l (es.map (toIt key))) := by
  cases e : entRight key es with
  | true => exact append_ok w key a c es h hv hk hl hn e
  | false => exact append_no w key a c es h hv hk hl ho hn e
theorem append_calls (w : World) {p base mb n : Nat} {v : Value} {l : List SI} (key : ByteArray) (a : Option Addr) (c : Nat) (es : List SE) (h : SinkAt w p base mb n v l) (hv : Kv w) (hk : key.size ≤ 1100000) (hl : RdE w a es) (ho : EsOk w es) (hn : es.length ≤ 1100000) :
    Calls Tryz.prog 11 #[.pointer (some ⟨p, 0, none⟩), .string key, .slice a es.length c] w (AppPost w p base mb v l (es.map (toIt key))) :=
  (append_callsN w key a c es h hv hk hl ho hn).mono fun _ _ h => h.old
theorem len_calls (w : World) {p base mb n : Nat} {v : Value} {l : List SI} (h : SinkAt w p base mb n v l) :
    Calls Tryz.prog 22 #[.pointer (some ⟨p, 0, none⟩)] w fun e w' => e = .returned (.int .i64 l.length) ∧ w = w' := by
  have c1 : w.cell? ⟨p, 1, none⟩ = some (.map (some mb)) := by simp [World.cell?, h.cells]
  have c0 : w.cell? ⟨p, 0, none⟩ = some v := by simp [World.cell?, h.cells]
  obtain ⟨va, vc, rfl⟩ := own_form h.own
  clear h
  go_enter Tryz.func22, Tryz.ntmps22
  go_wp2_with fail
  go_at_call 30
  refine (none_cell _ (mb := mb) c1).mono ?_
  rintro e w1 ⟨rfl, rfl⟩
  go_wp2
  go_ret
  exact ⟨rfl, rfl⟩
end Go.Proofs.YtmagojckhfkcdaaGreatDoor.Sk
/- Chapter 38's sink: what Append leaves as it was. -/
namespace Go.Proofs.YtmagojckhfkcdaaGreatDoor.Sk
open Go Go.RowKit
theorem own_base {w : World} {base n size : Nat} {T : TypeId} {v : Value} {xs : List Value} (h : w.ownsRow base T size v n xs) {k : Nat} (hk : v.ownBlock = some k) : base ≤ k := by
  rcases h.2 with ⟨rfl, _⟩ | ⟨g, cap, cur, rfl, hb, hg, _⟩
  · simp [Value.ownBlock] at hk
  · obtain rfl : g = k := by simpa [Value.ownBlock] using hk
    exact hb
section
variable {w w' : World} {p base mb n : Nat} {v : Value} {l : List SI}
theorem SinkAt.lp (h : SinkAt w p base mb n v l) : p < w.heap.size := (isT_of h.cells).lt
theorem SinkAt.notMap (h : SinkAt w p base mb n v l) {b : Nat} {T : TypeId} (hb : isT w b T) : b ≠ mb := by
  rintro rfl
  obtain ⟨D, ⟨q, c, hq, _⟩, _⟩ := h.map
  obtain ⟨cs, fz, hc⟩ := hb
  rw [hc] at hq
  cases hq
theorem SinkAt.notX (h : SinkAt w p base mb n v l) {b : Nat} {T : TypeId} (hb : isT w b T) (h1 : T ≠ 62) (h2 : T ≠ 40) : ¬ (b = p ∨ b = mb ∨ v.ownBlock = some b) := by
  rintro (e | e | e)
  · exact hb.ne (isT_of h.cells) h1 e
  · exact h.notMap hb e
  · exact hb.ne (own_isT h.own e) h2 rfl
theorem SinkAt.keep (h : SinkAt w p base mb n v l) (hf : Fr (fun k => k = p ∨ k = mb ∨ v.ownBlock = some k) w w') {b : Nat} {cs : Array Value} {T : TypeId} {fz : Nat × Nat} (hb : w.heap[b]? = some (.cells cs T fz)) (h1 : T ≠ 62) (h2 : T ≠ 40) : w'.heap[b]? = some (.cells cs T fz) :=
  (hf.block b (isT_of hb).lt (h.notX (isT_of hb) h1 h2)).trans hb
theorem SinkAt.ll (h : SinkAt w p base mb n v l) (hf : Fr (fun k => k = p ∨ k = mb ∨ v.ownBlock = some k) w w') {a : Option Addr} {cap : Nat} {m : List Lab} (hl : Ll w a cap m) : Ll w' a cap m :=
  hl.fr hf (fun _ hb => h.notX hb (by decide) (by decide))
theorem SinkAt.app_below (h : SinkAt w p base mb n v l) (hf : Fr (fun k => k = p ∨ k = mb ∨ v.ownBlock = some k) w w') {B : Nat} (h1 : B ≤ p) (h2 : B ≤ mb) (h3 : B ≤ base) : Below B w w' :=
  hf.below (fun k hk hx => by
    rcases hx with e | e | e
    · omega
    · omega
    · have := own_base h.own e; omega) (by have := h.lp; omega)
theorem SinkAt.other (h : SinkAt w p base mb n v l) (hf : Fr (fun k => k = p ∨ k = mb ∨ v.ownBlock = some k) w w') {p' base' mb' n' : Nat} {v' : Value} {l' : List SI} (k : SinkAt w p' base' mb' n' v' l') (hp : p' ≠ p) (hm : mb' ≠ mb) (hv : ∀ b, v.ownBlock = some b → v'.ownBlock ≠ some b) : SinkAt w' p' base' mb' n' v' l' := by
  have hp' : ¬ (p' = p ∨ p' = mb ∨ v.ownBlock = some p') := by
    rintro (e | e | e)
    · exact hp e
    · exact h.notMap (isT_of k.cells) e
    · exact (isT_of k.cells).ne (own_isT h.own e) (by decide) rfl
  have hm' : ¬ (mb' = p ∨ mb' = mb ∨ v.ownBlock = some mb') := by
    rintro (e | e | e)
    · exact k.notMap (isT_of h.cells) e.symm
    · exact hm e
    · exact k.notMap (own_isT h.own e) rfl
  refine ⟨(hf.block p' k.lp hp').trans k.cells, own_fr k.own hf (fun b hb hx => ?_), fun x hx => h.ll hf (k.lab x hx), k.map.fr hf hm', k.le, k.len, k.ok, Nat.le_trans k.bs hf.size⟩
  rcases hx with e | e | e
  · exact (own_isT k.own hb).ne (isT_of h.cells) (by decide) e
  · exact h.notMap (own_isT k.own hb) e
  · exact hv b e hb
end
theorem RdE.new (w : World) (es : List SE) (xs : Array Value) (hx : xs.toList = eFlat es) (hl : ∀ x ∈ es, Ll w x.la x.lc x.e.lab) : RdE (w.alloc (.cells xs 34)) (some ⟨w.heap.size, 0, none⟩) es := by
  refine ⟨fun _ => ⟨w.heap.size, 0, rfl, ⟨_, _, heap_alloc_new w _⟩, fun j u hu => ?_⟩, fun x hx' => (hl x hx').below ((Below.refl _ _).alloc (Nat.le_refl _) _) (Nat.le_refl _)⟩
  rw [Nat.zero_add]
  exact new_cell w xs _ j u (by rw [← hx] at hu; simpa using hu)
theorem block_cell {w : World} {b : Nat} {cs : Array Value} {T : TypeId} (h : w.heap[b]? = some (.cells cs T (0, 0))) (j : Nat) (u : Value) (hu : cs[j]? = some u) : w.cell? ⟨b, j, none⟩ = some u := by
  simp only [World.cell?, h]
  exact hu
theorem block_froz {w : World} {b : Nat} {cs : Array Value} {T : TypeId} (h : w.heap[b]? = some (.cells cs T (0, 0))) (j : Nat) : w.frozen? ⟨b, j, none⟩ = false := by simp [World.frozen?, h]
theorem own_froz {w : World} {base g n cap k size : Nat} {T : TypeId} {xs : List Value} (h : w.ownsRow base T size (.slice (some ⟨g, 0, none⟩) n cap) k xs) (j : Nat) : w.frozen? ⟨g, j, none⟩ = false := by
  rcases h.2 with ⟨e, _⟩ | ⟨g', cap', cur, e, hb, hg, _⟩
  · cases e
  · cases e; exact block_froz hg j
theorem own_weak {W : World} {base base' n size : Nat} {T : TypeId} {v : Value} {xs : List Value} (h : W.ownsRow base T size v n xs) (hb : base' ≤ base) : W.ownsRow base' T size v n xs := by
  obtain ⟨h1, h2⟩ := h
  refine ⟨h1, ?_⟩
  rcases h2 with h2 | ⟨g, cap, cur, e, hg, r⟩
  · exact .inl h2
  · exact .inr ⟨g, cap, cur, e, Nat.le_trans hb hg, r⟩
theorem below_own {w W w' : World} {base size n : Nat} {T : TypeId} {v : Value} {xs : List Value} (hb : Below base w W) (hs : base ≤ W.heap.size) (h : W.ownsRow base T size v n xs) (hg : W.grownBy w' v.ownBlock) : Below base w w' :=
  hb.grown hg hs fun j e => by
    rcases h.2 with ⟨rfl, _⟩ | ⟨g, cap, cur, rfl, hg, _⟩
    · simp [Value.ownBlock] at e
    · obtain rfl : g = j := by simpa [Value.ownBlock] using e
      exact hg
end Go.Proofs.YtmagojckhfkcdaaGreatDoor.Sk
