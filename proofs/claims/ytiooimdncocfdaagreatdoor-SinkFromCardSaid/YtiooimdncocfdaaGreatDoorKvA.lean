/- Chapter 38: two sinks, and lists of items beside them. -/
import Derived.Test.YtiooimdncocfdaaGreatDoorKyP
namespace Go.Proofs.YtiooimdncocfdaaGreatDoor.Sk
open Go Go.RowKit
/-- no row of the sink's own lies where the list lies -/
def AwI (v : Value) (a : Option Addr) : Prop := ∀ b, v.ownBlock = some b → ∀ q, a = some q → q.block ≠ b
theorem RdG.of_flat {w0 w : World} {p mb : Nat} {a : Option Addr} {l : List Sm} (h : RdF w0 a (sFlat l)) (hb : Below w0.heap.size w0 w) (hp : w0.heap.size ≤ p) (hm : w0.heap.size ≤ mb) : RdG w p mb a l := by
  intro hl
  obtain ⟨b, off, e, h1, hc⟩ := h.below hb (by cases l with | nil => exact absurd rfl hl | cons x r => simp [sFlat, smB])
  obtain ⟨b', off', e', h1', _⟩ := h (by cases l with | nil => exact absurd rfl hl | cons x r => simp [sFlat, smB])
  rw [e] at e'
  cases e'
  refine ⟨b, off, e, h1, by omega, fun i x hi j u hu => ?_⟩
  rw [Nat.add_assoc]
  exact hc _ _ (flat_at smB 4 (fun _ => rfl) hi hu)
section
variable {w w' : World} {p base mb n : Nat} {v : Value} {l : List SI}
theorem SinkAt.keepI (h : SinkAt w p base mb n v l) (hf : Fr (fun k => k = p ∨ k = mb ∨ v.ownBlock = some k) w w') {a : Option Addr} {m : List SI} (hr : RdI w a m) (ha : AwI v a) : RdI w' a m := by
  refine ⟨fun hl => ?_, fun x hx' => h.ll hf (hr.lab x hx')⟩
  obtain ⟨b, off, e, ht, hc⟩ := hr.rd hl
  have hb : ¬ (b = p ∨ b = mb ∨ v.ownBlock = some b) := by
    rintro (e1 | e1 | e1)
    · exact ht.ne (isT_of h.cells) (by decide) e1
    · exact h.notMap ht e1
    · exact ha b e1 _ e rfl
  exact ⟨b, off, e, hf.isT ht hb, fun j u hu => (hf.cell ht.lt hb).trans (hc j u hu)⟩
/-- an empty sink beside another one that is filled -/
theorem SinkAt.emptyFr {X : Nat → Prop} (h : SinkAt w p base mb n (.slice none 0 0) []) (hf : Fr X w w') (hp : ¬ X p) (hm : ¬ X mb) : SinkAt w' p base mb n (.slice none 0 0) [] :=
  ⟨(hf.block p h.lp hp).trans h.cells, World.ownsRow_nil _ _ _ _, (fun x hx => by cases hx), h.map.fr hf hm, h.le, h.len, h.ok, Nat.le_trans h.bs hf.size⟩
end
/-- what writes to blocks of another type leaves a sink, and a list of items, as they are -/
theorem SinkAt.frT {X : Nat → Prop} {w w' : World} {p base mb n : Nat} {v : Value} {l : List SI} {T : TypeId} (h : SinkAt w p base mb n v l) (hf : Fr X w w') (hX : ∀ k, X k → isT w k T) (h1 : T ≠ 144) (h2 : T ≠ 61) (h3 : T ≠ 165) : SinkAt w' p base mb n v l :=
  ⟨(hf.block p h.lp (fun hx => (hX p hx).ne (isT_of h.cells) h1 rfl)).trans h.cells, own_fr h.own hf (fun k hk hx => (hX k hx).ne (own_isT h.own hk) h2 rfl), fun x hx => (h.lab x hx).fr hf (fun b hb hx' => (hX b hx').ne hb h3 rfl), h.map.fr hf (fun hx => h.notMap (hX mb hx) rfl), h.le, h.len, h.ok, Nat.le_trans h.bs hf.size⟩
theorem RdI.frT {X : Nat → Prop} {w w' : World} {a : Option Addr} {l : List SI} {T : TypeId} (h : RdI w a l) (hf : Fr X w w') (hX : ∀ k, X k → isT w k T) (h2 : T ≠ 61) (h3 : T ≠ 165) : RdI w' a l := by
  refine ⟨fun hl => ?_, fun x hx => (h.lab x hx).fr hf (fun b hb hx' => (hX b hx').ne hb h3 rfl)⟩
  obtain ⟨b, off, e, ht, hc⟩ := h.rd hl
  have hb : ¬ X b := fun hx => (hX b hx).ne ht h2 rfl
  exact ⟨b, off, e, hf.isT ht hb, fun j u hu => (hf.cell ht.lt hb).trans (hc j u hu)⟩
/-- two sinks, and two lists beside them -/
structure TS (w0 : World) (p2 b2 m2 p3 b3 m3 : Nat) (aO aA : Option Addr) (lO lA : List SI) (its2 its3 : List It) (wx : World) : Prop where
  wI : RdI wx aO lO
  wA : RdI wx aA lA
  snk : ∃ n2 v2 l2 n3 v3 l3, SinkAt wx p2 b2 m2 n2 v2 l2 ∧ l2.map SI.it = its2 ∧ SinkAt wx p3 b3 m3 n3 v3 l3 ∧ l3.map SI.it = its3 ∧ (∀ b, v2.ownBlock = some b → v3.ownBlock ≠ some b) ∧ AwI v3 aO ∧ AwI v3 aA
  lO' : ∀ q, aO = some q → q.block < wx.heap.size
  lA' : ∀ q, aA = some q → q.block < wx.heap.size
  nep : p2 ≠ p3
  nem : m2 ≠ m3
  lo : w0.heap.size ≤ p3 ∧ w0.heap.size ≤ m3 ∧ w0.heap.size ≤ b3
  bel : Below w0.heap.size w0 wx
section
variable {w0 wx w' : World} {p2 b2 m2 p3 b3 m3 : Nat} {aO aA : Option Addr} {lO lA : List SI} {its2 its3 : List It}
theorem TS.below (h : TS w0 p2 b2 m2 p3 b3 m3 aO aA lO lA its2 its3 wx) (hb : Below wx.heap.size wx w') : TS w0 p2 b2 m2 p3 b3 m3 aO aA lO lA its2 its3 w' := by
  obtain ⟨n2, v2, l2, n3, v3, l3, hS2, hm2, hS3, hm3, ha⟩ := h.snk
  have hs := hb.size
  exact ⟨h.wI.below hb (Nat.le_refl _), h.wA.below hb (Nat.le_refl _), ⟨n2, v2, l2, n3, v3, l3, hS2.below hb, hm2, hS3.below hb, hm3, ha⟩, fun q hq => Nat.lt_of_lt_of_le (h.lO' q hq) hs, fun q hq => Nat.lt_of_lt_of_le (h.lA' q hq) hs, h.nep, h.nem, h.lo, Bthen h.bel hb⟩
/-- another list in place of the second one -/
theorem TS.with (h : TS w0 p2 b2 m2 p3 b3 m3 aO aA lO lA its2 its3 wx) (hb : Below wx.heap.size wx w') {a : Option Addr} {l : List SI} (hr : RdI w' a l) (ha : ∀ q, a = some q → wx.heap.size ≤ q.block ∧ q.block < w'.heap.size) : TS w0 p2 b2 m2 p3 b3 m3 aO a lO l its2 its3 w' := by
  have h' := h.below hb
  obtain ⟨n2, v2, l2, n3, v3, l3, hS2, hm2, hS3, hm3, h1, h2, _⟩ := h.snk
  refine ⟨h'.wI, hr, ⟨n2, v2, l2, n3, v3, l3, hS2.below hb, hm2, hS3.below hb, hm3, h1, h2, fun b hb' q hq => ?_⟩, h'.lO', fun q hq => (ha q hq).2, h.nep, h.nem, h.lo, h'.bel⟩
  have := (own_isT hS3.own hb').lt
  have := (ha q hq).1
  omega
theorem TS.app3 (h : TS w0 p2 b2 m2 p3 b3 m3 aO aA lO lA its2 its3 wx) : ∃ n3 v3 l3, SinkAt wx p3 b3 m3 n3 v3 l3 ∧ l3.map SI.it = its3 ∧
    ∀ (m : List It) e w', AppPost wx p3 b3 m3 v3 l3 m e w' → e = .returned (.int .i64 (appErr its3 m)) ∧ TS w0 p2 b2 m2 p3 b3 m3 aO aA lO lA its2 (app its3 m) w' := by
  obtain ⟨n2, v2, l2, n3, v3, l3, hS2, hm2, hS3, hm3, ha, hO, hA⟩ := h.snk
  refine ⟨n3, v3, l3, hS3, hm3, ?_⟩
  rintro m e w' ⟨he, n', v', l', hS', hm', hf, hk⟩
  rw [hm3] at he hm'
  have hs := hf.size
  have hlo := h.lo
  refine ⟨he, hS3.keepI hf h.wI hO, hS3.keepI hf h.wA hA, ⟨n2, v2, l2, n', v', l', hS3.other hf hS2 h.nep h.nem (fun b h1 h2 => ha b h2 h1), hm2, hS', hm', fun b h1 h2 => ?_, fun b hb q hq => ?_, fun b hb q hq => ?_⟩, fun q hq => Nat.lt_of_lt_of_le (h.lO' q hq) hs, fun q hq => Nat.lt_of_lt_of_le (h.lA' q hq) hs, h.nep, h.nem, h.lo, h.bel.trans (hS3.app_below hf hlo.1 hlo.2.1 hlo.2.2)⟩
  · rcases hk b h2 with e1 | e1
    · exact ha b h1 e1
    · have := (own_isT hS2.own h1).lt; omega
  · rcases hk b hb with e1 | e1
    · exact hO b e1 q hq
    · have := h.lO' q hq; omega
  · rcases hk b hb with e1 | e1
    · exact hA b e1 q hq
    · have := h.lA' q hq; omega
end
theorem OutI.addr {w w' : World} {a : Option Addr} {n c : Nat} {xs : List Value} (h : w'.ownsRow w.heap.size 61 7 (.slice a n c) n xs) : ∀ q, a = some q → w.heap.size ≤ q.block ∧ q.block < w'.heap.size := by
  intro q hq
  subst hq
  exact ⟨own_base h rfl, (own_isT h rfl).lt⟩
theorem esOk_item {w : World} {x : SI} (h : labRight x.e.lab = true) : EsOk w [toSE x] := by
  obtain ⟨h1, h2⟩ := labRight_ok h
  refine ⟨fun y hy => ?_, fun y hy z hz => ?_⟩
  · obtain rfl := List.mem_singleton.1 hy
    show x.e.lab.length ≤ _
    omega
  · obtain rfl := List.mem_singleton.1 hy
    have h3 := (h2 z hz).2
    simp only [d, Array.length_toList] at h3
    have h4 : z.2.size ≤ 1024 := h3
    omega
theorem fromS_in {l : List It} {k : Nat} (h : k ≤ l.length) : fromS l (k : Int) = l.drop k := by
  unfold fromS
  rw [if_pos ⟨by omega, by omega⟩]
  rfl
theorem fromS_out {l : List It} {i : Int} (h : i < 0 ∨ (l.length : Int) < i) : fromS l i = [] := by
  unfold fromS
  rw [if_neg (by omega)]
theorem app_take {its : List It} (h : Sound its) (hl : its.length ≤ 65536) {k : Nat} {x : It} (hx : its[k]? = some x) : appErr (its.take k) [x] = 0 ∧ app (its.take k) [x] = its.take (k + 1) := by
  have hk := (List.getElem?_eq_some_iff.1 hx).1
  have ht := take_succ_at hx
  have h1 : Sound (its.take k ++ [x]) := by
    rw [← ht]
    have h2 : Sound (its.take (k + 1) ++ its.drop (k + 1)) := by rw [List.take_append_drop]; exact h
    exact h2.left
  have h2 := appErr_sound h1 (by rw [List.length_take]; simp; omega)
  exact ⟨h2, by unfold app; rw [if_pos h2, ht]⟩
end Go.Proofs.YtiooimdncocfdaaGreatDoor.Sk
