/- Chapter 38: the law SinkWhole: what it stands on, and its walk. -/
import Derived.Test.YtiooimdncocfdaaGreatDoorKiE
import Derived.Deep.DeepCutAuto
import Derived.Deep.RegionLaw
namespace Go.Proofs.YtiooimdncocfdaaGreatDoor.Sk
open Go Go.RowKit
def zK (x : Sm) : Sm := ⟨0, x.ser, x.kind, x.more⟩
theorem zK_ok {x : Sm} (h : SmOk x) : SmOk (zK x) := ⟨Int.le_refl _, by show (0 : Int) ≤ 255; decide, h.s0, h.s1, h.d0, h.d1, h.m0, h.m1⟩
def sFlat (l : List Sm) : List Value := l.flatMap smB
theorem sFlat_length (l : List Sm) : (sFlat l).length = l.length * 4 := flat_len smB 4 (fun _ => rfl) l
theorem sFlat_one {l : List Sm} : ∀ u ∈ sFlat l, u.oneCell' = true := by
  intro u hu
  unfold sFlat smB at hu
  simp only [List.mem_flatMap, List.mem_cons, List.not_mem_nil, or_false] at hu
  obtain ⟨x, _, rfl | rfl | rfl | rfl⟩ := hu <;> rfl
theorem eFlat_one {l : List SE} : ∀ u ∈ eFlat l, u.oneCell' = true := by
  intro u hu
  unfold eFlat eB at hu
  simp only [List.mem_flatMap, List.mem_cons, List.not_mem_nil, or_false] at hu
  obtain ⟨x, _, rfl | rfl | rfl | rfl | rfl | rfl⟩ := hu <;> rfl
/-- the first k keys are 0 -/
def zeroK (k : Nat) (l : List Sm) : List Sm := (l.take k).map zK ++ l.drop k
theorem zeroK_len (k : Nat) (l : List Sm) : (zeroK k l).length = l.length := by
  unfold zeroK
  rw [List.length_append, List.length_map, List.length_take, List.length_drop]
  omega
theorem zeroK_all (l : List Sm) : zeroK l.length l = l.map zK := by
  unfold zeroK
  rw [List.take_length, List.drop_length, List.append_nil]
theorem zeroK_at {k : Nat} {l : List Sm} {x : Sm} (hx : l[k]? = some x) : zeroK k l = (l.take k).map zK ++ (x :: l.drop (k + 1)) ∧ zeroK (k + 1) l = (l.take k).map zK ++ (zK x :: l.drop (k + 1)) := by
  have hk := (List.getElem?_eq_some_iff.1 hx).1
  have hd : l.drop k = x :: l.drop (k + 1) := by rw [List.drop_eq_getElem_cons hk, (List.getElem?_eq_some_iff.1 hx).2]
  unfold zeroK
  refine ⟨by rw [hd], ?_⟩
  rw [take_succ_at hx, List.map_append, List.append_assoc]
  rfl
theorem sFlat_set {k : Nat} {l : List Sm} {x : Sm} (hx : l[k]? = some x) : (sFlat (zeroK k l)).set (k * 4) (.int .u8 0) = sFlat (zeroK (k + 1) l) := by
  have hk := (List.getElem?_eq_some_iff.1 hx).1
  obtain ⟨h1, h2⟩ := zeroK_at hx
  rw [h1, h2]
  unfold sFlat
  rw [List.flatMap_append, List.flatMap_append, List.flatMap_cons, List.flatMap_cons]
  have hl : (((l.take k).map zK).flatMap smB).length = k * 4 := by
    have := sFlat_length ((l.take k).map zK)
    rw [List.length_map, List.length_take] at this
    unfold sFlat at this
    rw [this, Nat.min_eq_left (by omega)]
  rw [List.set_append_right _ _ (by omega), hl, Nat.sub_self]
  rfl
theorem own_set {W : World} {base g n cap size : Nat} {T : TypeId} {xs : List Value} (h : W.ownsRow base T size (.slice (some ⟨g, 0, none⟩) n cap) n xs) (j : Nat) (hj : j < xs.length) (u : Value) :
    (W.setCell ⟨g, j, none⟩ u).ownsRow base T size (.slice (some ⟨g, 0, none⟩) n cap) n (xs.set j u) := by
  rcases h.2 with ⟨e, _⟩ | ⟨g', cap', cur, e, hb, hg, h1, h2, h3, h4⟩
  · cases e
  · cases e
    refine ⟨by rw [List.length_set]; exact h.1, .inr ⟨g, cap, cur.setIfInBounds j u, rfl, hb, ?_, h1, h2, by simpa using h3, ?_⟩⟩
    · unfold World.setCell
      simp only [Array.getElem?_modify, hg]
      rfl
    · rw [Array.toList_setIfInBounds, List.take_set, h4]
theorem RdS.of_own {w : World} {base n cap k : Nat} {a : Option Addr} {l : List Sm} (h : w.ownsRow base 50 4 (.slice a n cap) k (sFlat l)) : RdS w a l := by
  intro hx
  obtain ⟨g, e, _, ht, hc⟩ := own_at0 h (by cases l with | nil => exact absurd rfl hx | cons x r => simp [sFlat, smB])
  refine ⟨g, 0, e, ht, fun i x hi j u hu => ?_⟩
  rw [Nat.zero_add]
  exact hc _ _ (flat_at smB 4 (fun _ => rfl) hi hu)
theorem RdS.flat {w : World} {a : Option Addr} {l : List Sm} (h : RdS w a l) : RdF w a (sFlat l) := by
  intro hx
  obtain ⟨b, off, e, ht, hc⟩ := h (by intro e; subst e; exact hx rfl)
  refine ⟨b, off, e, ht.lt, fun j u hu => ?_⟩
  have hj := (List.getElem?_eq_some_iff.1 hu).1
  rw [sFlat_length] at hj
  have hd := Nat.div_add_mod j 4
  have hm := Nat.mod_lt j (show 4 > 0 by decide)
  obtain ⟨x, hxi⟩ : ∃ x, l[j / 4]? = some x := ⟨_, List.getElem?_eq_getElem (by omega)⟩
  obtain ⟨v, hv⟩ : ∃ v, (smB x)[j % 4]? = some v := ⟨_, List.getElem?_eq_getElem (show j % 4 < 4 from hm)⟩
  have h1 := flat_at smB 4 (fun _ => rfl) hxi hv
  rw [show j / 4 * 4 + j % 4 = j by omega] at h1
  have h2 : some v = some u := h1.symm.trans hu
  cases h2
  have := hc _ _ hxi _ _ hv
  rw [show off + j / 4 * 4 + j % 4 = off + j by omega] at this
  exact this
theorem RdS.take {w : World} {a : Option Addr} {l : List Sm} (h : RdS w a l) (n : Nat) : RdS w a (l.take n) := by
  intro hx
  obtain ⟨b, off, e, ht, hc⟩ := h (by intro e; subst e; simp at hx)
  refine ⟨b, off, e, ht, fun i x hi => hc i x ?_⟩
  rw [List.getElem?_take] at hi
  split at hi
  · exact hi
  · cases hi
theorem eFlat_append (l m : List SE) : eFlat (l ++ m) = eFlat l ++ eFlat m := by simp [eFlat]
theorem eFlat_ne {l : List SE} (h : l ≠ []) : eFlat l ≠ [] := by
  cases l with
  | nil => exact absurd rfl h
  | cons x r => simp [eFlat, eB]
theorem eFlat_drop (l : List SE) (n : Nat) : eFlat (l.drop n) = (eFlat l).drop (n * 6) := by
  induction n generalizing l with
  | zero => simp
  | succ n ih =>
    cases l with
    | nil => simp [eFlat]
    | cons x r =>
      rw [List.drop_succ_cons, ih r, show (n + 1) * 6 = 6 + n * 6 by omega]
      show _ = (eB x ++ eFlat r).drop (6 + n * 6)
      have h7 : (eB x).length = 6 := rfl
      rw [List.drop_append, List.drop_of_length_le (l := eB x) (by omega), List.nil_append, show 6 + n * 6 - (eB x).length = n * 6 by omega]
theorem eFlat_take (l : List SE) (n : Nat) : eFlat (l.take n) = (eFlat l).take (n * 6) := by
  induction n generalizing l with
  | zero => simp [eFlat]
  | succ n ih =>
    cases l with
    | nil => simp [eFlat]
    | cons x r =>
      rw [List.take_succ_cons, show (n + 1) * 6 = 6 + n * 6 by omega]
      show eB x ++ eFlat (r.take n) = (eB x ++ eFlat r).take (6 + n * 6)
      have h7 : (eB x).length = 6 := rfl
      rw [List.take_append, List.take_of_length_le (l := eB x) (by omega), show 6 + n * 6 - (eB x).length = n * 6 by omega, ih r]
theorem RdE.of_own {w : World} {base n cap k : Nat} {a : Option Addr} {l : List SE} (h : w.ownsRow base 59 6 (.slice a n cap) k (eFlat l)) (hl : ∀ x ∈ l, Ll w x.la x.lc x.e.lab) : RdE w a l := by
  refine ⟨fun hx => ?_, hl⟩
  obtain ⟨g, e, _, ht, hc⟩ := own_at0 h (eFlat_ne hx)
  exact ⟨g, 0, e, ht, fun j u hu => by rw [Nat.zero_add]; exact hc j u hu⟩
theorem RdE.take {w : World} {a : Option Addr} {l : List SE} (h : RdE w a l) (n : Nat) : RdE w a (l.take n) := by
  refine ⟨fun hx => ?_, fun x hx => h.lab x (List.mem_of_mem_take hx)⟩
  obtain ⟨b, off, e, ht, hc⟩ := h.rd (by intro e; subst e; simp at hx)
  refine ⟨b, off, e, ht, fun j u hu => hc j u ?_⟩
  rw [eFlat_take, List.getElem?_take] at hu
  split at hu
  · exact hu
  · cases hu
theorem RdE.drop {w : World} {b off : Nat} {l : List SE} (h : RdE w (some ⟨b, off, none⟩) l) (n : Nat) : RdE w (some ⟨b, off + n * 6, none⟩) (l.drop n) := by
  refine ⟨fun hx => ?_, fun x hx => h.lab x (List.mem_of_mem_drop hx)⟩
  obtain ⟨b', off', e, ht, hc⟩ := h.rd (by intro e; subst e; simp at hx)
  cases e
  refine ⟨b, off + n * 6, rfl, ht, fun j u hu => ?_⟩
  rw [eFlat_drop, List.getElem?_drop] at hu
  rw [Nat.add_assoc]
  exact hc _ _ hu
theorem RdE.flat {w : World} {a : Option Addr} {l : List SE} (h : RdE w a l) : RdF w a (eFlat l) := by
  intro hx
  obtain ⟨b, off, e, ht, hc⟩ := h.rd (by intro e; subst e; exact hx rfl)
  exact ⟨b, off, e, ht.lt, hc⟩
/-- the entry of an item -/
def toSE (x : SI) : SE := ⟨x.la, x.lc, x.e⟩
def zeroSm : Sm := ⟨0, 0, 0, 0⟩
theorem zeroSm_ok : SmOk zeroSm := by constructor <;> decide
theorem zero_key : keyS zeroSm = kJ := by decide
theorem zero_ent : itS zeroSm 0 = badI := by
  unfold itS badI entS
  rw [zero_key]
  rfl
/-- of what is filled with keys 0, every key is that of zeroSm -/
theorem filled_key {l : List Sm} {st : Int} : ∀ y ∈ fillS [] st (l.map zK), y.key = kJ := by
  intro y hy
  rcases fillS_mem _ _ _ y hy with h | ⟨x, hx, st', rfl, _⟩
  · cases h
  · obtain ⟨z, _, rfl⟩ := List.mem_map.1 hx
    show keyS (zK z) = kJ
    exact zero_key
theorem toIt_toSE {l : List SI} (h : ∀ x ∈ l.map SI.it, x.key = kJ) : (l.map toSE).map (toIt kJ) = l.map SI.it := by
  rw [List.map_map]
  refine List.map_congr_left fun x hx => ?_
  have := h x.it (List.mem_map_of_mem hx)
  obtain ⟨k, a, c, e⟩ := x
  simp only [SI.it] at this
  subst this
  rfl
/-- where the walk stands: the items that are wanted, their entries, two sinks, the entry that is bad -/
structure WS (w0 : World) (H : Nat) (lO : List SI) (aO aE : Option Addr) (gB : Nat) (aB : Option Addr) (cB p2 b2 m2 p3 b3 m3 : Nat) (its2 its3 : List It) (wx : World) : Prop where
  wI : RdI wx aO lO
  hO : ∀ p, aO = some p → p.block < H
  wE : RdE wx aE (lO.map toSE)
  snk : ∃ n2 v2 l2 n3 v3 l3, SinkAt wx p2 b2 m2 n2 v2 l2 ∧ l2.map SI.it = its2 ∧ SinkAt wx p3 b3 m3 n3 v3 l3 ∧ l3.map SI.it = its3 ∧ ∀ b, v2.ownBlock = some b → v3.ownBlock ≠ some b
  nep : p2 ≠ p3
  nem : m2 ≠ m3
  lo2 : H ≤ p2 ∧ H ≤ m2 ∧ H ≤ b2
  lo3 : H ≤ p3 ∧ H ≤ m3 ∧ H ≤ b3
  bd : wx.heap[gB]? = some (.cells (eB ⟨aB, cB, badI.e⟩).toArray 59 (0, 0))
  bl : Ll wx aB cB badI.e.lab
  bel : Below w0.heap.size w0 wx
  hH : w0.heap.size ≤ H
section
variable {w0 wx w' : World} {H : Nat} {lO : List SI} {aO aE : Option Addr} {gB : Nat} {aB : Option Addr} {cB p2 b2 m2 p3 b3 m3 : Nat} {its2 its3 : List It}
theorem WS.below (h : WS w0 H lO aO aE gB aB cB p2 b2 m2 p3 b3 m3 its2 its3 wx) (hb : Below wx.heap.size wx w') : WS w0 H lO aO aE gB aB cB p2 b2 m2 p3 b3 m3 its2 its3 w' := by
  obtain ⟨n2, v2, l2, n3, v3, l3, hS2, hm2, hS3, hm3, ha⟩ := h.snk
  exact ⟨h.wI.below hb (Nat.le_refl _), h.hO, h.wE.below hb (Nat.le_refl _), ⟨n2, v2, l2, n3, v3, l3, hS2.below hb, hm2, hS3.below hb, hm3, ha⟩, h.nep, h.nem, h.lo2, h.lo3, (hb.block gB (isT_of h.bd).lt).trans h.bd, h.bl.below hb (Nat.le_refl _), Bthen h.bel hb, h.hH⟩
theorem WS.swap (h : WS w0 H lO aO aE gB aB cB p2 b2 m2 p3 b3 m3 its2 its3 wx) : WS w0 H lO aO aE gB aB cB p3 b3 m3 p2 b2 m2 its3 its2 wx := by
  obtain ⟨n2, v2, l2, n3, v3, l3, hS2, hm2, hS3, hm3, ha⟩ := h.snk
  exact ⟨h.wI, h.hO, h.wE, ⟨n3, v3, l3, n2, v2, l2, hS3, hm3, hS2, hm2, fun b h1 h2 => ha b h2 h1⟩, h.nep.symm, h.nem.symm, h.lo3, h.lo2, h.bd, h.bl, h.bel, h.hH⟩
theorem WS.app2 (h : WS w0 H lO aO aE gB aB cB p2 b2 m2 p3 b3 m3 its2 its3 wx) : ∃ n2 v2 l2, SinkAt wx p2 b2 m2 n2 v2 l2 ∧ l2.map SI.it = its2 ∧
    ∀ (m : List It) e w', AppPost wx p2 b2 m2 v2 l2 m e w' → e = .returned (.int .i64 (appErr its2 m)) ∧ WS w0 H lO aO aE gB aB cB p2 b2 m2 p3 b3 m3 (app its2 m) its3 w' := by
  obtain ⟨n2, v2, l2, n3, v3, l3, hS2, hm2, hS3, hm3, ha⟩ := h.snk
  refine ⟨n2, v2, l2, hS2, hm2, ?_⟩
  rintro m e w' ⟨he, n', v', l', hS', hm', hf, hk⟩
  rw [hm2] at he hm'
  refine ⟨he, h.wI.fr hf (fun b hb => hS2.notX hb (by decide) (by decide)) (fun p hp => ?_), h.hO, h.wE.fr hf (fun b hb => ?_), ⟨n', v', l', n3, v3, l3, hS', hm', hS2.other hf hS3 h.nep.symm h.nem.symm ha, hm3, fun b h1 h2 => ?_⟩, h.nep, h.nem, h.lo2, h.lo3, hS2.keep hf h.bd (by decide) (by decide), hS2.ll hf h.bl, h.bel.trans (hS2.app_below hf ?_ ?_ ?_), h.hH⟩
  · have h1 := h.hO p hp
    have h2 := h.lo2
    rintro (e | e | e)
    · omega
    · omega
    · have := own_base hS2.own e; omega
  · rcases hb with hb | hb
    · exact hS2.notX hb (by decide) (by decide)
    · exact hS2.notX hb (by decide) (by decide)
  · rcases hk b h1 with e1 | e1
    · exact ha b e1 h2
    · have := (own_isT hS3.own h2).lt; omega
  · have := h.lo2; have := h.hH; omega
  · have := h.lo2; have := h.hH; omega
  · have := h.lo2; have := h.hH; omega
theorem WS.app3 (h : WS w0 H lO aO aE gB aB cB p2 b2 m2 p3 b3 m3 its2 its3 wx) : ∃ n3 v3 l3, SinkAt wx p3 b3 m3 n3 v3 l3 ∧ l3.map SI.it = its3 ∧
    ∀ (m : List It) e w', AppPost wx p3 b3 m3 v3 l3 m e w' → e = .returned (.int .i64 (appErr its3 m)) ∧ WS w0 H lO aO aE gB aB cB p2 b2 m2 p3 b3 m3 its2 (app its3 m) w' := by
  obtain ⟨n, v, l, hS, hm, hp⟩ := h.swap.app2
  exact ⟨n, v, l, hS, hm, fun m e w' hpost => ⟨(hp m e w' hpost).1, (hp m e w' hpost).2.swap⟩⟩
end
theorem own_froz {w : World} {base g n cap k size : Nat} {T : TypeId} {xs : List Value} (h : w.ownsRow base T size (.slice (some ⟨g, 0, none⟩) n cap) k xs) (j : Nat) : w.frozen? ⟨g, j, none⟩ = false := by
  rcases h.2 with ⟨e, _⟩ | ⟨g', cap', cur, e, hb, hg, _⟩
  · cases e
  · cases e; exact block_froz hg j
/-- behind k rounds of the loop over the small entries -/
def ZInv (w B : Nat) (W0 : World) (L : List Sm) (a1 : Option Addr) (m c1 : Nat) (i : Value) (wr : World) : Prop :=
  ∃ k : Nat, k ≤ m ∧ i = .int .i64 k ∧ wr.ownsRow B 50 4 (.slice a1 m c1) m (sFlat (zeroK k L)) ∧ Below w W0 wr
/-- behind k rounds of the loop over the items: their entries -/
def EInv (w : World) (lO : List SI) (out i : Value) (wr : World) : Prop :=
  ∃ k : Nat, k ≤ lO.length ∧ i = .int .i64 k ∧ wr.ownsRow w.heap.size 59 6 out k (eFlat ((lO.take k).map toSE)) ∧ Below w.heap.size w wr
theorem own_weak {W : World} {base base' n size : Nat} {T : TypeId} {v : Value} {xs : List Value} (h : W.ownsRow base T size v n xs) (hb : base' ≤ base) : W.ownsRow base' T size v n xs := by
  obtain ⟨h1, h2⟩ := h
  refine ⟨h1, ?_⟩
  rcases h2 with h2 | ⟨g, cap, cur, e, hg, r⟩
  · exact .inl h2
  · exact .inr ⟨g, cap, cur, e, Nat.le_trans hb hg, r⟩
theorem eB_one {x : SE} : ∀ u ∈ eB x, u.oneCell' = true := by
  intro u hu
  exact eFlat_one (l := [x]) u (by simpa [eFlat] using hu)
/-- an entry that is not right -/
def minusE : SE := ⟨none, 0, ⟨[], false, 0, false, 0, -1⟩⟩
/-- the entries with the bad one -/
def withBad (lE : List SE) (kk : Nat) (x : SE) : List SE := lE.take kk ++ [x] ++ lE.drop kk
theorem withBad_flat (lE : List SE) (kk : Nat) (x : SE) : eFlat (withBad lE kk x) = eFlat (lE.take kk) ++ (eB x ++ eFlat (lE.drop kk)) := by
  unfold withBad
  rw [eFlat_append, eFlat_append, List.append_assoc]
  simp [eFlat]
theorem withBad_mem {lE : List SE} {kk : Nat} {x y : SE} (h : y ∈ withBad lE kk x) : y ∈ lE ∨ y = x := by
  unfold withBad at h
  rcases List.mem_append.1 h with h | h
  · rcases List.mem_append.1 h with h | h
    · exact .inl (List.mem_of_mem_take h)
    · exact .inr (by simpa using h)
  · exact .inl (List.mem_of_mem_drop h)
theorem withBad_len {lE : List SE} {kk : Nat} {x : SE} : (withBad lE kk x).length = lE.length + 1 := by
  unfold withBad
  simp only [List.length_append, List.length_take, List.length_drop, List.length_singleton]
  omega
theorem app_no {its l : List It} (h : appErr its l ≠ 0) : app its l = its := by unfold app; rw [if_neg h]
theorem esOk_add {w : World} {l m : List SE} {x : SE} (h : EsOk w l) (hx : x.e.lab.length ≤ 1 ∧ ∀ y ∈ x.e.lab, y.2.size ≤ 1) (hm : ∀ y ∈ m, y ∈ l ∨ y = x) : EsOk w m := by
  refine ⟨fun y hy => ?_, fun y hy z hz => ?_⟩
  · rcases hm y hy with h1 | rfl
    · exact h.ln y h1
    · omega
  · rcases hm y hy with h1 | rfl
    · exact h.sz y h1 z hz
    · have := hx.2 z hz; omega
/-- behind the third Append -/
def W3Rel (w0 : World) (H : Nat) (lO : List SI) (aO aE : Option Addr) (gB : Nat) (aB : Option Addr) (cB p2 b2 m2 p3 b3 m3 : Nat) (its : List It) (s : Value) (wx : World) : Prop :=
  s = .int .i64 0 ∧ WS w0 H lO aO aE gB aB cB p2 b2 m2 p3 b3 m3 its its wx
set_option maxRecDepth 100000 in
set_option maxHeartbeats 8000000 in
theorem whole_calls (a : Option Addr) (cap : Nat) (l : List Sm) (ct : Int) (w : World) (hE : Ev w) (hl : RdF w a (sFlat (l.take 40))) (hnil : a = none → l = [] ∧ cap = 0) (hok : ∀ x ∈ l, SmOk x) (hcap : l.length ≤ cap) (hc2 : cap ≤ maxLen) (ct0 : 0 ≤ ct) (ct1 : ct ≤ 255) :
    Calls Tryz.prog 5 #[.slice a l.length cap, .int .u8 ct] w fun e w' => e = .returned (.bool true) ∧ Below w.heap.size w w' := by
  unfold maxLen at hc2
  obtain ⟨L, hL⟩ : ∃ L, L = l.take 40 := ⟨_, rfl⟩
  obtain ⟨m, hm⟩ : ∃ m, m = L.length := ⟨_, rfl⟩
  have hm1 := hm
  rw [hL, List.length_take] at hm1
  have hmin : min (l.length : Int) 40 = (m : Int) := by omega
  have hmax : max (m : Int) 0 = (m : Int) := by omega
  have hm40 : m ≤ 40 := by omega
  have hml : m ≤ l.length := by omega
  have hnilm : a = none → m = 0 ∧ cap = 0 := fun e => ⟨by have := (hnil e).1; subst this; simp at hm1; exact hm1, (hnil e).2⟩
  have HR := Lib.hid (And.intro hE (And.intro (show RdF w a (sFlat L) by rw [hL]; exact hl) (And.intro (show ∀ x ∈ L, SmOk x from fun x hx => hok x (List.mem_of_mem_take (hL ▸ hx))) (And.intro hm hnilm))))
  clear hE hl hnil hok hL hm hm1 hnilm
  go_enter Tryz.func5, Tryz.ntmps5
  go_wp2_with fail
  go_at_call 30
  refine (awake_calls w HR.out.1).mono ?_
  rintro e w1 ⟨rfl, hb1⟩
  have HB1 := Lib.hid hb1
  clear hb1
  go_wp2_with fail
  go_at_call 31
  refine (cloneS_flat a cap m (sFlat L) w1 (HR.out.2.1.below HB1.out) (by rw [sFlat_length, HR.out.2.2.2.1]) HR.out.2.2.2.2 sFlat_one (by omega)).mono ?_
  rintro e w2 ⟨v1, rfl, hown2, hb2⟩
  obtain ⟨a1, c1, rfl⟩ := own_form hown2
  have HO2 := Lib.hid (And.intro hown2 (Bthen HB1.out hb2))
  have hs12 := HB1.out.size
  clear hown2 hb2
  go_wp2_with fail
  go_loopw [31] (fun i wr => ZInv w.heap.size w1.heap.size w L a1 m c1 i wr) (fun i _ => m - (intOf i).toNat)
  case atStart => exact ⟨0, Nat.zero_le _, rfl, by have := HO2.out.1; unfold zeroK; simpa using this, HO2.out.2⟩
  case round =>
    obtain ⟨k, hk, rfl, hown, hb⟩ := hrel
    have hbs := hb.size
    have HZ := Lib.hid (And.intro hown hb)
    clear hown hb
    by_cases hlt : k < m
    · obtain ⟨x, hx⟩ : ∃ x, L[k]? = some x := ⟨_, List.getElem?_eq_getElem (by rw [← HR.out.2.2.2.1]; exact hlt)⟩
      have hz := (zeroK_at hx).1
      have hkl : (List.map zK (L.take k)).length = k := by rw [List.length_map, List.length_take, ← HR.out.2.2.2.1]; omega
      have hzx : (zeroK k L)[k]? = some x := by rw [hz, List.getElem?_append_right (by omega), hkl, Nat.sub_self]; rfl
      obtain ⟨g, e, hgb, ht, hc⟩ := own_at0 HZ.out.1 (by intro e; have h1 := sFlat_length (zeroK k L); rw [e, zeroK_len, List.length_nil] at h1; have h2 := (List.getElem?_eq_some_iff.1 hx).1; omega)
      subst e
      have c0 := hc _ _ (flat_at smB 4 (fun _ => rfl) hzx (show (smB x)[0]? = some (.int .u8 x.key) from rfl))
      rw [Nat.add_zero] at c0
      have f0 := own_froz HZ.out.1 (k * 4)
      have HX := Lib.hid hx
      have hgs := ht.lt
      obtain ⟨w0, hw0⟩ : ∃ q, q = wr := ⟨_, rfl⟩
      subst hw0
      clear hx hz hkl hzx hc ht
      go_wp2
      go_roundw
      case rel =>
        refine ⟨k + 1, by omega, by go_num, ?_, HZ.out.2.setCell (by exact Nat.le_trans hs12 hgb) _⟩
        rw [← sFlat_set HX.out]
        exact own_set HZ.out.1 (k * 4) (by rw [sFlat_length, zeroK_len, ← HR.out.2.2.2.1]; omega) _
      case measure => simp [intOf]; omega
    · obtain rfl : k = m := by omega
      obtain ⟨w3, hw3⟩ : ∃ q, q = wr := ⟨_, rfl⟩
      subst hw3
      have hown3 := HZ.out.1
      have hlz : (L.map zK).length = k := by rw [List.length_map]; exact HR.out.2.2.2.1.symm
      have hzm : zeroK k L = L.map zK := by rw [HR.out.2.2.2.1]; exact zeroK_all L
      rw [hzm] at hown3
      have hc1 : k ≤ c1 ∧ c1 ≤ maxLen := by
        rcases hown3.2 with ⟨e, h0⟩ | ⟨g', cap', cur, e, _, _, h1, h2, _⟩
        · cases e; exact ⟨Nat.le_refl _, Nat.zero_le _⟩
        · cases e; exact ⟨h1, h2⟩
      have HS3 := Lib.hid (And.intro (RdS.of_own hown3) (And.intro hlz hc1))
      have HB3 := Lib.hid HZ.out.2
      clear hown3 hlz hzm hc1 HZ HO2 hlt
      go_wp2_with fail
      go_at_call 32
      refine (new_calls w3).mono ?_
      rintro e w4 ⟨rfl, hS4, hb4, hs4⟩
      have hcall := fill_calls a1 c1 (L.map zK) w4 hS4 (HR.out.1.below (Bthen HB3.out hb4)).kv (HS3.out.1.below hb4) (fun x hx => by obtain ⟨y, hy, rfl⟩ := List.mem_map.1 hx; exact zK_ok (HR.out.2.2.1 y hy)) (by rw [HS3.out.2.1]; exact HS3.out.2.2.1) HS3.out.2.2.2
      rw [List.take_of_length_le (by rw [HS3.out.2.1]; exact hm40), HS3.out.2.1] at hcall
      have HC := Lib.hid hcall
      have HB4 := Lib.hid (Bthen HB3.out hb4)
      have HS4 := Lib.hid hS4
      clear hcall hb4 hS4
      go_wp2_with fail
      go_at_call 33
      refine HC.out.mono ?_
      rintro e w5 ⟨out, rfl, n5, v5, lS, lO, hF, hmS, hmO⟩
      obtain ⟨aO, cO, rfl⟩ := own_form hF.own
      obtain ⟨its, hits⟩ : ∃ its, its = fillS [] 5 (L.map zK) := ⟨_, rfl⟩
      rw [← hits] at hmS hmO
      have hb5 : Below w.heap.size w w5 := HB4.out.trans (hF.fr.below (B := w.heap.size) (fun k hk e => by have := HB3.out.size; rcases e with e | e <;> omega) HB4.out.size)
      have hsnd : Sound its := by rw [hits]; exact fillS_sound _ _ _ Sound.nil
      have hky : ∀ y ∈ its, y.key = kJ := by rw [hits]; exact filled_key
      have hiln : its.length ≤ 40 := by
        have := fillS_len (L.map zK) [] 5
        rw [← hits, HS3.out.2.1] at this
        simp at this
        omega
      have hln : lO.length = its.length := by rw [← hmO, List.length_map]
      have hlo40 : lO.length ≤ 40 := by omega
      have HI := Lib.hid (And.intro hsnd (And.intro hky (And.intro hmO (And.intro hiln hits))))
      have HF := Lib.hid (And.intro (RdI.of_own hF.own hF.lab) (And.intro hF.own hb5))
      clear hsnd hky hmO hiln hits hF hb5 hmS hln HC HS4
      go_wp2_with fail
      go_loopw [8, 45] (fun out i wr => EInv w5 lO out i wr) (fun _ i _ => lO.length - (intOf i).toNat)
      case atStart => exact ⟨0, Nat.zero_le _, rfl, World.ownsRow_nil _ _ _ _, Below.refl _ _⟩
      case round =>
        obtain ⟨j, hj, rfl, hown, hb⟩ := hrel
        have hbs := hb.size
        have HO := Lib.hid (And.intro hown hb)
        clear hown hb
        by_cases hlt : j < lO.length
        · obtain ⟨x, hx⟩ : ∃ x, lO[j]? = some x := ⟨_, List.getElem?_eq_getElem hlt⟩
          obtain ⟨b, off, e, hbl, ht, hc⟩ := (HF.out.1.below HO.out.2 (Nat.le_refl _)).at_ hx
          subst e
          have HX := Lib.hid hx
          have c0 := hc 0 _ rfl
          rw [Nat.add_zero] at c0
          have c1' := hc 1 _ rfl
          have c2 := hc 2 _ rfl
          have c3 := hc 3 _ rfl
          have c4 := hc 4 _ rfl
          have c5 := hc 5 _ rfl
          have c6 := hc 6 _ rfl
          obtain ⟨w0, hw0⟩ : ∃ q, q = wr := ⟨_, rfl⟩
          subst hw0
          clear hc hx ht
          go_wp2_with (at_builtin; refine wpList_app rfl _ _ 54 59 6 64 _ rfl Tryz.underlying54 infoEn rfl (by decide) (by decide) w5.heap.size _ j (eFlat ((lO.take j).map toSE)) rfl ((HO.out.1.alloc _).alloc _) ⟨w0.heap.size + 1, 0, none⟩ 1 1 (eB (toSE x)) rfl rfl (cells_new (w0.alloc (.cells #[.string x.key, .slice x.la x.e.lab.length x.lc, .bool x.e.mark, .int .u64 x.e.bits, .bool x.e.st, .int .i64 x.e.time, .int .i64 x.e.stamp] 61)) #[.slice x.la x.e.lab.length x.lc, .bool x.e.mark, .int .u64 x.e.bits, .bool x.e.st, .int .i64 x.e.time, .int .i64 x.e.stamp] _ ⟨w0.heap.size + 1, 0, none⟩ (by simp)) (by intro u hu; simp [eB] at hu; rcases hu with rfl | rfl | rfl | rfl | rfl | rfl <;> rfl) (by omega) (by simp; omega) ?_; intro v6 w6 hown6 _ _ hbel6; have H6 := Lib.hid (And.intro hown6 (hbel6 _ ((HO.out.2.alloc hbs _).alloc (by simp; omega) _))); clear hown6 hbel6)
          go_roundw
          case rel =>
            refine ⟨j + 1, by omega, by go_num, ?_, H6.out.2⟩
            have := H6.out.1
            rw [take_succ_at HX.out, List.map_append, eFlat_append]
            simpa [eFlat] using this
          case measure => simp [intOf]; omega
        · obtain rfl : j = lO.length := by omega
          obtain ⟨w6, hw6⟩ : ∃ q, q = wr := ⟨_, rfl⟩
          subst hw6
          obtain ⟨aE, cE, rfl⟩ := own_form HO.out.1
          have hownE := HO.out.1
          rw [List.take_length] at hownE
          have hB6 := HF.out.2.2.trans (HO.out.2.mono HF.out.2.2.size)
          have hI6 := HF.out.1.below HO.out.2 (Nat.le_refl _)
          have hlabE : ∀ y ∈ lO.map toSE, Ll w6 y.la y.lc y.e.lab := fun y hy => by obtain ⟨z, hz, rfl⟩ := List.mem_map.1 hy; exact hI6.lab z hz
          have hcE : lO.length ≤ cE ∧ cE ≤ maxLen := by
            rcases hownE.2 with ⟨e, h0⟩ | ⟨g', cap', cur, e, _, _, h1, h2, _⟩
            · injection e with _ e1 e2; rw [e2]; exact ⟨by omega, Nat.zero_le _⟩
            · cases e; exact ⟨h1, h2⟩
          have hnE : aE = none → lO.length = 0 ∧ cE = 0 := fun e => by
            subst e
            rcases hownE.2 with ⟨e, h0⟩ | ⟨g', cap', cur, e, _⟩
            · injection e with _ e1 e2
              exact ⟨e1, e2⟩
            · cases e
          have haO : ∀ p, aO = some p → p.block < w6.heap.size := fun p hp => by
            subst hp
            have hw5 := HO.out.2.size
            rcases HF.out.2.1.2 with ⟨e, h0⟩ | ⟨g', cap', cur, e, _, hg, _⟩
            · cases e
            · cases e
              have := (Array.getElem?_eq_some_iff.1 hg).1
              show g' < _
              omega
          have H6 := Lib.hid (And.intro (RdE.of_own hownE hlabE) (And.intro hI6 (And.intro hB6 (And.intro (And.intro hcE hnE) haO))))
          clear hownE hlabE hI6 hB6 hcE hnE haO HO HF
          go_wp2_with fail
          go_at_call 34
          refine (entry_calls zeroSm zeroSm_ok 0 _).mono ?_
          rintro e w7 ⟨aB, cB, rfl, hlB, hb7⟩
          obtain ⟨K, hK⟩ : ∃ K, K = keyS zeroSm := ⟨_, rfl⟩
          obtain ⟨eb, heb⟩ : ∃ eb, eb = entS zeroSm 0 := ⟨_, rfl⟩
          rw [← heb] at hlB ⊢
          rw [← hK]
          have HK : Hid (K = kJ ∧ eb = badI.e) := Lib.hid ⟨by rw [hK]; exact zero_key, by rw [heb]; exact congrArg It.e zero_ent⟩
          have H7 := Lib.hid (And.intro hlB hb7)
          clear hK heb hlB hb7
          go_wp2_with fail
          obtain ⟨w8, hw8⟩ : ∃ w8, w8 = w7.alloc (.cells #[.slice aB eb.lab.length cB, .bool eb.mark, .int .u64 eb.bits, .bool eb.st, .int .i64 eb.time, .int .i64 eb.stamp] 59) := ⟨_, rfl⟩
          rw [← hw8]
          have hbd : w8.heap[w7.heap.size]? = some (.cells (eB ⟨aB, cB, badI.e⟩).toArray 59 (0, 0)) := by rw [hw8, ← HK.out.2]; exact heap_alloc_new w7 _
          have hb78 : Below w7.heap.size w7 w8 := by rw [hw8]; exact (Below.refl _ _).alloc (Nat.le_refl _) _
          have hb68 : Below w6.heap.size w6 w8 := Bthen H7.out.2 hb78
          have hbl8 : Ll w8 aB cB badI.e.lab := by rw [← HK.out.2]; exact H7.out.1.below hb78 (Nat.le_refl _)
          have hs68 := hb68.size
          have H8 := Lib.hid (And.intro hbd (And.intro hbl8 hb68))
          clear hw8 hbd hb78 hb68 hbl8
          go_at_call 32
          refine (new_calls w8).mono ?_
          rintro e w9 ⟨rfl, hS9, hb9, hs9⟩
          have HS9 := Lib.hid (And.intro hS9 hb9)
          clear hS9 hb9
          go_wp2_with fail
          go_at_call 32
          refine (new_calls w9).mono ?_
          rintro e w10 ⟨rfl, hS10, hb10, hs10⟩
          obtain ⟨gB, hgB⟩ : ∃ gB, gB = w7.heap.size := ⟨_, rfl⟩
          have hWS : WS w w8.heap.size lO aO aE gB aB cB (w8.heap.size + 1) (w8.heap.size + 2) w8.heap.size (w9.heap.size + 1) (w9.heap.size + 2) w9.heap.size [] [] w10 := by
            have h810 : Below w8.heap.size w8 w10 := Bthen HS9.out.2 hb10
            have h610 : Below w6.heap.size w6 w10 := Bthen H8.out.2.2 h810
            refine ⟨H6.out.2.1.below h610 (Nat.le_refl _), fun p hp => Nat.lt_of_lt_of_le (H6.out.2.2.2.2 p hp) hs68, H6.out.1.below h610 (Nat.le_refl _), ⟨_, _, _, _, _, _, HS9.out.1.below hb10, rfl, hS10, rfl, fun b h1 h2 => by simp [Value.ownBlock] at h1⟩, by omega, by omega, ⟨by omega, Nat.le_refl _, by omega⟩, ⟨by omega, by omega, by omega⟩, ?_, H8.out.2.1.below h810 (Nat.le_refl _), Bthen H6.out.2.2.1 h610, ?_⟩
            · rw [hgB]; exact (h810.block _ (isT_of H8.out.1).lt).trans H8.out.1
            · exact Nat.le_trans H6.out.2.2.1.size hs68
          rw [← hgB]
          obtain ⟨p2, hp2⟩ : ∃ p2, p2 = w8.heap.size + 1 := ⟨_, rfl⟩
          obtain ⟨b2, hb2⟩ : ∃ b2, b2 = w8.heap.size + 2 := ⟨_, rfl⟩
          obtain ⟨p3, hp3⟩ : ∃ p3, p3 = w9.heap.size + 1 := ⟨_, rfl⟩
          obtain ⟨b3, hb3⟩ : ∃ b3, b3 = w9.heap.size + 2 := ⟨_, rfl⟩
          rw [← hp2, ← hb2, ← hp3, ← hb3] at hWS
          rw [← hp2, ← hp3]
          obtain ⟨m3, hm3⟩ : ∃ m3, m3 = w9.heap.size := ⟨_, rfl⟩
          rw [← hm3] at hWS
          obtain ⟨H, hH⟩ : ∃ H, H = w8.heap.size := ⟨_, rfl⟩
          rw [← hH] at hWS
          have HW := Lib.hid hWS
          have HCE := Lib.hid H6.out.2.2.2.1
          clear hWS hp2 hb2 hp3 hb3 hm3 hH hgB hS10 hb10 HS9 H8 H7 H6 hs9 hs10 hs68
          obtain ⟨kk, hkk⟩ : ∃ kk : Nat, ct % ((lO.length : Int) + 1) = (kk : Int) := ⟨(ct % ((lO.length : Int) + 1)).toNat, by have := Int.emod_nonneg ct (show ((lO.length : Int) + 1) ≠ 0 by omega); omega⟩
          have hkl : kk ≤ lO.length := by have := Int.emod_lt_of_pos ct (show (0 : Int) < (lO.length : Int) + 1 by omega); omega
          go_wp2_with fail
          have HT : Hid ((lO.map toSE).map (toIt K) = its) := Lib.hid (by rw [HK.out.1, toIt_toSE (by rw [HI.out.2.2.1]; exact HI.out.2.1)]; exact HI.out.2.2.1)
          have HES : Hid (∀ wx : World, EsOk wx (lO.map toSE)) := Lib.hid (fun wx => esOk_right (key := K) (by rw [← all_it, HT.out]; exact HI.out.1.right))
          have HKS : Hid (K.size ≤ 1000000) := Lib.hid (by rw [HK.out.1]; decide)
          have hi65 : its.length ≤ 65536 := by have := HI.out.2.2.2.1; omega
          obtain ⟨n2, v2, l2, hS2, hm2, hp2⟩ := HW.out.app2
          have hcall := append_calls w10 K aE cE (lO.map toSE) hS2 (HR.out.1.below HW.out.bel).kv HKS.out HW.out.wE (HES.out _) (by rw [List.length_map]; omega)
          rw [List.length_map] at hcall
          have HC := Lib.hid (And.intro hcall hp2)
          clear hcall hp2 hS2 hm2
          go_at_call 35
          refine HC.out.1.mono ?_
          rintro e w11 hp
          obtain ⟨rfl, hW11⟩ := HC.out.2 _ _ _ hp
          rw [HT.out] at hW11 ⊢
          rw [(whole_app HI.out.1 hi65).1]
          rw [(whole_app HI.out.1 hi65).2] at hW11
          have HW11 := Lib.hid hW11
          clear hW11 hp HC HW
          have hpt := parts_app HI.out.1 hi65 kk
          obtain ⟨n2, v2, l2, hS2, hm2, hp2⟩ := HW11.out.app3
          have hcall := append_calls w11 K aE cE ((lO.map toSE).take kk) hS2 (HR.out.1.below HW11.out.bel).kv HKS.out (HW11.out.wE.take kk) ⟨fun x hx => (HES.out w11).ln x (List.mem_of_mem_take hx), fun x hx => (HES.out w11).sz x (List.mem_of_mem_take hx)⟩ (by rw [List.length_take, List.length_map]; omega)
          rw [show ((lO.map toSE).take kk).length = kk by rw [List.length_take, List.length_map]; omega, List.map_take, HT.out] at hcall
          have HC := Lib.hid (And.intro hcall (And.intro hp2 hpt))
          have hce := HCE.out.1.1
          have hcm : (cE : Int) ≤ 9223372036854775807 := by have := HCE.out.1.2; unfold maxLen at this; omega
          have hkc : kk ≤ cE := by omega
          clear hcall hp2 hS2 hm2 hpt
          go_wp2_with fail
          go_at_call 35
          refine HC.out.1.mono ?_
          rintro e w12 hp
          obtain ⟨rfl, hW12⟩ := HC.out.2.1 _ _ _ hp
          rw [HC.out.2.2.1]
          rw [HC.out.2.2.2.1] at hW12
          have HW12 := Lib.hid hW12
          have HPT := Lib.hid HC.out.2.2
          clear hW12 hp HC HW11
          go_upto_region 22 with fail
          go_cut [18] (fun s18 wx => W3Rel w H lO aO aE gB aB cB p2 b2 H p3 b3 m3 its s18 wx)
          case first =>
            obtain ⟨n2, v2, l2, hS2, hm2, hp2⟩ := HW12.out.app3
            rcases (show kk = lO.length ∨ kk < lO.length by omega) with hd | hd
            · have hcall := fun (a : Option Addr) (c : Nat) => append_calls w12 K a c [] hS2 (HR.out.1.below HW12.out.bel).kv HKS.out ⟨fun h => absurd rfl h, (fun x hx => by cases hx)⟩ ⟨(fun x hx => by cases hx), (fun x hx => by cases hx)⟩ (by simp)
              have hdr : its.drop kk = [] := List.drop_of_length_le (by rw [← HI.out.2.2.1, List.length_map]; omega)
              have hpt := HPT.out.2.2
              rw [hdr] at hpt
              have HC := Lib.hid (And.intro hcall (And.intro hp2 hpt))
              clear hcall hp2 hS2 hm2 hpt hdr
              rcases (show aE = none ∨ ∃ ad, aE = some ad by cases aE <;> simp) with hae | ⟨ad, hae⟩
              all_goals
                subst hae
                rcases (show cE = kk ∨ ¬ cE = kk by omega) with hck | hck
                all_goals
                  first | subst hck | skip
                  try subst hd
                  go_wp2_with fail
                  go_at_call 35
                  refine (HC.out.1 _ _).mono ?_
                  rintro e w13 hp
                  obtain ⟨rfl, hW13⟩ := HC.out.2.1 _ _ _ hp
                  have h1 := HC.out.2.2
                  simp only [List.map_nil] at hW13 ⊢
                  rw [h1.1]
                  rw [h1.2] at hW13
                  have HW13 := Lib.hid hW13
                  clear hW13 hp HC h1
                  go_wp2_with fail
                  go_meet
                  exact ⟨rfl, HW13.out⟩
            · obtain ⟨b, off, hae, _, _⟩ := HW12.out.wE.rd (by intro e; have := congrArg List.length e; rw [List.length_map] at this; simp at this; rw [this] at hd; simp at hd)
              subst hae
              have hcall := append_calls w12 K (some ⟨b, off + kk * 6, none⟩) (cE - kk) ((lO.map toSE).drop kk) hS2 (HR.out.1.below HW12.out.bel).kv HKS.out (HW12.out.wE.drop kk) ⟨fun x hx => (HES.out w12).ln x (List.mem_of_mem_drop hx), fun x hx => (HES.out w12).sz x (List.mem_of_mem_drop hx)⟩ (by rw [List.length_drop, List.length_map]; omega)
              rw [List.length_drop, List.length_map, List.map_drop, HT.out] at hcall
              have HC := Lib.hid (And.intro hcall (And.intro hp2 HPT.out.2.2))
              have hck : ¬ cE = kk := by omega
              clear hcall hp2 hS2 hm2
              go_wp2_with fail
              go_at_call 35
              refine HC.out.1.mono ?_
              rintro e w13 hp
              obtain ⟨rfl, hW13⟩ := HC.out.2.1 _ _ _ hp
              have h1 := HC.out.2.2
              rw [h1.1]
              rw [h1.2] at hW13
              have HW13 := Lib.hid hW13
              clear hW13 hp HC h1
              go_wp2_with fail
              go_meet
              exact ⟨rfl, HW13.out⟩
          case rest =>
            obtain ⟨rfl, hW13⟩ := hcut
            have HW13 := Lib.hid hW13
            obtain ⟨w13, hw13⟩ : ∃ q, q = wc := ⟨_, rfl⟩
            subst hw13
            clear hW13 HW12 HPT
            have hlb : ∀ (l' : List SI), l'.map SI.it = its → ∀ x ∈ l', x.e.lab.length ≤ 1000000000 := fun l' h x hx => by
              have := (labRight_ok (right_lab (List.all_eq_true.1 HI.out.1.right x.it (h ▸ List.mem_map_of_mem hx)))).1
              show x.it.e.lab.length ≤ _
              omega
            have HLB := Lib.hid hlb
            clear hlb
            go_wp2_with fail
            go_at_call 37
            obtain ⟨n2, v2, l2, n3, v3, l3, hS2, hm2, hS3, hm3, -⟩ := HW13.out.snk
            have hcall := all_calls w13 hS2
            rw [hm2] at hcall
            clear hS2 hm2 hS3 hm3
            refine hcall.mono ?_
            clear hcall
            rintro e w14 ⟨a14, c14, lo14, rfl, hown14, hl14, hm14, hb14⟩
            have HW14 := Lib.hid (HW13.out.below hb14)
            have H14 := Lib.hid (And.intro (RdI.of_own hown14 hl14) hm14)
            have hl14n : lo14.length ≤ 1000000000 := by have := congrArg List.length hm14; rw [List.length_map] at this; have := HI.out.2.2.2.1; omega
            clear hown14 hl14 hm14 hb14
            go_wp2_with fail
            go_at_call 36
            refine (items_yes a14 aO c14 cO lo14 lO w14 H14.out.1 HW14.out.wI (HLB.out lo14 H14.out.2) hl14n (H14.out.2.trans HI.out.2.2.1.symm)).mono ?_
            rintro e w15 ⟨rfl, hb15⟩
            have HW15 := Lib.hid (HW14.out.below hb15)
            clear hb15 hl14n H14 HW14 HW13
            go_wp2_with fail
            go_at_call 37
            obtain ⟨n2, v2, l2, n3, v3, l3, hS2, hm2, hS3, hm3, -⟩ := HW15.out.snk
            have hcall := all_calls w15 hS3
            rw [hm3] at hcall
            clear hS2 hm2 hS3 hm3
            refine hcall.mono ?_
            clear hcall
            rintro e w16 ⟨a16, c16, lo16, rfl, hown16, hl16, hm16, hb16⟩
            have HW16 := Lib.hid (HW15.out.below hb16)
            have H16 := Lib.hid (And.intro (RdI.of_own hown16 hl16) hm16)
            have hl16n : lo16.length ≤ 1000000000 := by have := congrArg List.length hm16; rw [List.length_map] at this; have := HI.out.2.2.2.1; omega
            clear hown16 hl16 hm16 hb16
            go_wp2_with fail
            go_at_call 36
            refine (items_yes a16 aO c16 cO lo16 lO w16 H16.out.1 HW16.out.wI (HLB.out lo16 H16.out.2) hl16n (H16.out.2.trans HI.out.2.2.1.symm)).mono ?_
            rintro e w17 ⟨rfl, hb17⟩
            have HW17 := Lib.hid (HW16.out.below hb17)
            clear hb17 hl16n H16 HW16 HW15
            have hbk := HW17.out.bd
            have e0 : w17.cell? ⟨gB, 0, none⟩ = some (.slice aB 1 cB) := block_cell hbk 0 _ rfl
            have e1 : w17.cell? ⟨gB, 1, none⟩ = some (.bool true) := block_cell hbk 1 _ rfl
            have e2 : w17.cell? ⟨gB, 2, none⟩ = some (.int .u64 0) := block_cell hbk 2 _ rfl
            have e3 : w17.cell? ⟨gB, 3, none⟩ = some (.bool false) := block_cell hbk 3 _ rfl
            have e4 : w17.cell? ⟨gB, 4, none⟩ = some (.int .i64 0) := block_cell hbk 4 _ rfl
            have e5 : w17.cell? ⟨gB, 5, none⟩ = some (.int .i64 0) := block_cell hbk 5 _ rfl
            clear hbk
            go_wp2_with fail
            have hlE : (lO.map toSE).length = lO.length := List.length_map _
            have HLE := Lib.hid hlE
            clear hlE
            go_region_law (first
              | (go_simp; go_at_call 39
                 have hcall := cloneE_flat aE cE lO.length (eFlat (lO.map toSE)) w17.drew (HW17.out.wE.flat.below (Below.refl _ _).drew) (by rw [eFlat_length, HLE.out]) HCE.out.2 eFlat_one (by omega)
                 with_reducible refine hcall.mono ?_
                 clear hcall
                 rintro e w18 ⟨v18, rfl, hown18, hb18⟩
                 obtain ⟨a18, c18, rfl⟩ := own_form hown18
                 have hb178 : Below w17.heap.size w17 w18 := Below.trans (Below.refl _ _).drew (hb18.mono (by simp))
                 have H18 : Hid (w18.ownsRow w17.heap.size 59 6 (.slice a18 lO.length c18) lO.length (eFlat ((lO.map toSE).take kk) ++ eFlat ((lO.map toSE).drop kk)) ∧ Below w17.heap.size w17 w18) := Lib.hid ⟨by rw [← eFlat_append, List.take_append_drop]; exact own_weak hown18 (by simp), hb178⟩
                 have hbk := (HW17.out.below hb178).bd
                 have q0 : w18.cell? ⟨gB, 0, none⟩ = some (.slice aB 1 cB) := block_cell hbk 0 _ rfl
                 have q1 : w18.cell? ⟨gB, 1, none⟩ = some (.bool true) := block_cell hbk 1 _ rfl
                 have q2 : w18.cell? ⟨gB, 2, none⟩ = some (.int .u64 0) := block_cell hbk 2 _ rfl
                 have q3 : w18.cell? ⟨gB, 3, none⟩ = some (.bool false) := block_cell hbk 3 _ rfl
                 have q4 : w18.cell? ⟨gB, 4, none⟩ = some (.int .i64 0) := block_cell hbk 4 _ rfl
                 have q5 : w18.cell? ⟨gB, 5, none⟩ = some (.int .i64 0) := block_cell hbk 5 _ rfl
                 clear hbk hown18 hb18 hb178)
              | (go_simp; go_at_call 39
                 have hcall := cloneE_flat aE cE lO.length (eFlat (lO.map toSE)) (w17.alloc (.cells #[.slice aB 1 cB, .bool true, .int .u64 0, .bool false, .int .i64 0, .int .i64 0] 59)).drew (HW17.out.wE.flat.below ((Below.refl _ _).alloc (Nat.le_refl _) _).drew) (by rw [eFlat_length, HLE.out]) HCE.out.2 eFlat_one (by omega)
                 with_reducible refine hcall.mono ?_
                 clear hcall
                 rintro e w18 ⟨v18, rfl, hown18, hb18⟩
                 obtain ⟨a18, c18, rfl⟩ := own_form hown18
                 have hb178 : Below w17.heap.size w17 w18 := Below.trans ((Below.refl _ _).alloc (Nat.le_refl _) _).drew (hb18.mono (by simp))
                 have H18 : Hid (w18.ownsRow w17.heap.size 59 6 (.slice a18 lO.length c18) lO.length (eFlat ((lO.map toSE).take kk) ++ eFlat ((lO.map toSE).drop kk)) ∧ Below w17.heap.size w17 w18) := Lib.hid ⟨by rw [← eFlat_append, List.take_append_drop]; exact own_weak hown18 (by simp), hb178⟩
                 have hbk := (HW17.out.below hb178).bd
                 have HNB : Hid (w18.heap[w17.heap.size]? = some (.cells #[.slice aB 1 cB, .bool true, .int .u64 0, .bool false, .int .i64 0, .int .i64 0] 59 (0, 0)) ∧ ∀ g, a18 = some ⟨g, 0, none⟩ → w17.heap.size ≠ g) := Lib.hid ⟨(hb18.block _ (by simp)).trans (heap_alloc_new w17 _), fun g hg => by have := own_base hown18 (k := g) (by rw [hg]; rfl); simp at this; omega⟩
                 have q0 : w18.cell? ⟨gB, 0, none⟩ = some (.slice aB 1 cB) := block_cell hbk 0 _ rfl
                 have q1 : w18.cell? ⟨gB, 1, none⟩ = some (.bool true) := block_cell hbk 1 _ rfl
                 have q2 : w18.cell? ⟨gB, 2, none⟩ = some (.int .u64 0) := block_cell hbk 2 _ rfl
                 have q3 : w18.cell? ⟨gB, 3, none⟩ = some (.bool false) := block_cell hbk 3 _ rfl
                 have q4 : w18.cell? ⟨gB, 4, none⟩ = some (.int .i64 0) := block_cell hbk 4 _ rfl
                 have q5 : w18.cell? ⟨gB, 5, none⟩ = some (.int .i64 0) := block_cell hbk 5 _ rfl
                 clear hbk hown18 hb18 hb178)
              | (go_simp; go_at_call 38
                 have hcall := insE_calls a18 lO.length c18 kk (eFlat ((lO.map toSE).take kk)) (eFlat ((lO.map toSE).drop kk)) (eB ⟨aB, cB, badI.e⟩) w17.heap.size w17 (w18.alloc (.cells #[.slice aB 1 cB, .bool true, .int .u64 0, .bool false, .int .i64 0, .int .i64 0] 59)) (H18.out.1.alloc _) (by rw [eFlat_length, List.length_take, HLE.out, Nat.min_eq_left hkl]) (by rw [eFlat_length, List.length_drop, HLE.out]) rfl eFlat_one eFlat_one eB_one (by omega) hkl w18.heap.size (fun g hg => by have := (own_isT H18.out.1 (k := g) (by rw [hg]; rfl)).lt; omega) (by exact heap_alloc_new w18 _) (by exact H18.out.2.alloc H18.out.2.size _) (by have := H18.out.2.size; simp; omega)
                 with_reducible refine hcall.mono ?_
                 clear hcall
                 rintro e w19 ⟨v19, rfl, hown19, hb19⟩
                 obtain ⟨a19, c19, rfl⟩ := own_form hown19
                 have H19 := Lib.hid (And.intro hown19 (HW17.out.below hb19))
                 clear hown19 hb19)
              | (go_simp; go_at_call 38
                 have hcall := insE_calls a18 lO.length c18 kk (eFlat ((lO.map toSE).take kk)) (eFlat ((lO.map toSE).drop kk)) (eB ⟨aB, cB, badI.e⟩) w17.heap.size w17 w18 H18.out.1 (by rw [eFlat_length, List.length_take, HLE.out, Nat.min_eq_left hkl]) (by rw [eFlat_length, List.length_drop, HLE.out]) rfl eFlat_one eFlat_one eB_one (by omega) hkl w17.heap.size (fun g hg => HNB.out.2 g hg) (by exact HNB.out.1) (by exact H18.out.2) H18.out.2.size
                 with_reducible refine hcall.mono ?_
                 clear hcall
                 rintro e w19 ⟨v19, rfl, hown19, hb19⟩
                 obtain ⟨a19, c19, rfl⟩ := own_form hown19
                 have H19 := Lib.hid (And.intro hown19 (HW17.out.below hb19))
                 clear hown19 hb19)
              | (go_simp; go_at_call 35
                 obtain ⟨n3, v3, l3, hS3, hm3, hp3⟩ := H19.out.2.app3
                 have hcall := append_calls w19 K a19 c19 (withBad (lO.map toSE) kk ⟨aB, cB, badI.e⟩) hS3 (HR.out.1.below H19.out.2.bel).kv HKS.out (RdE.of_own (by rw [withBad_flat]; exact H19.out.1) (fun y hy => by rcases withBad_mem hy with h | h; exact H19.out.2.wE.lab y h; rw [h]; exact H19.out.2.bl)) (esOk_add (HES.out w19) (x := ⟨aB, cB, badI.e⟩) (show badI.e.lab.length ≤ 1 ∧ ∀ y ∈ badI.e.lab, y.2.size ≤ 1 by decide) (fun y hy => withBad_mem hy)) (by rw [withBad_len, HLE.out]; omega)
                 rw [withBad_len, HLE.out, show (withBad (lO.map toSE) kk ⟨aB, cB, badI.e⟩).map (toIt K) = its.take kk ++ [badI] ++ its.drop kk by unfold withBad; rw [List.map_append, List.map_append, List.map_take, List.map_drop, HT.out, HK.out.1]; rfl] at hcall
                 refine hcall.mono ?_
                 clear hcall
                 rintro e w20 hp
                 obtain ⟨rfl, hW20⟩ := hp3 _ _ _ hp
                 have hwb := whole_bad HI.out.1 kk
                 rw [app_no (by rcases hwb with e | e <;> rw [e] <;> decide)] at hW20
                 obtain ⟨er, her⟩ : ∃ er, er = appErr its (its.take kk ++ [badI] ++ its.drop kk) := ⟨_, rfl⟩
                 rw [← her] at hwb ⊢
                 have H20 := Lib.hid (And.intro hwb hW20)
                 clear hwb hW20 hp hp3 hS3 hm3 her))
            all_goals
              clear e0 e1 e2 e3 e4 e5 q0 q1 q2 q3 q4 q5 H18 H19
              have hcall := cloneE_flat aE cE lO.length (eFlat (lO.map toSE)) w20 H20.out.2.wE.flat (by rw [eFlat_length, HLE.out]) HCE.out.2 eFlat_one (by omega)
              have HC := Lib.hid hcall
              clear hcall
              go_wp2_with fail
              go_at_call 39
              refine HC.out.mono ?_
              rintro e w21 ⟨v21, rfl, hown21, hb21⟩
              obtain ⟨a21, c21, rfl⟩ := own_form hown21
              have H21 := Lib.hid (And.intro hown21 hb21)
              have hs21 := hb21.size
              clear hown21 hb21 HC
              go_wp2_with (at_builtin; refine wpList_app rfl _ _ 54 59 6 64 _ rfl Tryz.underlying54 infoEn rfl (by decide) (by decide) w20.heap.size _ lO.length (eFlat (lO.map toSE)) rfl (H21.out.1.alloc _) ⟨w21.heap.size, 0, none⟩ 1 1 (eB minusE) rfl rfl (cells_new w21 #[.slice none 0 0, .bool false, .int .u64 0, .bool false, .int .i64 0, .int .i64 (-1)] _ _ rfl) eB_one (by omega) (by simp; omega) ?_; intro v22 w22 hown22 _ _ hbel22; obtain ⟨a22, c22, rfl⟩ := own_form hown22; have H22 := Lib.hid (And.intro hown22 (H20.out.2.below (hbel22 w20 (H21.out.2.alloc hs21 _)))); clear hown22 hbel22)
              go_at_call 35
              obtain ⟨n3, v3, l3, hS3, hm3, hp3⟩ := H22.out.2.app3
              have hcall := append_calls w22 K a22 c22 (lO.map toSE ++ [minusE]) hS3 (HR.out.1.below H22.out.2.bel).kv HKS.out (RdE.of_own (by rw [eFlat_append]; simpa [eFlat] using H22.out.1) (fun y hy => by rcases List.mem_append.1 hy with h | h; exact H22.out.2.wE.lab y h; rw [List.mem_singleton.1 h]; exact nil_ll _)) (esOk_add (HES.out w22) (x := minusE) (show minusE.e.lab.length ≤ 1 ∧ ∀ y ∈ minusE.e.lab, y.2.size ≤ 1 by decide) (fun y hy => by rcases List.mem_append.1 hy with h | h; exact .inl h; exact .inr (List.mem_singleton.1 h))) (by rw [List.length_append, HLE.out, List.length_singleton]; omega)
              rw [List.length_append, HLE.out, List.length_singleton, List.map_append, HT.out] at hcall
              refine hcall.mono ?_
              clear hcall
              rintro e w23 hp
              obtain ⟨rfl, hW23⟩ := hp3 _ _ _ hp
              have hme : appErr its (its ++ List.map (toIt K) [minusE]) = 380 := minus_err (minus_right _)
              rw [app_no (by rw [hme]; decide)] at hW23
              rw [hme]
              have HW23 := Lib.hid hW23
              have her := H20.out.1
              clear hW23 hp hp3 hS3 hm3 hme H20 H21 H22
              rcases her with her | her
              all_goals
                subst her
                go_wp2_with fail
                go_at_call 37
                obtain ⟨n2, v2, l2, n3, v3, l3, hS2, hm2, hS3, hm3, -⟩ := HW23.out.snk
                have hcall := all_calls w23 hS3
                rw [hm3] at hcall
                clear hS2 hm2 hS3 hm3
                refine hcall.mono ?_
                clear hcall
                rintro e w24 ⟨a24, c24, lo24, rfl, hown24, hl24, hm24, hb24⟩
                have HW24 := Lib.hid (HW23.out.below hb24)
                have H24 := Lib.hid (And.intro (RdI.of_own hown24 hl24) hm24)
                have hl24n : lo24.length ≤ 1000000000 := by have := congrArg List.length hm24; rw [List.length_map] at this; have := HI.out.2.2.2.1; omega
                clear hown24 hl24 hm24 hb24
                go_wp2_with fail
                go_at_call 36
                refine (items_yes a24 aO c24 cO lo24 lO w24 H24.out.1 HW24.out.wI (HLB.out lo24 H24.out.2) hl24n (H24.out.2.trans HI.out.2.2.1.symm)).mono ?_
                rintro e w25 ⟨rfl, hb25⟩
                have HW25 := Lib.hid (HW24.out.below hb25)
                clear hb25 hl24n H24 HW24
                go_wp2_with fail
                go_ret
                exact ⟨rfl, HW25.out.bel⟩
end Go.Proofs.YtiooimdncocfdaaGreatDoor.Sk
