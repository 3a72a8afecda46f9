/- Chapter 38: what the laws over small entries stand on. -/
import Derived.Test.YtmagojckhfkcdaaGreatDoorKiR
import Derived.Deep.DeepCutAuto
import Derived.Deep.RegionLaw
namespace Go.Proofs.YtmagojckhfkcdaaGreatDoor.Sk
open Go Go.RowKit
def zK (x : Sm) : Sm := ⟨0, x.ser, x.kind, x.more⟩
theorem zK_ok {x : Sm} (h : SmOk x) : SmOk (zK x) := ⟨Int.le_refl _, by show (0 : Int) ≤ 255; decide, h.s0, h.s1, h.d0, h.d1, h.m0, h.m1⟩
def sFlat (l : List Sm) : List Value := l.flatMap smB
theorem sFlat_length (l : List Sm) : (sFlat l).length = l.length * 4 := flat_len smB 4 (fun _ => rfl) l
theorem sFlat_one {l : List Sm} : ∀ u ∈ sFlat l, u.oneCell' = true := by
  intro u hu
  unfold sFlat smB at hu
  simp only [List.mem_flatMap, List.mem_cons, List.not_mem_nil, or_false] at hu
  obtain ⟨x, _, rfl | rfl | rfl | rfl⟩ := hu <;> rfl
theorem eFlat_one {l : List SE} : ∀ u ∈ eFlat l, u.oneCell' = true := by
  intro u hu
  unfold eFlat eB at hu
  simp only [List.mem_flatMap, List.mem_cons, List.not_mem_nil, or_false] at hu
  obtain ⟨x, _, rfl | rfl | rfl | rfl | rfl | rfl⟩ := hu <;> rfl
/-- the first k keys are 0 -/
def zeroK (k : Nat) (l : List Sm) : List Sm := (l.take k).map zK ++ l.drop k
theorem zeroK_len (k : Nat) (l : List Sm) : (zeroK k l).length = l.length := by
  unfold zeroK
  rw [List.length_append, List.length_map, List.length_take, List.length_drop]
  omega
theorem zeroK_all (l : List Sm) : zeroK l.length l = l.map zK := by
  unfold zeroK
  rw [List.take_length, List.drop_length, List.append_nil]
theorem zeroK_at {k : Nat} {l : List Sm} {x : Sm} (hx : l[k]? = some x) : zeroK k l = (l.take k).map zK ++ (x :: l.drop (k + 1)) ∧ zeroK (k + 1) l = (l.take k).map zK ++ (zK x :: l.drop (k + 1)) := by
  have hk := (List.getElem?_eq_some_iff.1 hx).1
  have hd : l.drop k = x :: l.drop (k + 1) := by rw [List.drop_eq_getElem_cons hk, (List.getElem?_eq_some_iff.1 hx).2]
  unfold zeroK
  refine ⟨by rw [hd], ?_⟩
  rw [take_succ_at hx, List.map_append, List.append_assoc]
  rfl
theorem sFlat_set {k : Nat} {l : List Sm} {x : Sm} (hx : l[k]? = some x) : (sFlat (zeroK k l)).set (k * 4) (.int .u8 0) = sFlat (zeroK (k + 1) l) := by
  have hk := (List.getElem?_eq_some_iff.1 hx).1
  obtain ⟨h1, h2⟩ := zeroK_at hx
  rw [h1, h2]
  unfold sFlat
  rw [List.flatMap_append, List.flatMap_append, List.flatMap_cons, List.flatMap_cons]
  have hl : (((l.take k).map zK).flatMap smB).length = k * 4 := by
    have := sFlat_length ((l.take k).map zK)
    rw [List.length_map, List.length_take] at this
    unfold sFlat at this
    rw [this, Nat.min_eq_left (by omega)]
  rw [List.set_append_right _ _ (by omega), hl, Nat.sub_self]
  rfl
theorem own_set {W : World} {base g n cap size : Nat} {T : TypeId} {xs : List Value} (h : W.ownsRow base T size (.slice (some ⟨g, 0, none⟩) n cap) n xs) (j : Nat) (_hj : j < xs.length) (u : Value) :
    (W.setCell ⟨g, j, none⟩ u).ownsRow base T size (.slice (some ⟨g, 0, none⟩) n cap) n (xs.set j u) := by
  rcases h.2 with ⟨e, _⟩ | ⟨g', cap', cur, e, hb, hg, h1, h2, h3, h4⟩
  · cases e
  · cases e
    refine ⟨by rw [List.length_set]; exact h.1, .inr ⟨g, cap, cur.setIfInBounds j u, rfl, hb, ?_, h1, h2, by simpa using h3, ?_⟩⟩
    · unfold World.setCell
      simp only [Array.getElem?_modify, hg]
      rfl
    · rw [Array.toList_setIfInBounds, List.take_set, h4]
theorem RdS.of_own {w : World} {base n cap k : Nat} {a : Option Addr} {l : List Sm} (h : w.ownsRow base 24 4 (.slice a n cap) k (sFlat l)) : RdS w a l := by
  intro hx
  obtain ⟨g, e, _, ht, hc⟩ := own_at0 h (by cases l with | nil => exact absurd rfl hx | cons x r => simp [sFlat, smB])
  refine ⟨g, 0, e, ht, fun i x hi j u hu => ?_⟩
  rw [Nat.zero_add]
  exact hc _ _ (flat_at smB 4 (fun _ => rfl) hi hu)
theorem RdS.flat {w : World} {a : Option Addr} {l : List Sm} (h : RdS w a l) : RdF w a (sFlat l) := by
  intro hx
  obtain ⟨b, off, e, ht, hc⟩ := h (by intro e; subst e; exact hx rfl)
  refine ⟨b, off, e, ht.lt, fun j u hu => ?_⟩
  have hj := (List.getElem?_eq_some_iff.1 hu).1
  rw [sFlat_length] at hj
  have hd := Nat.div_add_mod j 4
  have hm := Nat.mod_lt j (show 4 > 0 by decide)
  obtain ⟨x, hxi⟩ : ∃ x, l[j / 4]? = some x := ⟨_, List.getElem?_eq_getElem (by omega)⟩
  obtain ⟨v, hv⟩ : ∃ v, (smB x)[j % 4]? = some v := ⟨_, List.getElem?_eq_getElem (show j % 4 < 4 from hm)⟩
  have h1 := flat_at smB 4 (fun _ => rfl) hxi hv
  rw [show j / 4 * 4 + j % 4 = j by omega] at h1
  have h2 : some v = some u := h1.symm.trans hu
  cases h2
  have := hc _ _ hxi _ _ hv
  rw [show off + j / 4 * 4 + j % 4 = off + j by omega] at this
  exact this
theorem RdS.take {w : World} {a : Option Addr} {l : List Sm} (h : RdS w a l) (n : Nat) : RdS w a (l.take n) := by
  intro hx
  obtain ⟨b, off, e, ht, hc⟩ := h (by intro e; subst e; simp at hx)
  refine ⟨b, off, e, ht, fun i x hi => hc i x ?_⟩
  rw [List.getElem?_take] at hi
  split at hi
  · exact hi
  · cases hi
theorem eFlat_append (l m : List SE) : eFlat (l ++ m) = eFlat l ++ eFlat m := by simp [eFlat]
theorem eFlat_ne {l : List SE} (h : l ≠ []) : eFlat l ≠ [] := by
  cases l with
  | nil => exact absurd rfl h
  | cons x r => simp [eFlat, eB]
theorem eFlat_drop (l : List SE) (n : Nat) : eFlat (l.drop n) = (eFlat l).drop (n * 6) := by
  induction n generalizing l with
  | zero => simp
  | succ n ih =>
    cases l with
    | nil => simp [eFlat]
    | cons x r =>
      rw [List.drop_succ_cons, ih r, show (n + 1) * 6 = 6 + n * 6 by omega]
      show _ = (eB x ++ eFlat r).drop (6 + n * 6)
      have h7 : (eB x).length = 6 := rfl
      rw [List.drop_append, List.drop_of_length_le (l := eB x) (by omega), List.nil_append, show 6 + n * 6 - (eB x).length = n * 6 by omega]
theorem eFlat_take (l : List SE) (n : Nat) : eFlat (l.take n) = (eFlat l).take (n * 6) := by
  induction n generalizing l with
  | zero => simp [eFlat]
  | succ n ih =>
    cases l with
    | nil => simp [eFlat]
    | cons x r =>
      rw [List.take_succ_cons, show (n + 1) * 6 = 6 + n * 6 by omega]
      show eB x ++ eFlat (r.take n) = (eB x ++ eFlat r).take (6 + n * 6)
      have h7 : (eB x).length = 6 := rfl
      rw [List.take_append, List.take_of_length_le (l := eB x) (by omega), show 6 + n * 6 - (eB x).length = n * 6 by omega, ih r]
theorem RdE.of_own {w : World} {base n cap k : Nat} {a : Option Addr} {l : List SE} (h : w.ownsRow base 34 6 (.slice a n cap) k (eFlat l)) (hl : ∀ x ∈ l, Ll w x.la x.lc x.e.lab) : RdE w a l := by
  refine ⟨fun hx => ?_, hl⟩
  obtain ⟨g, e, _, ht, hc⟩ := own_at0 h (eFlat_ne hx)
  exact ⟨g, 0, e, ht, fun j u hu => by rw [Nat.zero_add]; exact hc j u hu⟩
theorem RdE.take {w : World} {a : Option Addr} {l : List SE} (h : RdE w a l) (n : Nat) : RdE w a (l.take n) := by
  refine ⟨fun hx => ?_, fun x hx => h.lab x (List.mem_of_mem_take hx)⟩
  obtain ⟨b, off, e, ht, hc⟩ := h.rd (by intro e; subst e; simp at hx)
  refine ⟨b, off, e, ht, fun j u hu => hc j u ?_⟩
  rw [eFlat_take, List.getElem?_take] at hu
  split at hu
  · exact hu
  · cases hu
theorem RdE.drop {w : World} {b off : Nat} {l : List SE} (h : RdE w (some ⟨b, off, none⟩) l) (n : Nat) : RdE w (some ⟨b, off + n * 6, none⟩) (l.drop n) := by
  refine ⟨fun hx => ?_, fun x hx => h.lab x (List.mem_of_mem_drop hx)⟩
  obtain ⟨b', off', e, ht, hc⟩ := h.rd (by intro e; subst e; simp at hx)
  cases e
  refine ⟨b, off + n * 6, rfl, ht, fun j u hu => ?_⟩
  rw [eFlat_drop, List.getElem?_drop] at hu
  rw [Nat.add_assoc]
  exact hc _ _ hu
theorem RdE.flat {w : World} {a : Option Addr} {l : List SE} (h : RdE w a l) : RdF w a (eFlat l) := by
  intro hx
  obtain ⟨b, off, e, ht, hc⟩ := h.rd (by intro e; subst e; exact hx rfl)
  exact ⟨b, off, e, ht.lt, hc⟩
/-- the entry of an item -/
def toSE (x : SI) : SE := ⟨x.la, x.lc, x.e⟩
def zeroSm : Sm := ⟨0, 0, 0, 0⟩
theorem zeroSm_ok : SmOk zeroSm := by constructor <;> decide
theorem zero_key : keyS zeroSm = kJ := by decide
theorem zero_ent : itS zeroSm 0 = badI := by
  unfold itS badI entS
  rw [zero_key]
  rfl
/-- of what is filled with keys 0, every key is that of zeroSm -/
theorem filled_key {l : List Sm} {st : Int} : ∀ y ∈ fillS [] st (l.map zK), y.key = kJ := by
  intro y hy
  rcases fillS_mem _ _ _ y hy with h | ⟨x, hx, st', rfl, _⟩
  · cases h
  · obtain ⟨z, _, rfl⟩ := List.mem_map.1 hx
    show keyS (zK z) = kJ
    exact zero_key
theorem toIt_toSE {l : List SI} (h : ∀ x ∈ l.map SI.it, x.key = kJ) : (l.map toSE).map (toIt kJ) = l.map SI.it := by
  rw [List.map_map]
  refine List.map_congr_left fun x hx => ?_
  have := h x.it (List.mem_map_of_mem hx)
  obtain ⟨k, a, c, e⟩ := x
  simp only [SI.it] at this
  subst this
  rfl
/-- where the walk stands: the items that are wanted, their entries, two sinks, the entry that is bad -/
structure WS (w0 : World) (H : Nat) (lO : List SI) (aO aE : Option Addr) (gB : Nat) (aB : Option Addr) (cB p2 b2 m2 p3 b3 m3 : Nat) (its2 its3 : List It) (wx : World) : Prop where
  wI : RdI wx aO lO
  hO : ∀ p, aO = some p → p.block < H
  wE : RdE wx aE (lO.map toSE)
  snk : ∃ n2 v2 l2 n3 v3 l3, SinkAt wx p2 b2 m2 n2 v2 l2 ∧ l2.map SI.it = its2 ∧ SinkAt wx p3 b3 m3 n3 v3 l3 ∧ l3.map SI.it = its3 ∧ ∀ b, v2.ownBlock = some b → v3.ownBlock ≠ some b
  nep : p2 ≠ p3
  nem : m2 ≠ m3
  lo2 : H ≤ p2 ∧ H ≤ m2 ∧ H ≤ b2
  lo3 : H ≤ p3 ∧ H ≤ m3 ∧ H ≤ b3
  bd : wx.heap[gB]? = some (.cells (eB ⟨aB, cB, badI.e⟩).toArray 34 (0, 0))
  bl : Ll wx aB cB badI.e.lab
  bel : Below w0.heap.size w0 wx
  hH : w0.heap.size ≤ H
section
variable {w0 wx w' : World} {H : Nat} {lO : List SI} {aO aE : Option Addr} {gB : Nat} {aB : Option Addr} {cB p2 b2 m2 p3 b3 m3 : Nat} {its2 its3 : List It}
theorem WS.below (h : WS w0 H lO aO aE gB aB cB p2 b2 m2 p3 b3 m3 its2 its3 wx) (hb : Below wx.heap.size wx w') : WS w0 H lO aO aE gB aB cB p2 b2 m2 p3 b3 m3 its2 its3 w' := by
  obtain ⟨n2, v2, l2, n3, v3, l3, hS2, hm2, hS3, hm3, ha⟩ := h.snk
  exact ⟨h.wI.below hb (Nat.le_refl _), h.hO, h.wE.below hb (Nat.le_refl _), ⟨n2, v2, l2, n3, v3, l3, hS2.below hb, hm2, hS3.below hb, hm3, ha⟩, h.nep, h.nem, h.lo2, h.lo3, (hb.block gB (isT_of h.bd).lt).trans h.bd, h.bl.below hb (Nat.le_refl _), Bthen h.bel hb, h.hH⟩
theorem WS.swap (h : WS w0 H lO aO aE gB aB cB p2 b2 m2 p3 b3 m3 its2 its3 wx) : WS w0 H lO aO aE gB aB cB p3 b3 m3 p2 b2 m2 its3 its2 wx := by
  obtain ⟨n2, v2, l2, n3, v3, l3, hS2, hm2, hS3, hm3, ha⟩ := h.snk
  exact ⟨h.wI, h.hO, h.wE, ⟨n3, v3, l3, n2, v2, l2, hS3, hm3, hS2, hm2, fun b h1 h2 => ha b h2 h1⟩, h.nep.symm, h.nem.symm, h.lo3, h.lo2, h.bd, h.bl, h.bel, h.hH⟩
theorem WS.app2 (h : WS w0 H lO aO aE gB aB cB p2 b2 m2 p3 b3 m3 its2 its3 wx) : ∃ n2 v2 l2, SinkAt wx p2 b2 m2 n2 v2 l2 ∧ l2.map SI.it = its2 ∧
    ∀ (m : List It) e w', AppPost wx p2 b2 m2 v2 l2 m e w' → e = .returned (.int .i64 (appErr its2 m)) ∧ WS w0 H lO aO aE gB aB cB p2 b2 m2 p3 b3 m3 (app its2 m) its3 w' := by
  obtain ⟨n2, v2, l2, n3, v3, l3, hS2, hm2, hS3, hm3, ha⟩ := h.snk
  refine ⟨n2, v2, l2, hS2, hm2, ?_⟩
  rintro m e w' ⟨he, n', v', l', hS', hm', hf, hk⟩
  rw [hm2] at he hm'
  refine ⟨he, h.wI.fr hf (fun b hb => hS2.notX hb (by decide) (by decide)) (fun p hp => ?_), h.hO, h.wE.fr hf (fun b hb => ?_), ⟨n', v', l', n3, v3, l3, hS', hm', hS2.other hf hS3 h.nep.symm h.nem.symm ha, hm3, fun b h1 h2 => ?_⟩, h.nep, h.nem, h.lo2, h.lo3, hS2.keep hf h.bd (by decide) (by decide), hS2.ll hf h.bl, h.bel.trans (hS2.app_below hf ?_ ?_ ?_), h.hH⟩
  · have h1 := h.hO p hp
    have h2 := h.lo2
    rintro (e | e | e)
    · omega
    · omega
    · have := own_base hS2.own e; omega
  · rcases hb with hb | hb
    · exact hS2.notX hb (by decide) (by decide)
    · exact hS2.notX hb (by decide) (by decide)
  · rcases hk b h1 with e1 | e1
    · exact ha b e1 h2
    · have := (own_isT hS3.own h2).lt; omega
  · have := h.lo2; have := h.hH; omega
  · have := h.lo2; have := h.hH; omega
  · have := h.lo2; have := h.hH; omega
theorem WS.app3 (h : WS w0 H lO aO aE gB aB cB p2 b2 m2 p3 b3 m3 its2 its3 wx) : ∃ n3 v3 l3, SinkAt wx p3 b3 m3 n3 v3 l3 ∧ l3.map SI.it = its3 ∧
    ∀ (m : List It) e w', AppPost wx p3 b3 m3 v3 l3 m e w' → e = .returned (.int .i64 (appErr its3 m)) ∧ WS w0 H lO aO aE gB aB cB p2 b2 m2 p3 b3 m3 its2 (app its3 m) w' := by
  obtain ⟨n, v, l, hS, hm, hp⟩ := h.swap.app2
  exact ⟨n, v, l, hS, hm, fun m e w' hpost => ⟨(hp m e w' hpost).1, (hp m e w' hpost).2.swap⟩⟩
end
/-- behind k rounds of the loop over the small entries -/
def ZInv (w B : Nat) (W0 : World) (L : List Sm) (a1 : Option Addr) (m c1 : Nat) (i : Value) (wr : World) : Prop :=
  ∃ k : Nat, k ≤ m ∧ i = .int .i64 k ∧ wr.ownsRow B 24 4 (.slice a1 m c1) m (sFlat (zeroK k L)) ∧ Below w W0 wr
/-- behind k rounds of the loop over the items: their entries -/
def EInv (w : World) (lO : List SI) (out i : Value) (wr : World) : Prop :=
  ∃ k : Nat, k ≤ lO.length ∧ i = .int .i64 k ∧ wr.ownsRow w.heap.size 34 6 out k (eFlat ((lO.take k).map toSE)) ∧ Below w.heap.size w wr
theorem eB_one {x : SE} : ∀ u ∈ eB x, u.oneCell' = true := by
  intro u hu
  exact eFlat_one (l := [x]) u (by simpa [eFlat] using hu)
/-- an entry that is not right -/
def minusE : SE := ⟨none, 0, ⟨[], false, 0, false, 0, -1⟩⟩
/-- the entries with the bad one -/
def withBad (lE : List SE) (kk : Nat) (x : SE) : List SE := lE.take kk ++ [x] ++ lE.drop kk
theorem withBad_flat (lE : List SE) (kk : Nat) (x : SE) : eFlat (withBad lE kk x) = eFlat (lE.take kk) ++ (eB x ++ eFlat (lE.drop kk)) := by
  unfold withBad
  rw [eFlat_append, eFlat_append, List.append_assoc]
  simp [eFlat]
theorem withBad_mem {lE : List SE} {kk : Nat} {x y : SE} (h : y ∈ withBad lE kk x) : y ∈ lE ∨ y = x := by
  unfold withBad at h
  rcases List.mem_append.1 h with h | h
  · rcases List.mem_append.1 h with h | h
    · exact .inl (List.mem_of_mem_take h)
    · exact .inr (by simpa using h)
  · exact .inl (List.mem_of_mem_drop h)
theorem withBad_len {lE : List SE} {kk : Nat} {x : SE} : (withBad lE kk x).length = lE.length + 1 := by
  unfold withBad
  simp only [List.length_append, List.length_take, List.length_drop, List.length_singleton]
  omega
theorem app_no {its l : List It} (h : appErr its l ≠ 0) : app its l = its := by unfold app; rw [if_neg h]
theorem esOk_add {w : World} {l m : List SE} {x : SE} (h : EsOk w l) (hx : x.e.lab.length ≤ 1 ∧ ∀ y ∈ x.e.lab, y.2.size ≤ 1) (hm : ∀ y ∈ m, y ∈ l ∨ y = x) : EsOk w m := by
  refine ⟨fun y hy => ?_, fun y hy z hz => ?_⟩
  · rcases hm y hy with h1 | rfl
    · exact h.ln y h1
    · omega
  · rcases hm y hy with h1 | rfl
    · exact h.sz y h1 z hz
    · have := hx.2 z hz; omega
/-- behind the third Append -/
def W3Rel (w0 : World) (H : Nat) (lO : List SI) (aO aE : Option Addr) (gB : Nat) (aB : Option Addr) (cB p2 b2 m2 p3 b3 m3 : Nat) (its : List It) (s : Value) (wx : World) : Prop :=
  s = .int .i64 0 ∧ WS w0 H lO aO aE gB aB cB p2 b2 m2 p3 b3 m3 its its wx
end Go.Proofs.YtmagojckhfkcdaaGreatDoor.Sk
