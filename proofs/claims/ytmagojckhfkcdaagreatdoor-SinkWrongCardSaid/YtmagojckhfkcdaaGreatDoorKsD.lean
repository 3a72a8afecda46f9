/- Chapter 38's sink: Append. -/
import Derived.Test.YtmagojckhfkcdaaGreatDoorKsM
import Derived.Deep.RegionHeld3
import Derived.Deep.AppendLies
namespace Go.Proofs.YtmagojckhfkcdaaGreatDoor.Sk
open Go Go.RowKit
def restr (f : Line → Last) (ks : List Line) : Line → Last := fun q => if q ∈ ks then f q else none
theorem restr_none {f : Line → Last} {ks : List Line} {k : Line} (h : f k = none) : restr f (ks ++ [k]) = restr f ks := by
  funext q
  unfold restr
  by_cases e : q = k
  · subst e; simp [h]
  · simp [e]
theorem restr_some {f : Line → Last} {ks : List Line} {k : Line} {v : Int × Bool} (h : f k = some v) : restr f (ks ++ [k]) = upd (restr f ks) k v := by
  funext q
  unfold restr upd
  by_cases e : q = k
  · subst e; simp [h]
  · simp [e]
def ln (key : ByteArray) (x : SE) : Line := lineOf ⟨key, x.e⟩
theorem ln_take {key : ByteArray} {l : List SE} {k : Nat} {x : SE} (h : l[k]? = some x) : (l.take (k + 1)).map (ln key) = (l.take k).map (ln key) ++ [ln key x] := by
  have : l.take (k + 1) = l.take k ++ [x] := by rw [List.take_add_one, h]; rfl
  rw [this, List.map_append]
  rfl
theorem right_lab {k : B} {e : Ent} (h : itemRight k e = true) : labRight e.lab = true := by
  unfold itemRight at h
  simp only [Bool.and_eq_true] at h
  exact h.1.1.1.2
/-- what a sink is, for a walk of Append: its cells, and the closures -/
structure Ap (w : World) (p mb n : Nat) (f : Line → Last) (B0 B1 : Nat) (key : ByteArray) (a : Option Addr) (es : List SE) : Prop where
  c1 : w.cell? ⟨p, 1, none⟩ = some (.map (some mb))
  lp : p < w.heap.size
  map : MapIs w mb n f
  clo : Clo w B0 B1 key
  rd : RdE w a es
  kv : Kv w
theorem Ap.below {B : Nat} {w w' : World} {p mb n : Nat} {f : Line → Last} {B0 B1 : Nat} {key : ByteArray} {a : Option Addr} {es : List SE} (h : Ap w p mb n f B0 B1 key a es) (hb : Below B w w') (hB : w.heap.size ≤ B) : Ap w' p mb n f B0 B1 key a es :=
  ⟨(hb.cell (p := ⟨p, 1, none⟩) (Nat.lt_of_lt_of_le h.lp hB)).trans h.c1, Nat.lt_of_lt_of_le h.lp hb.size, h.map.below hb hB, h.clo.below hb hB, h.rd.below hb hB, h.kv.below hb hB⟩
def A1 (w0 : World) (mb2 : Nat) (f : Line → Last) (key : ByteArray) (es : List SE) (i : Value) (wr : World) : Prop :=
  ∃ k : Nat, k ≤ es.length ∧ i = .int .i64 k ∧ MapIs wr mb2 k (restr f ((es.take k).map (ln key))) ∧ Below w0.heap.size w0 wr
def A2 (w0 : World) (mb2 : Nat) (f : Line → Last) (key : ByteArray) (es : List SE) (i : Value) (wr : World) : Prop :=
  ∃ (k : Nat) (g : Line → Last), k ≤ es.length ∧ i = .int .i64 k ∧ MapIs wr mb2 (es.length + k) g ∧ (∀ q ∈ es.map (ln key), g q = ((es.map (toIt key)).take k).foldl know f q) ∧ (∀ q, q ∉ es.map (ln key) → g q = none) ∧
    appGo f (es.map (toIt key)) = appGo (((es.map (toIt key)).take k).foldl know f) ((es.map (toIt key)).drop k) ∧ Below w0.heap.size w0 wr
def A3 (w3 : World) (p base mb : Nat) (v : Value) (l : List SI) (key : ByteArray) (es : List SE) (i : Value) (wr : World) : Prop :=
  ∃ (k : Nat) (v' : Value) (l' : List SI), k ≤ es.length ∧ i = .int .i64 k ∧ Mid w3 p base mb v l key es k v' l' wr
theorem a2_start {f : Line → Last} {ks : List Line} : (∀ q ∈ ks, restr f ks q = f q) ∧ ∀ q, q ∉ ks → restr f ks q = none :=
  ⟨fun q hq => by unfold restr; rw [if_pos hq], fun q hq => by unfold restr; rw [if_neg hq]⟩
theorem esOk_right {w : World} {key : ByteArray} {es : List SE} (h : entRight key es = true) : EsOk w es := by
  have hr : ∀ x ∈ es, labRight x.e.lab = true := fun x hx => right_lab (List.all_eq_true.1 h x hx)
  refine ⟨fun x hx => by have := (labRight_ok (hr x hx)).1; omega, fun x hx y hy => ?_⟩
  have := ((labRight_ok (hr x hx)).2 y hy).2
  simp at this
  omega
theorem none_cell (w : World) {p mb : Nat} (c1 : w.cell? ⟨p, 1, none⟩ = some (.map (some mb))) : Calls Tryz.prog 30 #[.pointer (some ⟨p, 0, none⟩)] w fun e w' => e = .returned (.bool false) ∧ w = w' := by
  have hq := fun wx : World => run_eql_map_nil (P := Tryz.prog) wx 60 83 80 (some mb) Tryz.underlying60
  go_enter Tryz.func30, Tryz.ntmps30
  go_wp2
  go_ret
  exact ⟨rfl, rfl⟩
set_option maxRecDepth 100000 in
set_option maxHeartbeats 8000000 in
theorem append_ok (w : World) {p base mb n : Nat} {v : Value} {l : List SI} (key : ByteArray) (a : Option Addr) (c : Nat) (es : List SE) (h : SinkAt w p base mb n v l) (hv : Kv w) (hk : key.size ≤ 1100000) (hl : RdE w a es) (hn : es.length ≤ 1100000) (hall : entRight key es = true) :
    Calls Tryz.prog 11 #[.pointer (some ⟨p, 0, none⟩), .string key, .slice a es.length c] w (AppPostN w p base mb v l (es.map (toIt key))) := by
  have hmm := @run_makeMap Tryz.prog
  obtain ⟨i0, hi0, hz0, hz1, hz2⟩ := info_parts Tryz.info40
  have HI0 := Lib.hid (And.intro hi0 (And.intro hz0 (And.intro hz1 hz2)))
  clear hi0 hz0 hz1 hz2
  have HR := Lib.hid (And.intro h (And.intro hv hl))
  have hp : p < w.heap.size := (Array.getElem?_eq_some_iff.1 h.cells).1
  have HA := Lib.hid hall
  have HEO : Hid (EsOk w es) := Lib.hid (esOk_right hall)
  clear h hv hl hall
  go_enter Tryz.func11, Tryz.ntmps11
  go_wp2_with fail
  go_at_call 30
  refine (none_cell _ (mb := mb) (by rw [World.cell?_alloc_lt _ _ _ (by simpa using hp)]; simp [World.cell?, HR.out.1.cells])).mono ?_
  rintro e w1 ⟨rfl, rfl⟩
  go_wp2_with fail
  go_at_call 32
  obtain ⟨w1, hw1⟩ : ∃ w1, (w.alloc (.cells #[.string key] 9)).alloc (.cells #[.func (Fn.func 31) #[] #[.pointer (some ⟨w.heap.size, 0, none⟩)]] 76) = w1 := ⟨_, rfl⟩
  have hb1 : Below w.heap.size w w1 := by rw [← hw1]; exact ((Below.refl _ _).alloc (Nat.le_refl _) _).alloc (by simp) _
  have hs1 : w1.heap.size = w.heap.size + 2 := by rw [← hw1]; simp
  have hap : Ap w1 p mb n (lastOf (l.map SI.it)) w.heap.size (w.heap.size + 1) key a es := by
    refine ⟨?_, by omega, HR.out.1.map.below hb1 (Nat.le_refl _), ⟨?_, ?_, by omega, by omega⟩, HR.out.2.2.below hb1 (Nat.le_refl _), HR.out.2.1.below hb1 (Nat.le_refl _)⟩
    · rw [hb1.cell (p := ⟨p, 1, none⟩) hp]
      simp [World.cell?, HR.out.1.cells]
    · rw [← hw1, World.cell?_alloc_lt _ _ _ (by simp)]
      exact new_cell _ _ _ _ _ rfl
    · rw [← hw1]
      simp
  rw [hw1]
  have HAP := Lib.hid hap
  have HB1 := Lib.hid hb1
  have HS1 := Lib.hid hs1
  clear hw1 hb1 hap
  refine (contains_calls w.heap.size (w.heap.size + 1) key a c es w1 HAP.out.clo HAP.out.kv hk HAP.out.rd ⟨HEO.out.ln, HEO.out.sz⟩ (by omega)).mono ?_
  rintro e w2 ⟨rfl, hb2⟩
  rw [HA.out]
  have HB2 := Lib.hid (Bthen HB1.out hb2)
  replace HAP := Lib.hid (HAP.out.below hb2 (Nat.le_refl _))
  have hs2 := hb2.size
  clear hb2
  go_wp2_with fail
  obtain ⟨mb2, hmb2⟩ : ∃ q, q = w2.heap.size := ⟨_, rfl⟩
  have hm0 : MapIs (w2.alloc (.map #[] 0)) w2.heap.size 0 (fun _ => none) := MapIs.new w2
  have hb3 : Below w2.heap.size w2 (w2.alloc (.map #[] 0)) := (Below.refl _ _).alloc (Nat.le_refl _) _
  have HM0 := Lib.hid (And.intro hm0 hb3)
  clear hm0 hb3
  go_loopw [29] (fun i wr => A1 w2 w2.heap.size (lastOf (l.map SI.it)) key es i wr) (fun i _ => es.length - (intOf i).toNat)
  case atStart => exact ⟨0, Nat.zero_le _, rfl, HM0.out.1, HM0.out.2⟩
  case round =>
    obtain ⟨k, hkl, rfl, hm, hb⟩ := hrel
    have hbs := hb.size
    have HM := Lib.hid hm
    have HB := Lib.hid hb
    clear hm hb
    by_cases hlt : k < es.length
    · obtain ⟨x, hx⟩ : ∃ x, es[k]? = some x := ⟨_, List.getElem?_eq_getElem hlt⟩
      have HAK := Lib.hid (HAP.out.below HB.out (Nat.le_refl _))
      obtain ⟨b, off, rfl, hbl, ht, hc⟩ := HAK.out.rd.at_ hx
      have hxm := List.mem_of_getElem? hx
      have hright := List.all_eq_true.1 HA.out x hxm
      have hlr := right_lab hright
      have hbd := bytesS_bound hlr
      have HX := Lib.hid (And.intro hx (And.intro hxm hlr))
      have c0 := hc 0 _ rfl
      rw [Nat.add_zero] at c0
      have c1 := hc 1 _ rfl
      have c2 := hc 2 _ rfl
      have c3 := hc 3 _ rfl
      have c4 := hc 4 _ rfl
      have c5 := hc 5 _ rfl
      obtain ⟨S, hS⟩ : ∃ S : ByteArray, S = ⟨(bytesS x.e.lab).toArray⟩ := ⟨_, rfl⟩
      have hdS : d S = bytesS x.e.lab := by rw [hS]
      have hSs : S.size ≤ 73856 := by rw [hS]; show (bytesS x.e.lab).toArray.size ≤ _; simpa using hbd
      have HSE := Lib.hid (And.intro hS hdS)
      have HBE := Lib.hid (errE_ok hlr)
      obtain ⟨w0, hw0⟩ : ∃ q, q = wr := ⟨_, rfl⟩
      subst hw0
      clear hc hx hxm ht hright hlr hbd hS hdS
      go_wp2_with fail
      go_at_call 23
      refine (cbytes_calls x.la x.lc x.e.lab _ ((HAK.out.rd.lab x HX.out.2.1).rd.below ((Below.refl _ _).alloc (Nat.le_refl _) _) (Nat.le_refl _)) (by have := (labRight_ok HX.out.2.2).1; omega) (fun y hy => by have := (labRight_ok HX.out.2.2).2 y hy; have := this.2; simp at this; omega)).mono ?_
      rintro e w4 ⟨rfl, hb4⟩
      rw [HBE.out.1, HBE.out.2, ← HSE.out.1]
      have hb4' : Below w0.heap.size w0 w4 := ((Below.refl _ _).alloc (Nat.le_refl _) _).trans (hb4.mono (by simp))
      have HA4 := Lib.hid (HAK.out.below hb4' (Nat.le_refl _))
      have HM4 := Lib.hid (HM.out.below hb4' (Nat.le_refl _))
      have HB4 := Lib.hid (Bthen HB.out hb4')
      have hs4 := hb4'.size
      clear hb4 hb4' c0 c1 c2 c3 c4 c5
      go_wp2_with fail
      have hkm : key.size ≤ maxLen := by unfold maxLen; omega
      have hSm : S.size ≤ maxLen := by unfold maxLen; omega
      obtain ⟨f, hf⟩ : ∃ f, f = lastOf (l.map SI.it) := ⟨_, rfl⟩
      obtain ⟨s, m, is, hlv, his⟩ : ∃ s m is, lv f (d key, d S) = (s, m) ∧ (f (d key, d S)).isSome = is := ⟨_, _, _, rfl, rfl⟩
      have hrun : ∀ w' : World, MapIs w' mb n f → (Instr.lookup 60 (.map (some mb)) (.agg #[.string key, .string S]) true).run Tryz.prog w' = .ok (.tuple #[.agg #[.int .i64 s, .bool m], .bool is]) w' := fun w' h => run_look h hkm hSm hlv his
      have r0 := hrun w4 (by rw [hf]; exact HA4.out.map)
      have p1 := HA4.out.c1
      have p2 := HA4.out.clo.c0
      have l1 := HA4.out.lp
      have l0 := HA4.out.clo.l0
      have HF := Lib.hid (And.intro hf (And.intro hlv his))
      have HRUN := Lib.hid hrun
      have HA4m : Hid (MapIs w4 mb n f) := Lib.hid (by rw [hf]; exact HA4.out.map)
      clear hf hlv his hrun hkm hSm
      rcases (show is = false ∨ is = true by cases is <;> simp) with his | his
      · subst his
        have HN : Hid (restr f ((es.take (k + 1)).map (ln key)) = restr f ((es.take k).map (ln key))) := Lib.hid (by
          rw [ln_take HX.out.1]
          refine restr_none ?_
          have h := HF.out.2.2
          unfold ln lineOf
          rw [← HSE.out.2]
          simpa using h)
        go_region_held3 (fun w' : World => w'.cell? ⟨p, 1, none⟩ = some (.map (some mb)) ∧ w'.cell? ⟨w.heap.size, 0, none⟩ = some (.string key) ∧ (Instr.lookup 60 (.map (some mb)) (.agg #[.string key, .string S]) true).run Tryz.prog w' = .ok (.tuple #[.agg #[.int .i64 s, .bool m], .bool false]) w')
          ((go_split_ands; refine ⟨by go_keep, by go_keep, ?_⟩; first | exact HRUN.out _ HA4m.out | exact HRUN.out _ (HA4m.out.below ((Below.refl _ _).drew.alloc (Nat.le_refl _) _) (Nat.le_refl _)) | exact HRUN.out _ (HA4m.out.below (((Below.refl _ _).drew.alloc (Nat.le_refl _) _).setCell (by simp) _) (Nat.le_refl _))))
          (fail)
        all_goals
          go_wp2
          go_roundw
          case rel => exact ⟨k + 1, by omega, by go_num, by have h := HM4.out; rw [← HF.out.1] at h; rw [← HF.out.1, HN.out]; exact (h.below ((Below.refl _ _).alloc (Nat.le_refl _) _) (Nat.le_refl _)).mono (by omega), (HB4.out.alloc (by have := HB4.out.size; omega) _).drew⟩
          case measure => simp [intOf]; omega
      · subst his
        have HN : Hid (restr f ((es.take (k + 1)).map (ln key)) = upd (restr f ((es.take k).map (ln key))) (d key, d S) (s, m)) := Lib.hid (by
          rw [ln_take HX.out.1, show ln key x = (d key, d S) by unfold ln lineOf; rw [← HSE.out.2]]
          refine restr_some ?_
          have h := HF.out.2.2
          have h2 := HF.out.2.1
          unfold lv at h2
          cases hq : f (d key, d S) with
          | none => rw [hq] at h; simp at h
          | some v => rw [hq] at h2; simpa using h2)
        go_region_held3 (fun w' : World => w'.cell? ⟨p, 1, none⟩ = some (.map (some mb)) ∧ w'.cell? ⟨w.heap.size, 0, none⟩ = some (.string key) ∧ (Instr.lookup 60 (.map (some mb)) (.agg #[.string key, .string S]) true).run Tryz.prog w' = .ok (.tuple #[.agg #[.int .i64 s, .bool m], .bool true]) w')
          ((go_split_ands; refine ⟨by go_keep, by go_keep, ?_⟩; first | exact HRUN.out _ HA4m.out | exact HRUN.out _ (HA4m.out.below ((Below.refl _ _).drew.alloc (Nat.le_refl _) _) (Nat.le_refl _)) | exact HRUN.out _ (HA4m.out.below (((Below.refl _ _).drew.alloc (Nat.le_refl _) _).setCell (by simp) _) (Nat.le_refl _))))
          (fail)
        all_goals
          go_wp2_with (first | (at_mapUpdate; refine wpList_put rfl _ _ _ rfl (HM4.out.below (((Below.refl _ _).alloc (Nat.le_refl _) _).drew) (Nat.le_refl _)) (by unfold maxLen; omega) rfl rfl (by unfold maxLen; omega) (by unfold maxLen; omega) rfl ?_; intro w9 hm9 hf9) | go_in)
          go_roundw
          case rel => exact ⟨k + 1, by omega, by go_num, by rw [← HF.out.1, HN.out]; have h := hm9; rw [← HF.out.1] at h; exact h, ((HB4.out.alloc (by have := HB4.out.size; omega) _).drew).trans (hf9.below (fun i hi e => by omega) (by have := HB4.out.size; simp; omega))⟩
          case measure => simp [intOf]; omega
    · obtain rfl : k = es.length := by omega
      have hm1 := HM.out
      rw [List.take_of_length_le (by omega)] at hm1
      have HM1 := Lib.hid hm1
      obtain ⟨w3, hw3⟩ : ∃ q, q = wr := ⟨_, rfl⟩
      subst hw3
      clear hm1 hlt HM
      go_wp2_with fail
      go_loopw [59] (fun i wr => A2 w2 w2.heap.size (lastOf (l.map SI.it)) key es i wr) (fun i _ => es.length - (intOf i).toNat)
      case atStart => exact ⟨0, _, Nat.zero_le _, rfl, HM1.out, a2_start.1, a2_start.2, rfl, HB.out⟩
      case round =>
        obtain ⟨k, g, hkl, rfl, hm, hg1, hg2, hgo, hb⟩ := hrel
        have hbs := hb.size
        have HM := Lib.hid hm
        have HG := Lib.hid (And.intro hg1 (And.intro hg2 hgo))
        replace HB := Lib.hid hb
        clear hm hb hg1 hg2 hgo
        by_cases hlt : k < es.length
        · obtain ⟨x, hx⟩ : ∃ x, es[k]? = some x := ⟨_, List.getElem?_eq_getElem hlt⟩
          have HAK := Lib.hid (HAP.out.below HB.out (Nat.le_refl _))
          obtain ⟨b, off, rfl, hbl, ht, hc⟩ := HAK.out.rd.at_ hx
          have hxm := List.mem_of_getElem? hx
          have hlr := right_lab (List.all_eq_true.1 HA.out x hxm)
          have hxi : (es.map (toIt key))[k]? = some (toIt key x) := by rw [List.getElem?_map, hx]; rfl
          have HX := Lib.hid (And.intro hxm (And.intro hlr hxi))
          have c0 := hc 0 _ rfl
          rw [Nat.add_zero] at c0
          have c1 := hc 1 _ rfl
          have c2 := hc 2 _ rfl
          have c3 := hc 3 _ rfl
          have c4 := hc 4 _ rfl
          have c5 := hc 5 _ rfl
          obtain ⟨w0, hw0⟩ : ∃ q, q = wr := ⟨_, rfl⟩
          subst hw0
          have k1 := HAK.out.clo.c1
          have k0 := HAK.out.clo.l1
          clear hc hx hxm ht hlr hxi
          go_wp2_with fail
          go_at_call 31
          refine (item_calls w.heap.size key x _ ((HAK.out.clo.below ((Below.refl _ _).alloc (Nat.le_refl _) _) (Nat.le_refl _)).c0) (by have := HAK.out.clo.l0; simp; omega)).mono ?_
          rintro e w4 ⟨rfl, hb4⟩
          have hb4' : Below w0.heap.size w0 w4 := ((Below.refl _ _).alloc (Nat.le_refl _) _).trans (hb4.mono (by simp))
          have HA4 := Lib.hid (HAK.out.below hb4' (Nat.le_refl _))
          have HM4 := Lib.hid (HM.out.below hb4' (Nat.le_refl _))
          have HB4 := Lib.hid (Bthen HB.out hb4')
          have hs4 := hb4'.size
          clear hb4 hb4' c0 c1 c2 c3 c4 c5 k1 k0
          go_wp2_with fail
          go_at_call 34
          refine (follow_calls w2.heap.size (es.length + k) g key x.la x.lc x.e _ HM4.out (by omega) hk ((HA4.out.rd.lab x HX.out.1).rd) HX.out.2.1).mono ?_
          rintro e w5 ⟨rfl, hf5, hm5⟩
          have hxl : lineOf (toIt key x) ∈ es.map (ln key) := List.mem_map_of_mem (f := ln key) HX.out.1
          have hfe : fol g (toIt key x) = fol (((es.map (toIt key)).take k).foldl know (lastOf (l.map SI.it))) (toIt key x) := fol_agree (HG.out.1 _ hxl)
          have hga := appGo_at (h := ((es.map (toIt key)).take k).foldl know (lastOf (l.map SI.it))) HX.out.2.2
          have hb5 : Below w2.heap.size w2 w5 := HB4.out.trans (hf5.below (fun i hi e => by omega) HB4.out.size)
          obtain ⟨er, her⟩ : ∃ er, er = fol g (toIt key x) := ⟨_, rfl⟩
          have hm5' : MapIs w5 w2.heap.size (es.length + k + 1) (if er = 0 then know g (toIt key x) else g) := by rw [her]; exact hm5
          have HM5 := Lib.hid (And.intro hm5' (And.intro hb5 (And.intro hfe hga)))
          have hg3 : ∀ q, q ∉ es.map (ln key) → know g (toIt key x) q = none := know_none HG.out.2.1 hxl
          have hg4 : ∀ q ∈ es.map (ln key), know g (toIt key x) q = ((es.map (toIt key)).take (k + 1)).foldl know (lastOf (l.map SI.it)) q := by
            rw [fold_at HX.out.2.2]
            exact know_agree HG.out.1 _
          have HG3 := Lib.hid (And.intro hg3 hg4)
          have HER := Lib.hid her
          rw [show fol g ⟨key, x.e⟩ = er from her.symm]
          clear hf5 hm5 hxl hfe hga hb5 hm5' hg3 hg4 her
          by_cases h0 : er = 0
          · subst h0
            go_wp2
            go_roundw
            case rel => exact ⟨k + 1, know g (toIt key x), by omega, by go_num, by have h := HM5.out.1; rw [if_pos trivial] at h; exact h, HG3.out.2, HG3.out.1, by rw [HG.out.2.2, HM5.out.2.2.2, ← HM5.out.2.2.1, ← HER.out, if_pos rfl, fold_at HX.out.2.2], HM5.out.2.1⟩
            case measure => simp [intOf]; omega
          · have hall := HA.out
            rw [← all_it] at hall
            have hae := appErr_of (f := l.map SI.it) (er := er) hall (by rw [HG.out.2.2, HM5.out.2.2.2, ← HM5.out.2.2.1, ← HER.out, if_neg h0])
            rw [if_neg h0] at hae
            have HAE := Lib.hid hae
            clear hall hae
            go_wp2
            go_ret
            exact AppPostN.no HR.out.1 (Bthen HB2.out HM5.out.2.1) HAE.out h0 rfl
        · obtain rfl : k = es.length := by omega
          have hown := HR.out.1.own
          obtain ⟨va, vc, hve⟩ := own_form hown
          subst hve
          obtain ⟨w3, hw3⟩ : ∃ q, q = wr := ⟨_, rfl⟩
          subst hw3
          have hall := HA.out
          rw [← all_it] at hall
          have hae := appErr_of (f := l.map SI.it) (er := 0) hall (by rw [HG.out.2.2, List.drop_of_length_le (by simp)]; rfl)
          rw [if_pos rfl] at hae
          have HAE := Lib.hid hae
          have HB3 := Lib.hid (Bthen HB2.out HB.out)
          have HL : Hid (l.length ≤ 65536) := Lib.hid HR.out.1.len
          have p0 : w3.cell? ⟨p, 0, none⟩ = some (.slice va l.length vc) := by
            rw [HB3.out.cell (p := ⟨p, 0, none⟩) hp]
            simp [World.cell?, HR.out.1.cells]
          clear hall hae hown hlt
          have hl0 := HL.out
          rcases Nat.lt_or_ge 65536 (l.length + es.length) with hbig | hbig
          · have hdd : decide ((65536 : Int) < (l.length : Int) + (es.length : Int)) = true := by simp; omega
            go_wp2_with fail
            go_ret
            exact AppPostN.no HR.out.1 HB3.out (er := 4) (by rw [HAE.out]; simp; omega) (by decide) rfl
          · have hdd : decide ((65536 : Int) < (l.length : Int) + (es.length : Int)) = false := by simp; omega
            replace HAE : Hid (appErr (l.map SI.it) (es.map (toIt key)) = 0) := Lib.hid (by rw [HAE.out]; simp; omega)
            have HBIG := Lib.hid hbig
            clear hbig
            go_wp2_with fail
            clear p0 hdd
            go_loopw [83] (fun i wr => A3 w3 p base mb (.slice va l.length vc) l key es i wr) (fun i _ => es.length - (intOf i).toNat)
            case atStart => exact ⟨0, _, _, Nat.zero_le _, rfl, Mid.start key es HR.out.1 HB3.out⟩
            case round =>
              obtain ⟨k, v', l', hkl, rfl, hmid⟩ := hrel
              obtain ⟨va', vc', hve'⟩ := own_form hmid.own
              subst hve'
              have HM3 := Lib.hid hmid
              clear hmid
              by_cases hlt : k < es.length
              · obtain ⟨x, hx⟩ : ∃ x, es[k]? = some x := ⟨_, List.getElem?_eq_getElem hlt⟩
                have hRD := Mid.rd HR.out.1 HB3.out HM3.out (HAP.out.below HB.out (Nat.le_refl _)).rd
                have hCL := Mid.clo HR.out.1 HM3.out (HAP.out.below HB.out (Nat.le_refl _)).clo
                obtain ⟨b, off, rfl, hbl, ht, hc⟩ := hRD.at_ hx
                have hxm := List.mem_of_getElem? hx
                have hxr := List.all_eq_true.1 HA.out x hxm
                have hxl := hRD.lab x hxm
                have hxn := HEO.out.ln x hxm
                have HX := Lib.hid (And.intro hx (And.intro hxr (And.intro hxl hxn)))
                have HCL := Lib.hid hCL
                have c0 := hc 0 _ rfl
                rw [Nat.add_zero] at c0
                have c1 := hc 1 _ rfl
                have c2 := hc 2 _ rfl
                have c3 := hc 3 _ rfl
                have c4 := hc 4 _ rfl
                have c5 := hc 5 _ rfl
                have k1 := hCL.c1
                have k2 := hCL.l1
                have p0 : wr.cell? ⟨p, 0, none⟩ = some (.slice va' l'.length vc') := by simp [World.cell?, HM3.out.cell]
                have hpl : p < wr.heap.size := (isT_of HM3.out.cell).lt
                obtain ⟨w4, hw4⟩ : ∃ q, q = wr := ⟨_, rfl⟩
                subst hw4
                clear hRD hc ht hxm hxr hxl hxn hx hCL
                go_wp2_with fail
                obtain ⟨O, hO⟩ : ∃ O, O = Obj.cells #[.slice x.la x.e.lab.length x.lc, .bool x.e.mark, .int .u64 x.e.bits, .bool x.e.st, .int .i64 x.e.time, .int .i64 x.e.stamp] 34 := ⟨_, rfl⟩
                have hY : ∀ b, (Value.slice va' l'.length vc').ownBlock = some b → b < w4.heap.size ∧ b ≠ p ∧ b ≠ w.heap.size + 1 := fun b hb => by
                  have h1 := own_isT HM3.out.own hb
                  refine ⟨h1.lt, h1.ne (isT_of HM3.out.cell) (by decide), ?_⟩
                  rintro rfl
                  rcases HM3.out.blk _ hb with e | e
                  · have := (own_isT HR.out.1.own e).lt; omega
                  · have := (HAP.out.below HB.out (Nat.le_refl _)).clo.l1; omega
                have HY := Lib.hid hY
                have hS : ∀ w' : World, Fr (fun b => b = p ∨ (Value.slice va' l'.length vc').ownBlock = some b) (w4.alloc O) w' → w'.cell? ⟨w.heap.size + 1, 0, none⟩ = some (.func (Fn.func 31) #[] #[.pointer (some ⟨w.heap.size, 0, none⟩)]) ∧
                    w'.cell? ⟨w4.heap.size, 0, none⟩ = some (.slice x.la x.e.lab.length x.lc) ∧ w'.cell? ⟨w4.heap.size, 1, none⟩ = some (.bool x.e.mark) ∧ w'.cell? ⟨w4.heap.size, 2, none⟩ = some (.int .u64 x.e.bits) ∧
                    w'.cell? ⟨w4.heap.size, 3, none⟩ = some (.bool x.e.st) ∧ w'.cell? ⟨w4.heap.size, 4, none⟩ = some (.int .i64 x.e.time) ∧ w'.cell? ⟨w4.heap.size, 5, none⟩ = some (.int .i64 x.e.stamp) := by
                  intro w' hw'
                  have hn : ∀ i u, (#[Value.slice x.la x.e.lab.length x.lc, .bool x.e.mark, .int .u64 x.e.bits, .bool x.e.st, .int .i64 x.e.time, .int .i64 x.e.stamp] : Array Value)[i]? = some u → w'.cell? ⟨w4.heap.size, i, none⟩ = some u := fun i u hu => by
                    rw [hw'.cell (by simp) (fun e => e.elim (fun e => by omega) (fun e => by have := (hY _ e).1; omega)), hO]
                    exact new_cell _ _ _ _ _ hu
                  refine ⟨?_, hn 0 _ rfl, hn 1 _ rfl, hn 2 _ rfl, hn 3 _ rfl, hn 4 _ rfl, hn 5 _ rfl⟩
                  rw [hw'.cell (by simp; omega) (fun e => e.elim (fun e => by omega) (fun e => (hY _ e).2.2 rfl)), World.cell?_alloc_lt _ _ _ k2]; exact k1
                have HP0 : Hid (∀ w' : World, Below (w4.heap.size + 1) (w4.alloc O) w' → w'.cell? ⟨p, 0, none⟩ = some (.slice va' l'.length vc')) := Lib.hid (fun w' hw' => by
                  rw [hw'.cell (p := ⟨p, 0, none⟩) (by simp; omega), World.cell?_alloc_lt _ _ _ hpl]; exact p0)
                have HS := Lib.hid hS
                have hll : l'.length ≤ 131072 := by have := HM3.out.len; have := HBIG.out; omega
                have hbs4 : base ≤ w4.heap.size := Nat.le_trans HR.out.1.bs (Nat.le_trans HB3.out.size HM3.out.fr.size)
                clear c0 c1 c2 c3 c4 c5 hS hY
                rw [← hO]
                have HO := Lib.hid hO
                clear hO
                have p0 := HP0.out _ (Below.refl _ _)
                obtain ⟨e1, e2, e3, e4, e5, e6, e7⟩ := HS.out _ (Fr.refl _ _)
                go_region_law (first
                    | (refine step_append_lies _ (by rfl) _ _ _ (by rfl) base 40 i0 (.agg #[.string ⟨#[]⟩, .slice none 0 0, .bool false, .int .u64 0, .bool false, .int .i64 0, .int .i64 0]) 7 80 Tryz.underlying28 HI0.out.1 HI0.out.2.1 HI0.out.2.2.1 HI0.out.2.2.2 rfl (by decide) _ _ _ (by rfl) ((own_fr HM3.out.own (X := fun k => w4.heap.size ≤ k) (Fr.of_below (((((Below.refl _ _).alloc (Nat.le_refl _) _).drew).trans (hb5.mono (by simp))).trans (hb6.mono (by have := hb5.size; simp at this; omega)))) (fun k hk => by have := (own_isT HM3.out.own hk).lt; omega)).alloc _) ⟨w6.heap.size, 0, none⟩ 1 1 (iB ⟨key, a6, c6, x.e⟩) (by rfl) (by rfl) (cells_new w6 #[.string key, .slice a6 x.e.lab.length c6, .bool x.e.mark, .int .u64 x.e.bits, .bool x.e.st, .int .i64 x.e.time, .int .i64 x.e.stamp] _ _ rfl) (by intro u hu; simp [iB] at hu; rcases hu with rfl | rfl | rfl | rfl | rfl | rfl | rfl <;> rfl) (by decide) (by unfold maxLen; omega) (by omega) (by have := hb5.size; have := hb6.size; simp at *; omega) (w6.heap.size + 1) (by simp) ?_; intro g7 cap7 w7 hown' hgrow hgg hgl
                       have h7p : w7.heap[p]? = some (.cells #[.slice va' l'.length vc', .map (some mb)] 62 (0, 0)) := by
                         rw [Fr.block ((below_fr (X := fun b => (Value.slice va' l'.length vc').ownBlock = some b) (w := w4) ((((((Below.refl _ _).alloc (Nat.le_refl _) _).drew).trans (hb5.mono (by simp))).trans (hb6.mono (by have := hb5.size; simp at this; omega))).alloc (by have := hb5.size; have := hb6.size; simp at *; omega) _)).trans (fr_grown hgrow (fun k hk => hk))) p hpl (fun e => (HY.out _ e).2.1 rfl)]
                         exact HM3.out.cell
                       have q0 : w7.cell? ⟨p, 0, none⟩ = some (.slice va' l'.length vc') := by simp [World.cell?, h7p]
                       have q1 : w7.frozen? ⟨p, 0, none⟩ = false := by simp [World.frozen?, h7p]
                       clear h7p)
                    | (go_simp; go_at_call 31; refine (item_calls w.heap.size key x _ ((HCL.out.below (((Below.refl _ _).alloc (Nat.le_refl _) _).drew) (Nat.le_refl _)).c0) (by have := HCL.out.l0; simp; omega)).mono ?_; rintro e w5 ⟨rfl, hb5⟩; have q5 := HP0.out w5 ((Below.refl _ _).drew.trans (hb5.mono (by simp))))
                    | (go_simp; go_at_call 35; refine (copied_calls ⟨key, x.la, x.lc, x.e⟩ _ (HX.out.2.2.1.below ((((Below.refl _ _).alloc (Nat.le_refl _) _).drew).trans (hb5.mono (by simp))) (Nat.le_refl _)) HX.out.2.2.2).mono ?_; rintro e w6 ⟨a6, c6, rfl, hl6, hb6, hnw6⟩; have q6 := HP0.out w6 (((Below.refl _ _).drew.trans (hb5.mono (by simp))).trans (hb6.mono (by have := hb5.size; simp at this ⊢; omega))); have q7 := HP0.out _ (Below.alloc (((Below.refl _ _).drew.trans (hb5.mono (by simp))).trans (hb6.mono (by have := hb5.size; simp at this ⊢; omega))) (by have := hb5.size; have := hb6.size; simp at *; omega) (.cells #[.string key, .slice a6 x.e.lab.length c6, .bool x.e.mark, .int .u64 x.e.bits, .bool x.e.st, .int .i64 x.e.time, .int .i64 x.e.stamp] 40))))
                all_goals
                  have hMid := Mid.step HM3.out HX.out.1 hk HX.out.2.1 hl6 (fun q e => by have h1 := hnw6 q e; have := hb5.size; simp at this; omega) ((((Below.refl _ _).alloc (Nat.le_refl _) _).drew).trans (hb5.mono (by simp)) |>.trans (hb6.mono (by have := hb5.size; simp at this; omega))) hgrow hown' (by simpa using hgg)
                  have HMID := Lib.hid hMid
                  clear hMid hown' hgrow hgg q0 q1 q5 q6 q7 e1 e2 e3 e4 e5 e6 e7 p0
                  go_wp2
                  go_roundw
                  case rel => exact ⟨k + 1, _, _, by omega, by go_num, HMID.out⟩
                  case measure => simp [intOf]; omega
              · obtain rfl : k = es.length := by omega
                have hm1 := Mid.map0 HR.out.1 HB3.out HM3.out
                have hsw := HB2.out.size
                have hm2 := Mid.map HR.out.1 HM3.out HM.out hsw
                have p1 : wr.cell? ⟨p, 1, none⟩ = some (.map (some mb)) := by simp [World.cell?, HM3.out.cell]
                have hne : mb ≠ w2.heap.size := by have := HR.out.1.map.lt; omega
                have hn1 : n ≤ 100000000 := by have := HR.out.1.le; omega
                have hm3 : merge (lastOf (l.map SI.it)) g = (es.map (toIt key)).foldl know (lastOf (l.map SI.it)) := by
                  have h1 := HG.out.1
                  rw [List.take_of_length_le (by simp)] at h1
                  exact merge_end (ks := es.map (ln key)) (by rw [List.map_map]; rfl) rfl h1 HG.out.2.1
                have HMM := Lib.hid (And.intro hm1 (And.intro hm2 hm3))
                clear hm1 hm2 hm3 hsw
                go_wp2_with fail
                go_at_call 36
                refine (copy_calls mb n w2.heap.size (es.length + es.length) (lastOf (l.map SI.it)) g _ HMM.out.1 HMM.out.2.1 hne hn1 (by omega)).mono ?_
                rintro e w7 ⟨rfl, hmap, hf⟩
                have HMP := Lib.hid (And.intro hmap hf)
                clear hmap hf
                go_wp2
                go_ret
                exact AppPostN.yes HR.out.1 HB3.out HM3.out HAE.out HBIG.out HMP.out.2 HMP.out.1 (by omega) HMM.out.2.2 rfl
end Go.Proofs.YtmagojckhfkcdaaGreatDoor.Sk
