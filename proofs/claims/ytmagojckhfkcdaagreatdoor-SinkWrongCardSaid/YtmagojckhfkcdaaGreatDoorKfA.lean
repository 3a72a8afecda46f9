/- Chapter 38: sink.follow. -/
import Derived.Test.YtmagojckhfkcdaaGreatDoorKnA
import Derived.Test.YtmagojckhfkcdaaGreatDoorKrA
namespace Go.Proofs.YtmagojckhfkcdaaGreatDoor.Sk
open Go Go.RowKit
def lv (f : Line → Last) (k : Line) : Int × Bool := (f k).getD (0, false)
theorem run_look {W : World} {b n : Nat} {f : Line → Last} (h : MapIs W b n f) {ka kb : ByteArray} (ha : ka.size ≤ maxLen) (hb : kb.size ≤ maxLen) {s : Int} {m is : Bool} (hs : lv f (d ka, d kb) = (s, m)) (hi : (f (d ka, d kb)).isSome = is) :
    (Instr.lookup 60 (.map (some b)) (.agg #[.string ka, .string kb]) true).run Tryz.prog W = .ok (.tuple #[.agg #[.int .i64 s, .bool m], .bool is]) W := by
  obtain ⟨D, hown, hq⟩ := h
  obtain ⟨h1, h2⟩ := hq (d ka, d kb) ⟨by simpa using ha, by simpa using hb⟩
  obtain ⟨v, ps, hrun, hv⟩ := hown.look_ok lineLaw Tryz.underlying60 (zeroLast W) (lastOfV_mk 0 false) (keyOf_line ha hb)
  rw [hrun, h1, hi]
  have hat : D.atKey (kl (d ka, d kb)) (lastD (0, false)) = lastD (s, m) := by
    cases hf : f (d ka, d kb) with
    | none =>
      unfold lv at hs
      rw [hf] at hs h1
      cases hs
      exact Go.Maps.atKey_of_not_has h1 _
    | some v =>
      unfold lv at hs
      rw [hf] at hs
      have := h2 v hf
      cases hs
      exact this
  rw [hat] at hv
  rw [lastOfV_inv hv]
theorem run_put {W : World} {b n : Nat} {f : Line → Last} (h : MapIs W b n f) (hn : n < maxLen) {ka kb : ByteArray} (ha : ka.size ≤ maxLen) (hb : kb.size ≤ maxLen) (s : Int) (m : Bool) :
    ∃ w', (Instr.mapUpdate 60 (.map (some b)) (.agg #[.string ka, .string kb]) (.agg #[.int .i64 s, .bool m])).run Tryz.prog W = .ok () w' ∧ MapIs w' b (n + 1) (upd f (d ka, d kb) (s, m)) ∧ Fr (fun k => k = b) W w' := by
  obtain ⟨D, hown, hq⟩ := h
  obtain ⟨w', hrun, h1, h2⟩ := hown.store lineLaw Tryz.underlying60 hn (keyOf_line ha hb) (lastOfV_mk s m)
  exact ⟨w', hrun, MapIs.put hown.isMap hq ⟨by simpa using ha, by simpa using hb⟩ (s, m) h1, fr_turned h2⟩
section
variable {W : World} {ops : Array Oper} {rest : List Oper} {o : Oper} {a : Act} {Q : Exit → Act → World → Prop}
theorem wpList_look (hg : o.guard = none) (m x : Operand) (hop : o.op = Op.lookup 60 m x true) {b n : Nat} {f : Line → Last} (hmap : MapIs W b n f) (hm : a.eval m = .map (some b)) {ka kb : ByteArray} (hx : a.eval x = .agg #[.string ka, .string kb])
    (ha : ka.size ≤ maxLen) (hb : kb.size ≤ maxLen) {s : Int} {mk is : Bool} (hs : lv f (d ka, d kb) = (s, mk)) (hi : (f (d ka, d kb)).isSome = is)
    (hK : wpList Tryz.prog ops Q rest (a.put o.dst (.tuple #[.agg #[.int .i64 s, .bool mk], .bool is])) W) : wpList Tryz.prog ops Q (o :: rest) a W := by
  refine wpList_plain hg fun K' hK' => ?_
  unfold Oper.wp
  simp [execOp, hop, hm, hx, run_look hmap ha hb hs hi, Result.andThen]
  exact hK' _ _ hK
theorem wpList_put (hg : o.guard = none) (m x v : Operand) (hop : o.op = Op.mapUpdate 60 m x v) {b n : Nat} {f : Line → Last} (hmap : MapIs W b n f) (hn : n < maxLen) (hm : a.eval m = .map (some b)) {ka kb : ByteArray} (hx : a.eval x = .agg #[.string ka, .string kb])
    (ha : ka.size ≤ maxLen) (hb : kb.size ≤ maxLen) {s : Int} {mk : Bool} (hv : a.eval v = .agg #[.int .i64 s, .bool mk])
    (hK : ∀ w', MapIs w' b (n + 1) (upd f (d ka, d kb) (s, mk)) → Fr (fun k => k = b) W w' → wpList Tryz.prog ops Q rest (a.put o.dst undef) w') : wpList Tryz.prog ops Q (o :: rest) a W := by
  refine wpList_plain hg fun K' hK' => ?_
  obtain ⟨w', hrun, r1, r2⟩ := run_put hmap hn ha hb s mk
  unfold Oper.wp
  simp [execOp, hop, hm, hx, hv, hrun, Result.andThen]
  exact hK' _ _ (hK w' r1 r2)
end
theorem below_fr {X : Nat → Prop} {w w' : World} (hb : Below w.heap.size w w') : Fr X w w' := (Fr.of_below hb).mono (fun k h1 h2 => absurd h1 (by omega))
theorem errE_ok {l : List Lab} (h : labRight l = true) : bytesE l = bytesS l ∧ errE l = 0 := by unfold bytesE errE; rw [if_pos h, if_pos h]; exact ⟨rfl, rfl⟩
def FolPost (mb n : Nat) (f : Line → Last) (x : It) (w : World) (e : Ending) (w' : World) : Prop :=
  e = .returned (.int .i64 (fol f x)) ∧ Fr (fun k => k = mb) w w' ∧ MapIs w' mb (n + 1) (if fol f x = 0 then know f x else f)
theorem fol_zero {f : Line → Last} {x : It} (s : Int) (m b : Bool) (hs : lv f (lineOf x) = (s, m)) (hi : (f (lineOf x)).isSome = b) : fol f x = if b then (if x.e.stamp ≤ s then 381 else if x.e.mark && m then 382 else 0) else if x.e.mark then 382 else 0 := by
  unfold fol
  unfold lv at hs
  cases hf : f (lineOf x) with
  | none => rw [hf] at hi; subst hi; rfl
  | some v => rw [hf] at hi hs; subst hi; cases hs; rfl
set_option maxRecDepth 100000 in
set_option maxHeartbeats 4000000 in
theorem follow_calls (mb n : Nat) (f : Line → Last) (key : ByteArray) (la : Option Addr) (lc : Nat) (e : Ent) (w : World) (hmap : MapIs w mb n f) (hn : n ≤ 1000000000) (hk : key.size ≤ 1100000) (h : RdL w la e.lab) (hr : labRight e.lab = true) :
    Calls Tryz.prog 34 #[.map (some mb), .agg #[.string key, .slice la e.lab.length lc, .bool e.mark, .int .u64 e.bits, .bool e.st, .int .i64 e.time, .int .i64 e.stamp]] w (FolPost mb n f ⟨key, e⟩ w) := by
  obtain ⟨lab, mark, bits, st, time, stamp⟩ := e
  dsimp only at h hr ⊢
  have hbd := bytesS_bound hr
  obtain ⟨S, hS⟩ : ∃ S : ByteArray, S = ⟨(bytesS lab).toArray⟩ := ⟨_, rfl⟩
  have hdS : d S = bytesS lab := by rw [hS]
  have hSs : S.size ≤ 73856 := by rw [hS]; show (bytesS lab).toArray.size ≤ _; simpa using hbd
  obtain ⟨s, hs⟩ : ∃ s, s = (lv f (d key, d S)).1 := ⟨_, rfl⟩
  obtain ⟨m, hm⟩ : ∃ m, m = (lv f (d key, d S)).2 := ⟨_, rfl⟩
  obtain ⟨b, hb⟩ : ∃ b, b = (f (d key, d S)).isSome := ⟨_, rfl⟩
  have hlv : lv f (d key, d S) = (s, m) := by rw [hs, hm]
  have HLV := Lib.hid (And.intro hlv hb.symm)
  have HFZ : Hid (fol f ⟨key, ⟨lab, mark, bits, st, time, stamp⟩⟩ = if b then (if stamp ≤ s then 381 else if mark && m then 382 else 0) else if mark then 382 else 0) := Lib.hid (by
    refine fol_zero s m b ?_ ?_
    · unfold lineOf; rw [← hdS]; exact hlv
    · unfold lineOf; rw [← hdS]; exact hb.symm)
  have HKN : Hid (know f ⟨key, ⟨lab, mark, bits, st, time, stamp⟩⟩ = upd f (d key, d S) (stamp, mark)) := Lib.hid (by unfold know lineOf; rw [hdS])
  have HB : Hid (bytesE lab = bytesS lab ∧ errE lab = 0) := Lib.hid (errE_ok hr)
  have HSE := Lib.hid hS
  have hsz : ∀ x ∈ lab, x.2.size ≤ 4611686018427387904 := fun x hx => by have := (labRight_ok hr).2 x hx; have := this.2; simp at this; omega
  have HH := Lib.hid (And.intro hmap (And.intro h hsz))
  have hl64 := (labRight_ok hr).1
  have hkm : key.size ≤ maxLen := by unfold maxLen; omega
  have hSm : S.size ≤ maxLen := by unfold maxLen; omega
  have HKM := Lib.hid (And.intro hkm hSm)
  clear hmap h hr hbd hS hdS hs hm hb hlv hsz hkm hSm
  cases b
  · cases mark
    · go_enter Tryz.func34, Tryz.ntmps34
      go_wp2_with fail
      go_at_call 23
      refine (cbytes_calls la lc lab _ (HH.out.2.1.below ((Below.refl _ _).alloc (Nat.le_refl _) _) (Nat.le_refl _)) (by omega) HH.out.2.2).mono ?_
      rintro en w1 ⟨rfl, hb1⟩
      rw [HB.out.1, HB.out.2, ← HSE.out]
      have dd : ∀ i v, (#[Value.string key, .slice la lab.length lc, .bool false, .int .u64 bits, .bool st, .int .i64 time, .int .i64 stamp] : Array Value)[i]? = some v → w1.cell? ⟨w.heap.size, i, none⟩ = some v := fun i v hv => by
        rw [hb1.cell (p := ⟨w.heap.size, i, none⟩) (by simp)]
        exact new_cell _ _ _ _ _ hv
      have e0 := dd 0 _ rfl
      have e2 := dd 2 _ rfl
      have e6 := dd 6 _ rfl
      have hz1 : w.heap.size < w1.heap.size := by have := hb1.size; simp at this; omega
      have hbw : Below w.heap.size w w1 := ((Below.refl _ _).alloc (Nat.le_refl _) _).trans (hb1.mono (by simp))
      have HM1 : Hid (MapIs w1 mb n f) := Lib.hid (HH.out.1.below hbw (Nat.le_refl _))
      have HB1 := Lib.hid hbw
      clear hb1 dd hbw
      go_wp2_with (first | (at_lookup; refine wpList_look rfl _ _ rfl ((HM1.out.below ((Below.refl _ _).alloc (Nat.le_refl _) _) (Nat.le_refl _))) rfl rfl HKM.out.1 HKM.out.2 HLV.out.1 HLV.out.2 ?_) | (at_mapUpdate; refine wpList_put rfl _ _ _ rfl ((HM1.out.below (((Below.refl _ _).alloc (Nat.le_refl _) _).alloc (by simp) _) (Nat.le_refl _))) (by unfold maxLen; omega) rfl rfl HKM.out.1 HKM.out.2 rfl ?_; intro w9 hm9 hf9))
      go_ret
      have HQ : fol f ⟨key, ⟨lab, false, bits, st, time, stamp⟩⟩ = 0 := by rw [HFZ.out]; rfl
      exact ⟨ret_int HQ.symm, Fr.trans (below_fr ((HB1.out.alloc (by omega) _).alloc (by simp; omega) _)) hf9, by
        rw [HQ, if_pos rfl, HKN.out]
        exact hm9⟩
    · go_enter Tryz.func34, Tryz.ntmps34
      go_wp2_with fail
      go_at_call 23
      refine (cbytes_calls la lc lab _ (HH.out.2.1.below ((Below.refl _ _).alloc (Nat.le_refl _) _) (Nat.le_refl _)) (by omega) HH.out.2.2).mono ?_
      rintro en w1 ⟨rfl, hb1⟩
      rw [HB.out.1, HB.out.2, ← HSE.out]
      have dd : ∀ i v, (#[Value.string key, .slice la lab.length lc, .bool true, .int .u64 bits, .bool st, .int .i64 time, .int .i64 stamp] : Array Value)[i]? = some v → w1.cell? ⟨w.heap.size, i, none⟩ = some v := fun i v hv => by
        rw [hb1.cell (p := ⟨w.heap.size, i, none⟩) (by simp)]
        exact new_cell _ _ _ _ _ hv
      have e0 := dd 0 _ rfl
      have e2 := dd 2 _ rfl
      have e6 := dd 6 _ rfl
      have hz1 : w.heap.size < w1.heap.size := by have := hb1.size; simp at this; omega
      have hbw : Below w.heap.size w w1 := ((Below.refl _ _).alloc (Nat.le_refl _) _).trans (hb1.mono (by simp))
      have HM1 : Hid (MapIs w1 mb n f) := Lib.hid (HH.out.1.below hbw (Nat.le_refl _))
      have HB1 := Lib.hid hbw
      clear hb1 dd hbw
      go_wp2_with (first | (at_lookup; refine wpList_look rfl _ _ rfl ((HM1.out.below ((Below.refl _ _).alloc (Nat.le_refl _) _) (Nat.le_refl _))) rfl rfl HKM.out.1 HKM.out.2 HLV.out.1 HLV.out.2 ?_))
      go_ret
      have HQ : fol f ⟨key, ⟨lab, true, bits, st, time, stamp⟩⟩ = 382 := by rw [HFZ.out]; rfl
      exact ⟨ret_int HQ.symm, below_fr ((HB1.out.alloc (by omega) _).alloc (by simp; omega) _), by
        rw [HQ, if_neg (by decide)]
        exact ((HM1.out.below (((Below.refl _ _).alloc (Nat.le_refl _) _).alloc (by simp) _) (Nat.le_refl _))).mono (by omega)⟩
  · by_cases hst : stamp ≤ s
    · have HST := Lib.hid hst
      go_enter Tryz.func34, Tryz.ntmps34
      go_wp2_with fail
      go_at_call 23
      refine (cbytes_calls la lc lab _ (HH.out.2.1.below ((Below.refl _ _).alloc (Nat.le_refl _) _) (Nat.le_refl _)) (by omega) HH.out.2.2).mono ?_
      rintro en w1 ⟨rfl, hb1⟩
      rw [HB.out.1, HB.out.2, ← HSE.out]
      have dd : ∀ i v, (#[Value.string key, .slice la lab.length lc, .bool mark, .int .u64 bits, .bool st, .int .i64 time, .int .i64 stamp] : Array Value)[i]? = some v → w1.cell? ⟨w.heap.size, i, none⟩ = some v := fun i v hv => by
        rw [hb1.cell (p := ⟨w.heap.size, i, none⟩) (by simp)]
        exact new_cell _ _ _ _ _ hv
      have e0 := dd 0 _ rfl
      have e2 := dd 2 _ rfl
      have e6 := dd 6 _ rfl
      have hz1 : w.heap.size < w1.heap.size := by have := hb1.size; simp at this; omega
      have hbw : Below w.heap.size w w1 := ((Below.refl _ _).alloc (Nat.le_refl _) _).trans (hb1.mono (by simp))
      have HM1 : Hid (MapIs w1 mb n f) := Lib.hid (HH.out.1.below hbw (Nat.le_refl _))
      have HB1 := Lib.hid hbw
      clear hb1 dd hbw
      go_wp2_with (first | (at_lookup; refine wpList_look rfl _ _ rfl ((HM1.out.below ((Below.refl _ _).alloc (Nat.le_refl _) _) (Nat.le_refl _))) rfl rfl HKM.out.1 HKM.out.2 HLV.out.1 HLV.out.2 ?_))
      go_ret
      have HQ : fol f ⟨key, ⟨lab, mark, bits, st, time, stamp⟩⟩ = 381 := by rw [HFZ.out]; simp [HST.out]
      exact ⟨ret_int HQ.symm, below_fr ((HB1.out.alloc (by omega) _).alloc (by simp; omega) _), by
        rw [HQ, if_neg (by decide)]
        exact ((HM1.out.below (((Below.refl _ _).alloc (Nat.le_refl _) _).alloc (by simp) _) (Nat.le_refl _))).mono (by omega)⟩
    · have HST := Lib.hid hst
      have hlt : s < stamp := by omega
      clear hst
      cases mark
      · go_enter Tryz.func34, Tryz.ntmps34
        go_wp2_with fail
        go_at_call 23
        refine (cbytes_calls la lc lab _ (HH.out.2.1.below ((Below.refl _ _).alloc (Nat.le_refl _) _) (Nat.le_refl _)) (by omega) HH.out.2.2).mono ?_
        rintro en w1 ⟨rfl, hb1⟩
        rw [HB.out.1, HB.out.2, ← HSE.out]
        have dd : ∀ i v, (#[Value.string key, .slice la lab.length lc, .bool false, .int .u64 bits, .bool st, .int .i64 time, .int .i64 stamp] : Array Value)[i]? = some v → w1.cell? ⟨w.heap.size, i, none⟩ = some v := fun i v hv => by
          rw [hb1.cell (p := ⟨w.heap.size, i, none⟩) (by simp)]
          exact new_cell _ _ _ _ _ hv
        have e0 := dd 0 _ rfl
        have e2 := dd 2 _ rfl
        have e6 := dd 6 _ rfl
        have hz1 : w.heap.size < w1.heap.size := by have := hb1.size; simp at this; omega
        have hbw : Below w.heap.size w w1 := ((Below.refl _ _).alloc (Nat.le_refl _) _).trans (hb1.mono (by simp))
        have HM1 : Hid (MapIs w1 mb n f) := Lib.hid (HH.out.1.below hbw (Nat.le_refl _))
        have HB1 := Lib.hid hbw
        clear hb1 dd hbw
        go_wp2_with (first | (at_lookup; refine wpList_look rfl _ _ rfl ((HM1.out.below ((Below.refl _ _).alloc (Nat.le_refl _) _) (Nat.le_refl _))) rfl rfl HKM.out.1 HKM.out.2 HLV.out.1 HLV.out.2 ?_) | (at_mapUpdate; refine wpList_put rfl _ _ _ rfl ((HM1.out.below (((Below.refl _ _).alloc (Nat.le_refl _) _).alloc (by simp) _) (Nat.le_refl _))) (by unfold maxLen; omega) rfl rfl HKM.out.1 HKM.out.2 rfl ?_; intro w9 hm9 hf9))
        go_ret
        have HQ : fol f ⟨key, ⟨lab, false, bits, st, time, stamp⟩⟩ = 0 := by rw [HFZ.out]; simp [HST.out]
        exact ⟨ret_int HQ.symm, Fr.trans (below_fr ((HB1.out.alloc (by omega) _).alloc (by simp; omega) _)) hf9, by
          rw [HQ, if_pos rfl, HKN.out]
          exact hm9⟩
      · cases m
        · go_enter Tryz.func34, Tryz.ntmps34
          go_wp2_with fail
          go_at_call 23
          refine (cbytes_calls la lc lab _ (HH.out.2.1.below ((Below.refl _ _).alloc (Nat.le_refl _) _) (Nat.le_refl _)) (by omega) HH.out.2.2).mono ?_
          rintro en w1 ⟨rfl, hb1⟩
          rw [HB.out.1, HB.out.2, ← HSE.out]
          have dd : ∀ i v, (#[Value.string key, .slice la lab.length lc, .bool true, .int .u64 bits, .bool st, .int .i64 time, .int .i64 stamp] : Array Value)[i]? = some v → w1.cell? ⟨w.heap.size, i, none⟩ = some v := fun i v hv => by
            rw [hb1.cell (p := ⟨w.heap.size, i, none⟩) (by simp)]
            exact new_cell _ _ _ _ _ hv
          have e0 := dd 0 _ rfl
          have e2 := dd 2 _ rfl
          have e6 := dd 6 _ rfl
          have hz1 : w.heap.size < w1.heap.size := by have := hb1.size; simp at this; omega
          have hbw : Below w.heap.size w w1 := ((Below.refl _ _).alloc (Nat.le_refl _) _).trans (hb1.mono (by simp))
          have HM1 : Hid (MapIs w1 mb n f) := Lib.hid (HH.out.1.below hbw (Nat.le_refl _))
          have HB1 := Lib.hid hbw
          clear hb1 dd hbw
          go_wp2_with (first | (at_lookup; refine wpList_look rfl _ _ rfl ((HM1.out.below ((Below.refl _ _).alloc (Nat.le_refl _) _) (Nat.le_refl _))) rfl rfl HKM.out.1 HKM.out.2 HLV.out.1 HLV.out.2 ?_) | (at_mapUpdate; refine wpList_put rfl _ _ _ rfl ((HM1.out.below (((Below.refl _ _).alloc (Nat.le_refl _) _).alloc (by simp) _) (Nat.le_refl _))) (by unfold maxLen; omega) rfl rfl HKM.out.1 HKM.out.2 rfl ?_; intro w9 hm9 hf9))
          go_ret
          have HQ : fol f ⟨key, ⟨lab, true, bits, st, time, stamp⟩⟩ = 0 := by rw [HFZ.out]; simp [HST.out]
          exact ⟨ret_int HQ.symm, Fr.trans (below_fr ((HB1.out.alloc (by omega) _).alloc (by simp; omega) _)) hf9, by
            rw [HQ, if_pos rfl, HKN.out]
            exact hm9⟩
        · go_enter Tryz.func34, Tryz.ntmps34
          go_wp2_with fail
          go_at_call 23
          refine (cbytes_calls la lc lab _ (HH.out.2.1.below ((Below.refl _ _).alloc (Nat.le_refl _) _) (Nat.le_refl _)) (by omega) HH.out.2.2).mono ?_
          rintro en w1 ⟨rfl, hb1⟩
          rw [HB.out.1, HB.out.2, ← HSE.out]
          have dd : ∀ i v, (#[Value.string key, .slice la lab.length lc, .bool true, .int .u64 bits, .bool st, .int .i64 time, .int .i64 stamp] : Array Value)[i]? = some v → w1.cell? ⟨w.heap.size, i, none⟩ = some v := fun i v hv => by
            rw [hb1.cell (p := ⟨w.heap.size, i, none⟩) (by simp)]
            exact new_cell _ _ _ _ _ hv
          have e0 := dd 0 _ rfl
          have e2 := dd 2 _ rfl
          have e6 := dd 6 _ rfl
          have hz1 : w.heap.size < w1.heap.size := by have := hb1.size; simp at this; omega
          have hbw : Below w.heap.size w w1 := ((Below.refl _ _).alloc (Nat.le_refl _) _).trans (hb1.mono (by simp))
          have HM1 : Hid (MapIs w1 mb n f) := Lib.hid (HH.out.1.below hbw (Nat.le_refl _))
          have HB1 := Lib.hid hbw
          clear hb1 dd hbw
          go_wp2_with (first | (at_lookup; refine wpList_look rfl _ _ rfl ((HM1.out.below ((Below.refl _ _).alloc (Nat.le_refl _) _) (Nat.le_refl _))) rfl rfl HKM.out.1 HKM.out.2 HLV.out.1 HLV.out.2 ?_))
          go_ret
          have HQ : fol f ⟨key, ⟨lab, true, bits, st, time, stamp⟩⟩ = 382 := by rw [HFZ.out]; simp [HST.out]
          exact ⟨ret_int HQ.symm, below_fr ((HB1.out.alloc (by omega) _).alloc (by simp; omega) _), by
            rw [HQ, if_neg (by decide)]
            exact ((HM1.out.below (((Below.refl _ _).alloc (Nat.le_refl _) _).alloc (by simp) _) (Nat.le_refl _))).mono (by omega)⟩
end Go.Proofs.YtmagojckhfkcdaaGreatDoor.Sk
