/- Several parts in one text: KrA, KrB. -/
import Derived.Test.YtmagojckhfkcdaaGreatDoorKcB
import Derived.Outline
/- Chapter 38: canon.ReadKey, sink.Right. -/
namespace Go.Proofs.YtmagojckhfkcdaaGreatDoor.Sk
open Go Go.RowKit
theorem heap_drewN (w : World) (n : Nat) : (w.drewN n).heap = w.heap := by
  induction n with
  | zero => rfl
  | succ n ih => exact ih
theorem new_cellN (w : World) (xs : Array Value) (t : TypeId) (n j : Nat) (v : Value) (h : xs[j]? = some v) : ((w.alloc (.cells xs t)).drewN n).cell? ⟨w.heap.size, j, none⟩ = some v := by
  have := new_cell w xs t j v h
  unfold World.cell? at this ⊢
  rw [heap_drewN]
  exact this
theorem new_frozN (w : World) (xs : Array Value) (t : TypeId) (n j : Nat) : ((w.alloc (.cells xs t)).drewN n).frozen? ⟨w.heap.size, j, none⟩ = false := by
  unfold World.frozen?
  rw [heap_drewN, heap_alloc_new]
  simp
/-- what the walks ask of the package variables -/
structure Kv (w : World) : Prop where
  sz : 4 < w.heap.size
  mx : ∃ m, w.cell? ⟨4, 0, none⟩ = some (.int .i64 m)
theorem Kv.below {B : Nat} {w w1 : World} (h : Kv w) (hb : Below B w w1) (hB : w.heap.size ≤ B) : Kv w1 := by
  have h1 := h.sz
  obtain ⟨m, hm⟩ := h.mx
  exact ⟨by have := hb.size; omega, m, (hb.cell (p := ⟨4, 0, none⟩) (by simp only; omega)).trans hm⟩
theorem Kv.alloc {w : World} (h : Kv w) (o : Obj) : Kv (w.alloc o) := h.below ((Below.refl _ _).alloc (Nat.le_refl _) o) (Nat.le_refl _)
theorem Kv.drewN {w : World} (h : Kv w) (n : Nat) : Kv (w.drewN n) := h.below (below_drewN (Below.refl _ _) n) (Nat.le_refl _)
set_option maxRecDepth 100000 in
theorem job_calls (s : ByteArray) (w : World) (hs : s.size ≤ 4611686018427387904) : Calls Tryz.prog 63 #[.string s] w fun e w' => e = .returned (.bool (jobB (d s))) ∧ w = w' := by
  by_cases h : 1 ≤ s.size ∧ s.size ≤ 128
  · obtain ⟨h1, h2⟩ := h
    have HF : Hid (jobB (d s) = valid (d s)) := Lib.hid (by unfold jobB; rw [decide_eq_true (by simpa using ⟨h1, h2⟩)]; rfl)
    go_enter Tryz.func63, Tryz.ntmps63
    go_wp2_with (go_at_call 90; refine (uvalid_calls s _ hs).mono ?_; rintro e w' ⟨rfl, rfl⟩)
    go_ret
    exact ⟨ret_bool HF.out.symm, rfl⟩
  · have HF : Hid (jobB (d s) = false) := Lib.hid (by unfold jobB; rw [decide_eq_false (by simpa using h)]; rfl)
    rcases (show s.size < 1 ∨ (1 ≤ s.size ∧ 128 < s.size) by omega) with h1 | ⟨h1, h2⟩
    · clear h
      go_enter Tryz.func63, Tryz.ntmps63
      go_wp2
      go_ret
      exact ⟨ret_bool HF.out.symm, rfl⟩
    · clear h
      go_enter Tryz.func63, Tryz.ntmps63
      go_wp2
      go_ret
      exact ⟨ret_bool HF.out.symm, rfl⟩
def RkPost (s : ByteArray) (w : World) (e : Ending) (w' : World) : Prop :=
  (∃ (j : ByteArray) (a : Option Addr) (n c : Nat) (er : Int), e = .returned (.tuple #[.agg #[.string j, .slice a n c], .int .i64 er]) ∧ ((er == 0) = (readKey (d s)).isSome)) ∧ Below w.heap.size w w'
theorem ahead_le {c : UInt8} : ∀ {s : B} {p : B × B}, ahead c s = some p → p.1.length ≤ s.length ∧ p.2.length ≤ s.length
  | [], _, h => by simp [ahead] at h
  | x :: r, p, h => by
    unfold ahead at h
    split at h
    · cases h; simp
    · cases hr : ahead c r with
      | none => rw [hr] at h; simp at h
      | some q =>
        rw [hr] at h
        simp only [Option.map_some, Option.some.injEq] at h
        have := ahead_le hr
        subst h
        simp only [List.length_cons]
        omega
set_option maxRecDepth 100000 in
set_option maxHeartbeats 2000000 in
theorem readkey_calls (s : ByteArray) (w : World) (hs : s.size ≤ 1100000) (hk : Kv w) : Calls Tryz.prog 29 #[.string s] w (RkPost s w) := by
  obtain ⟨m, hm⟩ := hk.mx
  have hcut := fun w1 (hm1 : w1.cell? ⟨4, 0, none⟩ = some (.int .i64 m)) => Tryz.strings_Cut s ⟨#[254]⟩ m w1 (by omega) hm1
  have hc1 : Lib.cut s.data.toList ((⟨#[254]⟩ : ByteArray)).data.toList = _ := cut_one 254 (d s)
  rw [hc1] at hcut
  have HM : Hid (∀ (w1 : World), Below w.heap.size w w1 → w1.cell? ⟨4, 0, none⟩ = some (.int .i64 m)) := Lib.hid (fun w1 hb => (hb.cell (p := ⟨4, 0, none⟩) hk.sz).trans hm)
  have HRK : Hid (readKey (d s) = match ahead 254 (d s) with | none => none | some (j, r) => if jobB j then (readS r).map fun l => (j, l) else none) := Lib.hid rfl
  clear hc1 hm hk
  have HBZ : Hid (∀ n x y, Below w.heap.size w ((((w.alloc (.cells #[.string ⟨#[]⟩, .slice none 0 0] 73)).drewN n).setCell ⟨w.heap.size, 0, none⟩ x).setCell ⟨w.heap.size, 1, none⟩ y)) := Lib.hid (fun n x y => ((below_drewN ((Below.refl _ _).alloc (Nat.le_refl _) _) n).setCell (Nat.le_refl _) _).setCell (Nat.le_refl _) _)
  rcases (show ahead 254 (d s) = none ∨ ∃ p, ahead 254 (d s) = some p by cases ahead 254 (d s) <;> simp) with ha | ⟨⟨j, r⟩, ha⟩
  · rw [ha] at hcut
    have HCUT := Lib.hid hcut
    have HN : Hid ((readKey (d s)).isSome = false) := Lib.hid (by rw [HRK.out, ha]; rfl)
    clear hcut ha
    go_enter Tryz.func29, Tryz.ntmps29
    go_wp2_with fail
    go_at_call 62
    refine (HCUT.out _ (HM.out _ ((Below.refl _ _).alloc (Nat.le_refl _) _))).mono ?_
    rintro e w2 ⟨rfl, n, rfl⟩
    go_wp2
    exact bodyPost_ret (v := .tuple #[.agg #[.string ⟨#[]⟩, .slice none 0 0], .int .i64 50]) (by simp [results, Tryz.results29, go_sem]) rfl ⟨⟨_, _, _, _, _, rfl, by rw [HN.out]; rfl⟩, HBZ.out _ _ _⟩
  · have hal := ahead_le ha
    dsimp only at hal
    rw [ha] at hcut
    dsimp only at hcut
    have HRK2 : Hid (readKey (d s) = if jobB j then (readS r).map fun l => (j, l) else none) := Lib.hid (by rw [HRK.out, ha])
    have hss : (d s).length = s.size := by simp
    obtain ⟨jb, hjb⟩ : ∃ jb : ByteArray, jb = ⟨j.toArray⟩ := ⟨_, rfl⟩
    obtain ⟨rb, hrb⟩ : ∃ rb : ByteArray, rb = ⟨r.toArray⟩ := ⟨_, rfl⟩
    rw [← hjb, ← hrb] at hcut
    have hj1 : jb.size ≤ 1100000 := by rw [hjb]; show j.toArray.size ≤ _; simp; omega
    have hr1 : rb.size ≤ 1100000 := by rw [hrb]; show r.toArray.size ≤ _; simp; omega
    have hdj : d jb = j := by rw [hjb]
    have hdr : d rb = r := by rw [hrb]
    rw [← hdj, ← hdr] at HRK2
    have HCUT := Lib.hid hcut
    clear hcut ha hal hss HRK hjb hrb hdj hdr
    rcases (show jobB (d jb) = true ∨ jobB (d jb) = false by cases jobB (d jb) <;> simp) with hj | hj
    · have HJ := Lib.hid hj
      have HRK3 : Hid ((readKey (d s)).isSome = (readS (d rb)).isSome) := Lib.hid (by rw [HRK2.out, hj]; simp)
      clear hj HRK2
      go_enter Tryz.func29, Tryz.ntmps29
      go_wp2_with fail
      go_at_call 62
      refine (HCUT.out _ (HM.out _ ((Below.refl _ _).alloc (Nat.le_refl _) _))).mono ?_
      rintro e w2 ⟨rfl, n, rfl⟩
      have hb1 : Below w.heap.size w ((w.alloc (.cells #[.string ⟨#[]⟩, .slice none 0 0] 73)).drewN n) := below_drewN ((Below.refl _ _).alloc (Nat.le_refl _) _) n
      have HB1 := Lib.hid hb1
      clear hb1
      go_wp2_with fail
      go_at_call 63
      refine (job_calls jb _ (by omega)).mono ?_
      rintro e w3 ⟨rfl, rfl⟩
      rw [HJ.out]
      go_wp2_with fail
      go_at_call 44
      refine (cread_calls rb _ hr1 m (HM.out _ HB1.out)).mono ?_
      rintro e w4 ⟨hpost, hb4⟩
      have hsz4 : w.heap.size < w4.heap.size := by have := hb4.size; simp at this; omega
      have d0 : w4.cell? ⟨w.heap.size, 0, none⟩ = some (.string ⟨#[]⟩) := by
        rw [hb4.cell (p := ⟨w.heap.size, 0, none⟩) (by simp)]
        exact new_cellN _ _ _ _ _ _ rfl
      have d1 : w4.cell? ⟨w.heap.size, 1, none⟩ = some (.slice none 0 0) := by
        rw [hb4.cell (p := ⟨w.heap.size, 1, none⟩) (by simp)]
        exact new_cellN _ _ _ _ _ _ rfl
      have f0 : ∀ i, w4.frozen? ⟨w.heap.size, i, none⟩ = false := fun i => by
        rw [hb4.frozen (p := ⟨w.heap.size, i, none⟩) (by simp)]
        exact new_frozN _ _ _ _ _
      have g0 := f0 0
      have g1 := f0 1
      have HB4 : Hid (∀ x y, Below w.heap.size w ((w4.setCell ⟨w.heap.size, 0, none⟩ x).setCell ⟨w.heap.size, 1, none⟩ y)) := Lib.hid (fun x y => ((HB1.out.trans (hb4.mono (by simp))).setCell (Nat.le_refl _) _).setCell (Nat.le_refl _) _)
      clear hb4 f0
      rcases (show readS (d rb) = none ∨ ∃ l, readS (d rb) = some l by cases readS (d rb) <;> simp) with hr | ⟨l, hr⟩
      · rw [hr] at hpost
        have HN : Hid ((readKey (d s)).isSome = false) := Lib.hid (by rw [HRK3.out, hr]; rfl)
        clear hr
        subst hpost
        go_wp2
        exact bodyPost_ret (v := .tuple #[.agg #[.string ⟨#[]⟩, .slice none 0 0], .int .i64 50]) (by simp [results, Tryz.results29, go_sem, d0, d1]) rfl ⟨⟨_, _, _, _, _, rfl, by rw [HN.out]; rfl⟩, HB4.out _ _⟩
      · rw [hr] at hpost
        obtain ⟨v, rfl, hown⟩ := hpost
        have HN : Hid ((readKey (d s)).isSome = true) := Lib.hid (by rw [HRK3.out, hr]; rfl)
        obtain ⟨a, c, rfl⟩ := own_form hown
        clear hr hown
        go_wp2
        exact bodyPost_ret (v := .tuple #[.agg #[.string jb, .slice a l.length c], .int .i64 0]) (by simp [results, Tryz.results29, go_sem, d0, d1]) rfl ⟨⟨_, _, _, _, _, rfl, by rw [HN.out]; rfl⟩, HB4.out _ _⟩
    · have HJ := Lib.hid hj
      have HN : Hid ((readKey (d s)).isSome = false) := Lib.hid (by rw [HRK2.out, hj]; simp)
      clear hj HRK2
      go_enter Tryz.func29, Tryz.ntmps29
      go_wp2_with fail
      go_at_call 62
      refine (HCUT.out _ (HM.out _ ((Below.refl _ _).alloc (Nat.le_refl _) _))).mono ?_
      rintro e w2 ⟨rfl, n, rfl⟩
      go_wp2_with (go_at_call 63; refine (job_calls jb _ (by omega)).mono ?_; rintro e w3 ⟨rfl, rfl⟩; rw [HJ.out])
      exact bodyPost_ret (v := .tuple #[.agg #[.string ⟨#[]⟩, .slice none 0 0], .int .i64 50]) (by simp [results, Tryz.results29, go_sem]) rfl ⟨⟨_, _, _, _, _, rfl, by rw [HN.out]; rfl⟩, HBZ.out _ _ _⟩
end Go.Proofs.YtmagojckhfkcdaaGreatDoor.Sk
/- Chapter 38: sink.Right. -/
namespace Go.Proofs.YtmagojckhfkcdaaGreatDoor.Sk
open Go Go.RowKit
theorem bcell {W w1 : World} (hb : Below W.heap.size W w1) : (∀ b o, b < W.heap.size → w1.cell? ⟨b, o, none⟩ = W.cell? ⟨b, o, none⟩) ∧ (∀ b o, b < W.heap.size → w1.frozen? ⟨b, o, none⟩ = W.frozen? ⟨b, o, none⟩) :=
  ⟨fun b o h => hb.cell (p := ⟨b, o, none⟩) h, fun b o h => hb.frozen (p := ⟨b, o, none⟩) h⟩
/-- canon.Bytes, whatever the labels -/
def bytesE (l : List Lab) : B := if labRight l then bytesS l else []
def errE (l : List Lab) : Int := if labRight l then 0 else 44
theorem cbytes_calls (a : Option Addr) (cap : Nat) (l : List Lab) (w : World) (h : RdL w a l) (hn : l.length ≤ 1000000000) (hsz : ∀ x ∈ l, x.2.size ≤ 4611686018427387904) :
    Calls Tryz.prog 23 #[.slice a l.length cap] w fun e w' => e = .returned (.tuple #[.string ⟨(bytesE l).toArray⟩, .int .i64 (errE l)]) ∧ Below w.heap.size w w' := by
  cases hr : labRight l with
  | true =>
    unfold bytesE errE
    simp only [hr, if_true]
    exact cbytes_yes a cap l w h hr
  | false =>
    unfold bytesE errE
    simp only [hr]
    exact cbytes_no a cap l w h hr hn hsz
set_option maxRecDepth 100000 in
set_option maxHeartbeats 4000000 in
theorem sright_calls (key : ByteArray) (la : Option Addr) (lc : Nat) (e : Ent) (w : World) (hk : key.size ≤ 1100000) (h : RdL w la e.lab) (hn : e.lab.length ≤ 1000000000) (hsz : ∀ x ∈ e.lab, x.2.size ≤ 4611686018427387904) (hv : Kv w) :
    Calls Tryz.prog 10 #[.agg #[.string key, .slice la e.lab.length lc, .bool e.mark, .int .u64 e.bits, .bool e.st, .int .i64 e.time, .int .i64 e.stamp]] w
      fun en w' => en = .returned (.bool (itemRight (d key) e)) ∧ Below w.heap.size w w' := by
  obtain ⟨lab, mark, bits, st, time, stamp⟩ := e
  dsimp only at h hn hsz ⊢
  have HIR : Hid (itemRight (d key) ⟨lab, mark, bits, st, time, stamp⟩ = ((readKey (d key)).isSome && labRight lab && decide (0 ≤ stamp ∧ stamp ≤ 562949953421313) && (!mark || (decide (bits = 0) && !st)) && (st || decide (time = 0)))) := Lib.hid rfl
  have H := Lib.hid (And.intro h (And.intro hsz hv))
  clear h hsz hv
  go_enter Tryz.func10, Tryz.ntmps10
  go_wp2_with fail
  go_at_call 29
  refine (readkey_calls key _ hk ((H.out.2.2.alloc _).alloc _)).mono ?_
  rintro en w1 ⟨⟨j, ja, jn, jc, er, rfl, her⟩, hb1⟩
  obtain ⟨hc1, hf1⟩ := bcell hb1
  have hz1 : w.heap.size + 1 < w1.heap.size := by have := hb1.size; simp at this; omega
  have HER := Lib.hid her
  have HB1 : Hid (Below w.heap.size w w1) := Lib.hid ((((Below.refl _ _).alloc (Nat.le_refl _) _).alloc (by simp) _).trans (hb1.mono (by simp; omega)))
  clear her hb1
  go_wp2_with fail
  go_at_call 23
  refine (cbytes_calls la lc lab _ (H.out.1.below (HB1.out.alloc (by omega) _) (Nat.le_refl _)) hn H.out.2.1).mono ?_
  rintro en w2 ⟨rfl, hb2⟩
  obtain ⟨er2, he2⟩ : ∃ q, q = errE lab := ⟨_, rfl⟩
  have HE2 : Hid ((er2 == 0) = labRight lab) := Lib.hid (by rw [he2]; unfold errE; cases labRight lab <;> rfl)
  rw [← he2]
  have dd : ∀ i v, (#[Value.slice la lab.length lc, .bool mark, .int .u64 bits, .bool st, .int .i64 time, .int .i64 stamp] : Array Value)[i]? = some v → w2.cell? ⟨w.heap.size + 1, i, none⟩ = some v := fun i v hv => by
    rw [hb2.cell (p := ⟨w.heap.size + 1, i, none⟩) (by simp; omega)]
    rw [World.cell?_alloc_lt _ _ _ (by simp only; omega)]
    rw [hc1 _ _ (by simp)]
    have := new_cell (w.alloc (.cells #[.string key, .slice la lab.length lc, .bool mark, .int .u64 bits, .bool st, .int .i64 time, .int .i64 stamp] 40)) _ 34 i v hv
    simpa using this
  have e1 := dd 1 _ rfl
  have e2 := dd 2 _ rfl
  have e3 := dd 3 _ rfl
  have e4 := dd 4 _ rfl
  have e5 := dd 5 _ rfl
  have hz2 : w.heap.size + 1 < w2.heap.size := by have := hb2.size; simp at this; omega
  have HB2 := Lib.hid ((HB1.out.alloc (by omega) _).trans (hb2.mono (by simp; omega)))
  clear hc1 hf1 hb2 dd he2
  rcases (show (readKey (d key)).isSome = false ∨ (readKey (d key)).isSome = true by cases (readKey (d key)).isSome <;> simp) with hrk | hrk
  · have HRK := Lib.hid hrk
    have h0 : (er != 0) = true := by have := HER.out.trans hrk; simpa using this
    clear hrk
    go_wp2
    go_ret
    exact ⟨ret_bool (by rw [HIR.out, HRK.out]; simp), HB2.out⟩
  have HRK := Lib.hid hrk
  have h0 : (er != 0) = false := by have := HER.out.trans hrk; simpa using this
  clear hrk
  rcases (show labRight lab = false ∨ labRight lab = true by cases labRight lab <;> simp) with hlr | hlr
  · have HLR := Lib.hid hlr
    have h02 : (er2 != 0) = true := by have := HE2.out.trans hlr; simpa using this
    clear hlr
    go_wp2
    go_ret
    exact ⟨ret_bool (by rw [HIR.out, HLR.out]; simp), HB2.out⟩
  have HLR := Lib.hid hlr
  have h02 : (er2 != 0) = false := by have := HE2.out.trans hlr; simpa using this
  clear hlr
  rcases (show stamp < 0 ∨ (0 ≤ stamp ∧ 562949953421313 < stamp) ∨ (0 ≤ stamp ∧ stamp ≤ 562949953421313) by omega) with hs | ⟨hs1, hs2⟩ | ⟨hs1, hs2⟩
  · have HS : Hid (decide (0 ≤ stamp ∧ stamp ≤ 562949953421313) = false) := Lib.hid (decide_eq_false (by omega))
    go_wp2
    go_ret
    exact ⟨ret_bool (by rw [HIR.out, HS.out]; simp), HB2.out⟩
  · have HS : Hid (decide (0 ≤ stamp ∧ stamp ≤ 562949953421313) = false) := Lib.hid (decide_eq_false (by omega))
    go_wp2
    go_ret
    exact ⟨ret_bool (by rw [HIR.out, HS.out]; simp), HB2.out⟩
  have HS : Hid (decide (0 ≤ stamp ∧ stamp ≤ 562949953421313) = true) := Lib.hid (decide_eq_true ⟨hs1, hs2⟩)
  have HF : Hid (itemRight (d key) ⟨lab, mark, bits, st, time, stamp⟩ = ((!mark || (decide (bits = 0) && !st)) && (st || decide (time = 0)))) := Lib.hid (by rw [HIR.out, HRK.out, HLR.out, HS.out]; simp)
  rcases (show (bits == 0) = true ∨ (bits == 0) = false by cases (bits == 0) <;> simp) with hb | hb
  all_goals
    rcases (show (time == 0) = true ∨ (time == 0) = false by cases (time == 0) <;> simp) with ht | ht
  all_goals
    have HBT := Lib.hid (And.intro hb ht)
    cases mark <;> cases st
  all_goals
    go_wp2
    go_ret
    exact ⟨ret_bool (by rw [HF.out]; have h1 := HBT.out.1; have h2 := HBT.out.2; simp at h1 h2; simp [h1, h2]), HB2.out⟩
end Go.Proofs.YtmagojckhfkcdaaGreatDoor.Sk
