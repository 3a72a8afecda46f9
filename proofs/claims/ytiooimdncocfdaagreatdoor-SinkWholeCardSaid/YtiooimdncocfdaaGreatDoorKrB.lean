/- Chapter 38: sink.Right. -/
import Derived.Test.YtiooimdncocfdaaGreatDoorKrA
import Derived.Outline
namespace Go.Proofs.YtiooimdncocfdaaGreatDoor.Sk
open Go Go.RowKit
theorem bcell {W w1 : World} (hb : Below W.heap.size W w1) : (∀ b o, b < W.heap.size → w1.cell? ⟨b, o, none⟩ = W.cell? ⟨b, o, none⟩) ∧ (∀ b o, b < W.heap.size → w1.frozen? ⟨b, o, none⟩ = W.frozen? ⟨b, o, none⟩) :=
  ⟨fun b o h => hb.cell (p := ⟨b, o, none⟩) h, fun b o h => hb.frozen (p := ⟨b, o, none⟩) h⟩
/-- canon.Bytes, whatever the labels -/
def bytesE (l : List Lab) : B := if labRight l then bytesS l else []
def errE (l : List Lab) : Int := if labRight l then 0 else 44
theorem cbytes_calls (a : Option Addr) (cap : Nat) (l : List Lab) (w : World) (h : RdL w a l) (hn : l.length ≤ 1000000000) (hsz : ∀ x ∈ l, x.2.size ≤ 4611686018427387904) :
    Calls Tryz.prog 91 #[.slice a l.length cap] w fun e w' => e = .returned (.tuple #[.string ⟨(bytesE l).toArray⟩, .int .i64 (errE l)]) ∧ Below w.heap.size w w' := by
  cases hr : labRight l with
  | true =>
    unfold bytesE errE
    simp only [hr, if_true]
    exact cbytes_yes a cap l w h hr
  | false =>
    unfold bytesE errE
    simp only [hr]
    exact cbytes_no a cap l w h hr hn hsz
set_option maxRecDepth 100000 in
set_option maxHeartbeats 4000000 in
theorem sright_calls (key : ByteArray) (la : Option Addr) (lc : Nat) (e : Ent) (w : World) (hk : key.size ≤ 1000000) (h : RdL w la e.lab) (hn : e.lab.length ≤ 1000000000) (hsz : ∀ x ∈ e.lab, x.2.size ≤ 4611686018427387904) (hv : Kv w) :
    Calls Tryz.prog 54 #[.agg #[.string key, .slice la e.lab.length lc, .bool e.mark, .int .u64 e.bits, .bool e.st, .int .i64 e.time, .int .i64 e.stamp]] w
      fun en w' => en = .returned (.bool (itemRight (d key) e)) ∧ Below w.heap.size w w' := by
  obtain ⟨lab, mark, bits, st, time, stamp⟩ := e
  dsimp only at h hn hsz ⊢
  have HIR : Hid (itemRight (d key) ⟨lab, mark, bits, st, time, stamp⟩ = ((readKey (d key)).isSome && labRight lab && decide (0 ≤ stamp ∧ stamp ≤ 562949953421313) && (!mark || (decide (bits = 0) && !st)) && (st || decide (time = 0)))) := Lib.hid rfl
  have H := Lib.hid (And.intro h (And.intro hsz hv))
  clear h hsz hv
  go_enter Tryz.func54, Tryz.ntmps54
  go_wp2_with fail
  go_at_call 122
  refine (readkey_calls key _ hk ((H.out.2.2.alloc _).alloc _)).mono ?_
  rintro en w1 ⟨⟨j, ja, jn, jc, er, rfl, her⟩, hb1⟩
  obtain ⟨hc1, hf1⟩ := bcell hb1
  have hz1 : w.heap.size + 1 < w1.heap.size := by have := hb1.size; simp at this; omega
  have HER := Lib.hid her
  have HB1 : Hid (Below w.heap.size w w1) := Lib.hid ((((Below.refl _ _).alloc (Nat.le_refl _) _).alloc (by simp) _).trans (hb1.mono (by simp; omega)))
  clear her hb1
  go_wp2_with fail
  go_at_call 91
  refine (cbytes_calls la lc lab _ (H.out.1.below (HB1.out.alloc (by omega) _) (Nat.le_refl _)) hn H.out.2.1).mono ?_
  rintro en w2 ⟨rfl, hb2⟩
  obtain ⟨er2, he2⟩ : ∃ q, q = errE lab := ⟨_, rfl⟩
  have HE2 : Hid ((er2 == 0) = labRight lab) := Lib.hid (by rw [he2]; unfold errE; cases labRight lab <;> rfl)
  rw [← he2]
  have dd : ∀ i v, (#[Value.slice la lab.length lc, .bool mark, .int .u64 bits, .bool st, .int .i64 time, .int .i64 stamp] : Array Value)[i]? = some v → w2.cell? ⟨w.heap.size + 1, i, none⟩ = some v := fun i v hv => by
    rw [hb2.cell (p := ⟨w.heap.size + 1, i, none⟩) (by simp; omega)]
    rw [World.cell?_alloc_lt _ _ _ (by simp only; omega)]
    rw [hc1 _ _ (by simp)]
    have := new_cell (w.alloc (.cells #[.string key, .slice la lab.length lc, .bool mark, .int .u64 bits, .bool st, .int .i64 time, .int .i64 stamp] 61)) _ 59 i v hv
    simpa using this
  have e1 := dd 1 _ rfl
  have e2 := dd 2 _ rfl
  have e3 := dd 3 _ rfl
  have e4 := dd 4 _ rfl
  have e5 := dd 5 _ rfl
  have hz2 : w.heap.size + 1 < w2.heap.size := by have := hb2.size; simp at this; omega
  have HB2 := Lib.hid ((HB1.out.alloc (by omega) _).trans (hb2.mono (by simp; omega)))
  clear hc1 hf1 hb2 dd he2
  rcases (show (readKey (d key)).isSome = false ∨ (readKey (d key)).isSome = true by cases (readKey (d key)).isSome <;> simp) with hrk | hrk
  · have HRK := Lib.hid hrk
    have h0 : (er != 0) = true := by have := HER.out.trans hrk; simpa using this
    clear hrk
    go_wp2
    go_ret
    exact ⟨ret_bool (by rw [HIR.out, HRK.out]; simp), HB2.out⟩
  have HRK := Lib.hid hrk
  have h0 : (er != 0) = false := by have := HER.out.trans hrk; simpa using this
  clear hrk
  rcases (show labRight lab = false ∨ labRight lab = true by cases labRight lab <;> simp) with hlr | hlr
  · have HLR := Lib.hid hlr
    have h02 : (er2 != 0) = true := by have := HE2.out.trans hlr; simpa using this
    clear hlr
    go_wp2
    go_ret
    exact ⟨ret_bool (by rw [HIR.out, HLR.out]; simp), HB2.out⟩
  have HLR := Lib.hid hlr
  have h02 : (er2 != 0) = false := by have := HE2.out.trans hlr; simpa using this
  clear hlr
  rcases (show stamp < 0 ∨ (0 ≤ stamp ∧ 562949953421313 < stamp) ∨ (0 ≤ stamp ∧ stamp ≤ 562949953421313) by omega) with hs | ⟨hs1, hs2⟩ | ⟨hs1, hs2⟩
  · have HS : Hid (decide (0 ≤ stamp ∧ stamp ≤ 562949953421313) = false) := Lib.hid (decide_eq_false (by omega))
    go_wp2
    go_ret
    exact ⟨ret_bool (by rw [HIR.out, HS.out]; simp), HB2.out⟩
  · have HS : Hid (decide (0 ≤ stamp ∧ stamp ≤ 562949953421313) = false) := Lib.hid (decide_eq_false (by omega))
    go_wp2
    go_ret
    exact ⟨ret_bool (by rw [HIR.out, HS.out]; simp), HB2.out⟩
  have HS : Hid (decide (0 ≤ stamp ∧ stamp ≤ 562949953421313) = true) := Lib.hid (decide_eq_true ⟨hs1, hs2⟩)
  have HF : Hid (itemRight (d key) ⟨lab, mark, bits, st, time, stamp⟩ = ((!mark || (decide (bits = 0) && !st)) && (st || decide (time = 0)))) := Lib.hid (by rw [HIR.out, HRK.out, HLR.out, HS.out]; simp)
  rcases (show (bits == 0) = true ∨ (bits == 0) = false by cases (bits == 0) <;> simp) with hb | hb
  all_goals
    rcases (show (time == 0) = true ∨ (time == 0) = false by cases (time == 0) <;> simp) with ht | ht
  all_goals
    have HBT := Lib.hid (And.intro hb ht)
    cases mark <;> cases st
  all_goals
    go_wp2
    go_ret
    exact ⟨ret_bool (by rw [HF.out]; have h1 := HBT.out.1; have h2 := HBT.out.2; simp at h1 h2; simp [h1, h2]), HB2.out⟩
end Go.Proofs.YtiooimdncocfdaaGreatDoor.Sk
