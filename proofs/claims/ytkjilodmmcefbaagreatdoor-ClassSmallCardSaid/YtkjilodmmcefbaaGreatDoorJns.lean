/- The law's joins: it returns true, whatever the two lists. -/
import Derived.Test.YtkjilodmmcefbaaGreatDoorLw2
import Derived.Test.YtkjilodmmcefbaaGreatDoorAlgA
import Derived.Test.YtkjilodmmcefbaaGreatDoorAwk
namespace Go.Proofs.YtkjilodmmcefbaaGreatDoor
open Go.RowKit Go.Shelf
theorem Blk.below {w w1 : World} {g n : Nat} (h : Blk w g n) (hb : Below w.heap.size w w1) : Blk w1 g n := by
  obtain ⟨cur, h1, h2⟩ := h
  exact ⟨cur, by rw [hb.block g (Array.getElem?_eq_some_iff.1 h1).1]; exact h1, h2⟩
theorem Blk.kept {S : List Nat} {w w1 : World} {g n : Nat} (h : Blk w g n) (hb : KeptB S w w1) (hg : g ∉ S) : Blk w1 g n := by
  obtain ⟨cur, h1, h2⟩ := h
  exact ⟨cur, by rw [hb.block g (Array.getElem?_eq_some_iff.1 h1).1 hg]; exact h1, h2⟩
/-- What a slice that was made holds for the law: where its block lies, and that it may be written. -/
theorem own_all {w : World} {base n : Nat} {v : Value} {l : Rs.S} {T : TypeId} (h : w.ownsRow base T 2 v n (rFlat l)) :
    ∃ a cap, v = .slice a l.length cap ∧ Sl w a cap l ∧ (∀ p, a = some p → base ≤ p.block ∧ p.block < w.heap.size) := by
  obtain ⟨a, cap, rfl, hn, hs⟩ := Sl.of_ownT h
  refine ⟨a, cap, rfl, hs, fun p e => ⟨?_, (hs.sp p e).2⟩⟩
  subst e
  rcases h.2 with ⟨e, _⟩ | ⟨g, cap', cur, e, hb, _⟩
  · cases e
  · cases e; exact hb
theorem own_blk {w : World} {base n cap : Nat} {a : Option Addr} {l : Rs.S} (h : w.ownsRow base 34 2 (.slice a l.length cap) n (rFlat l)) : l ≠ [] → ∃ g, a = some ⟨g, 0, none⟩ ∧ Blk w g l.length := by
  intro hne
  have hn : n = l.length := by have := h.1; rw [rFlat_length] at this; omega
  subst hn
  rcases h.2 with ⟨_, h0⟩ | ⟨g, cap', cur, e, hb, hg, h1, h2, h3, _⟩
  · exact absurd (List.eq_nil_of_length_eq_zero h0) hne
  · cases e
    exact ⟨g, rfl, cur, hg, by rw [h3]; exact Nat.mul_le_mul_right _ h1⟩
def blks (a : Option Addr) : List Nat := (a.map (·.block)).toList
theorem blks_mem {a : Option Addr} {i : Nat} : i ∈ blks a ↔ ∃ p, a = some p ∧ p.block = i := by
  cases a <;> simp [blks, eq_comm]
theorem KeptB.of_alloc {S : List Nat} {w w' : World} {o : Obj} (h : KeptB S (w.alloc o) w') : KeptB S w w' :=
  ⟨h.os, h.tape, h.output, by have := h.size; simp at this; omega, fun i hi hn => by rw [h.block i (by simp; omega) hn, Below.heap_alloc w o i hi]⟩
/-- Where the block of a slice lies. -/
def In (a : Option Addr) (x y : Nat) : Prop := ∀ p, a = some p → x ≤ p.block ∧ p.block < y
theorem In.not {a o : Option Addr} {x y u v : Nat} (h : In a x y) (k : In o u v) (hd : y ≤ u ∨ v ≤ x) : ∀ p, a = some p → p.block ∉ blks o := by
  intro p e hm
  obtain ⟨q, e', hq⟩ := blks_mem.1 hm
  have h1 := h p e
  have h2 := k q e'
  omega
theorem In.ge {o : Option Addr} {u v : Nat} (k : In o u v) {B : Nat} (hB : B ≤ u) : ∀ i ∈ blks o, B ≤ i := by
  intro i hm
  obtain ⟨q, e', hq⟩ := blks_mem.1 hm
  have h2 := k q e'
  omega
theorem alloc_cell (w : World) (xs : Array Value) (T : TypeId) (i : Nat) (v : Value) (h : xs[i]? = some v) : (w.alloc (.cells xs T)).cell? ⟨w.heap.size, i, none⟩ = some v := by
  simp only [World.cell?, World.alloc_heap_new]
  exact h
theorem spoil1 (a : Option Addr) (c : Nat) (l : Rs.S) (T : TypeId) (w : World) (hs : ∀ p, a = some p → p.block < w.heap.size) (hb : l ≠ [] → ∃ g, a = some ⟨g, 0, none⟩ ∧ Blk w g l.length) (hl : l.length ≤ 1000000000) :
    Calls Tryz.prog 47 #[.slice (some ⟨w.heap.size, 0, none⟩) 1 1] (w.alloc (.cells #[.slice a l.length c] T)) fun e w' => e = .returned (.tuple #[]) ∧ KeptB (blks a) w w' := by
  have hcall := spoil_calls w.heap.size 1 (blks a) [(a, c, l)] (w.alloc (.cells #[.slice a l.length c] T)) (by simp) (fun h => by
      obtain ⟨p, e, h1⟩ := blks_mem.1 h
      have := hs p e
      omega) (by simp) (fun i x hx => by
      match i, hx with
      | 0, hx => cases hx; exact alloc_cell _ _ _ _ _ rfl) (fun x hx => by
      rw [List.mem_singleton] at hx
      subst hx
      exact hl) (fun x hx hne => by
      rw [List.mem_singleton] at hx
      subst hx
      obtain ⟨g, e, h⟩ := hb hne
      exact ⟨g, e, blks_mem.2 ⟨_, e, rfl⟩, h.below (Below.alloc (Below.refl _ _) (Nat.le_refl _) _)⟩)
  exact hcall.mono fun e w' ⟨h1, h2⟩ => ⟨h1, h2.of_alloc⟩
theorem spoil2 (a b : Option Addr) (c d : Nat) (l m : Rs.S) (T : TypeId) (w : World) (hs : ∀ p, a = some p → p.block < w.heap.size) (ks : ∀ p, b = some p → p.block < w.heap.size)
    (hb : l ≠ [] → ∃ g, a = some ⟨g, 0, none⟩ ∧ Blk w g l.length) (kb : m ≠ [] → ∃ g, b = some ⟨g, 0, none⟩ ∧ Blk w g m.length) (hl : l.length ≤ 1000000000) (hm : m.length ≤ 1000000000) :
    Calls Tryz.prog 47 #[.slice (some ⟨w.heap.size, 0, none⟩) 2 2] (w.alloc (.cells #[.slice a l.length c, .slice b m.length d] T)) fun e w' => e = .returned (.tuple #[]) ∧ KeptB (blks a ++ blks b) w w' := by
  have hcall := spoil_calls w.heap.size 2 (blks a ++ blks b) [(a, c, l), (b, d, m)] (w.alloc (.cells #[.slice a l.length c, .slice b m.length d] T)) (by simp) (fun h => by
      rcases List.mem_append.1 h with h | h
      · obtain ⟨p, e, h1⟩ := blks_mem.1 h
        have := hs p e
        omega
      · obtain ⟨p, e, h1⟩ := blks_mem.1 h
        have := ks p e
        omega) (by simp) (fun i x hx => by
      match i, hx with
      | 0, hx => cases hx; exact alloc_cell _ _ _ _ _ rfl
      | 1, hx => cases hx; exact alloc_cell _ _ _ _ _ rfl) (fun x hx => by
      simp only [List.mem_cons, List.not_mem_nil, or_false] at hx
      rcases hx with rfl | rfl
      · exact hl
      · exact hm) (fun x hx hne => by
      simp only [List.mem_cons, List.not_mem_nil, or_false] at hx
      rcases hx with rfl | rfl
      · obtain ⟨g, e, h⟩ := hb hne
        exact ⟨g, e, List.mem_append.2 (.inl (blks_mem.2 ⟨_, e, rfl⟩)), h.below (Below.alloc (Below.refl _ _) (Nat.le_refl _) _)⟩
      · obtain ⟨g, e, h⟩ := kb hne
        exact ⟨g, e, List.mem_append.2 (.inr (blks_mem.2 ⟨_, e, rfl⟩)), h.below (Below.alloc (Below.refl _ _) (Nat.le_refl _) _)⟩)
  exact hcall.mono fun e w' ⟨h1, h2⟩ => ⟨h1, h2.of_alloc⟩
namespace Rs
theorem orE_len (l m : S) : (orE l m).length ≤ 1114113 := by
  unfold orE
  split
  · rename_i h; rw [Bool.and_eq_true] at h; exact right_len (orS_right h.1 h.2)
  · simp
theorem andE_len (l m : S) : (andE l m).length ≤ 1114113 := by
  unfold andE
  split
  · rename_i h; rw [Bool.and_eq_true] at h; exact right_len (andS_right h.1 h.2)
  · simp
theorem minusE_len (l m : S) : (minusE l m).length ≤ 1114113 := by
  unfold minusE
  split
  · rename_i h; rw [Bool.and_eq_true] at h; exact right_len (minusS_right h.1 h.2)
  · simp
end Rs
-- WALK
set_option maxRecDepth 100000 in
set_option maxHeartbeats 8000000 in
theorem joins_calls (a b : Option Addr) (ca cb : Nat) (l m : Rs.S) (w : World) (ha : RdR w a l) (hb : RdR w b m) (na : a = none → l = [] ∧ ca = 0) (nb : b = none → m = [] ∧ cb = 0) (hla : l.length ≤ 9223372036854775807) (hlb : m.length ≤ 9223372036854775807) :
    Calls Tryz.prog 27 #[.slice a l.length ca, .slice b m.length cb] w fun e w' => e = .returned (.bool true) ∧ Below w.heap.size w w' := by
  have HAB := Lib.hid (show _ ∧ _ ∧ _ ∧ _ from ⟨ha, hb, na, nb⟩)
  clear ha hb na nb
  by_cases hbig : 40 < l.length ∨ 40 < m.length
  · rcases (show 40 < l.length ∨ (l.length ≤ 40 ∧ 40 < m.length) by omega) with h1 | ⟨h1, h2⟩
    all_goals
      clear hbig
      go_enter Tryz.func27, Tryz.ntmps27
      go_wp2
      go_ret
      exact ⟨rfl, Below.refl _ _⟩
  · have hl40 : l.length ≤ 40 := by omega
    have hm40 : m.length ≤ 40 := by omega
    clear hbig hla hlb
    have LO := Lib.hid (Rs.orE_len l m)
    have LN := Lib.hid (Rs.andE_len l m)
    have LM := Lib.hid (Rs.minusE_len l m)
    have HB := Lib.hid (Below.refl w.heap.size w)
    go_enter Tryz.func27, Tryz.ntmps27
    go_wp2_with fail
    go_at_call 39
    have hcall := cloneR_calls a ca l w HAB.out.1 HAB.out.2.2.1 (by omega)
    refine hcall.mono ?_
    clear hcall
    rintro e w1 ⟨v, rfl, hown, hb⟩
    obtain ⟨aX, cX, rfl, hs, hbk⟩ := own_all hown
    have HZ1 : Hid (w.heap.size ≤ w1.heap.size) := Lib.hid hb.size
    replace HB := Lib.hid (Bthen HB.out hb)
    have HsX := Lib.hid hs
    have BkX : Hid (In aX w.heap.size w1.heap.size) := Lib.hid hbk
    clear hs hbk hown hb
    go_wp2_with fail
    go_at_call 39
    have hcall := cloneR_calls b cb m w1 (HAB.out.2.1.lift HB.out) HAB.out.2.2.2 (by omega)
    refine hcall.mono ?_
    clear hcall
    rintro e w2 ⟨v, rfl, hown, hb⟩
    obtain ⟨aY, cY, rfl, hs, hbk⟩ := own_all hown
    replace HsX := Lib.hid (HsX.out.below hb)
    have HZ2 : Hid (w1.heap.size ≤ w2.heap.size) := Lib.hid hb.size
    replace HB := Lib.hid (Bthen HB.out hb)
    have HsY := Lib.hid hs
    have BkY : Hid (In aY w1.heap.size w2.heap.size) := Lib.hid hbk
    clear hs hbk hown hb
    go_wp2_with fail
    go_at_call 46
    have hcall := theirsR_calls a ca l w2 (HAB.out.1.lift HB.out) (by omega)
    refine hcall.mono ?_
    clear hcall
    rintro e w3 ⟨v, rfl, hown, hb⟩
    obtain ⟨aP, cP, rfl, hs, hbk⟩ := own_all hown
    replace HsX := Lib.hid (HsX.out.below hb)
    replace HsY := Lib.hid (HsY.out.below hb)
    have HZ3 : Hid (w2.heap.size ≤ w3.heap.size) := Lib.hid hb.size
    replace HB := Lib.hid (Bthen HB.out hb)
    have HsP := Lib.hid hs
    have BkP : Hid (In aP w2.heap.size w3.heap.size) := Lib.hid hbk
    clear hs hbk hown hb
    go_wp2_with fail
    go_at_call 46
    have hcall := theirsR_calls b cb m w3 (HAB.out.2.1.lift HB.out) (by omega)
    refine hcall.mono ?_
    clear hcall
    rintro e w4 ⟨v, rfl, hown, hb⟩
    obtain ⟨aQ, cQ, rfl, hs, hbk⟩ := own_all hown
    replace HsX := Lib.hid (HsX.out.below hb)
    replace HsY := Lib.hid (HsY.out.below hb)
    replace HsP := Lib.hid (HsP.out.below hb)
    have HZ4 : Hid (w3.heap.size ≤ w4.heap.size) := Lib.hid hb.size
    replace HB := Lib.hid (Bthen HB.out hb)
    have HsQ := Lib.hid hs
    have BkQ : Hid (In aQ w3.heap.size w4.heap.size) := Lib.hid hbk
    clear hs hbk hown hb
    go_wp2_with fail
    go_at_call 36
    have hcall := Or_calls aX aY cX cY l m w4 HsX.out HsY.out (by omega) (by omega)
    refine hcall.mono ?_
    clear hcall
    rintro e w5 ⟨v, rfl, hown, hb⟩
    obtain ⟨aO, cO, rfl, hs, hbk⟩ := own_all hown
    replace HsX := Lib.hid (HsX.out.below hb)
    replace HsY := Lib.hid (HsY.out.below hb)
    replace HsP := Lib.hid (HsP.out.below hb)
    replace HsQ := Lib.hid (HsQ.out.below hb)
    have HZ5 : Hid (w4.heap.size ≤ w5.heap.size) := Lib.hid hb.size
    replace HB := Lib.hid (Bthen HB.out hb)
    have HsO := Lib.hid hs
    have BkO : Hid (In aO w4.heap.size w5.heap.size) := Lib.hid hbk
    have BlO := Lib.hid (own_blk hown)
    clear hs hbk hown hb
    go_wp2_with fail
    go_at_call 37
    have hcall := And_calls aX aY cX cY l m w5 HsX.out HsY.out (by omega) (by omega)
    refine hcall.mono ?_
    clear hcall
    rintro e w6 ⟨v, rfl, hown, hb⟩
    obtain ⟨aN, cN, rfl, hs, hbk⟩ := own_all hown
    replace HsX := Lib.hid (HsX.out.below hb)
    replace HsY := Lib.hid (HsY.out.below hb)
    replace HsP := Lib.hid (HsP.out.below hb)
    replace HsQ := Lib.hid (HsQ.out.below hb)
    replace HsO := Lib.hid (HsO.out.below hb)
    replace BlO := Lib.hid (fun hne => by obtain ⟨g, e, h⟩ := BlO.out hne; exact (⟨g, e, h.below hb⟩ : ∃ g, aO = some ⟨g, 0, none⟩ ∧ Blk w6 g _))
    have HZ6 : Hid (w5.heap.size ≤ w6.heap.size) := Lib.hid hb.size
    replace HB := Lib.hid (Bthen HB.out hb)
    have HsN := Lib.hid hs
    have BkN : Hid (In aN w5.heap.size w6.heap.size) := Lib.hid hbk
    have BlN := Lib.hid (own_blk hown)
    clear hs hbk hown hb
    go_wp2_with fail
    go_at_call 38
    have hcall := Minus_calls aX aY cX cY l m w6 HsX.out HsY.out (by omega) (by omega)
    refine hcall.mono ?_
    clear hcall
    rintro e w7 ⟨v, rfl, hown, hb⟩
    obtain ⟨aM, cM, rfl, hs, hbk⟩ := own_all hown
    replace HsX := Lib.hid (HsX.out.below hb)
    replace HsY := Lib.hid (HsY.out.below hb)
    replace HsP := Lib.hid (HsP.out.below hb)
    replace HsQ := Lib.hid (HsQ.out.below hb)
    replace HsO := Lib.hid (HsO.out.below hb)
    replace HsN := Lib.hid (HsN.out.below hb)
    replace BlO := Lib.hid (fun hne => by obtain ⟨g, e, h⟩ := BlO.out hne; exact (⟨g, e, h.below hb⟩ : ∃ g, aO = some ⟨g, 0, none⟩ ∧ Blk w7 g _))
    replace BlN := Lib.hid (fun hne => by obtain ⟨g, e, h⟩ := BlN.out hne; exact (⟨g, e, h.below hb⟩ : ∃ g, aN = some ⟨g, 0, none⟩ ∧ Blk w7 g _))
    have HZ7 : Hid (w6.heap.size ≤ w7.heap.size) := Lib.hid hb.size
    replace HB := Lib.hid (Bthen HB.out hb)
    have HsM := Lib.hid hs
    have BkM : Hid (In aM w6.heap.size w7.heap.size) := Lib.hid hbk
    have BlM := Lib.hid (own_blk hown)
    clear hs hbk hown hb
    go_wp2_with fail
    go_at_call 69
    have hcall := refOr_calls aP aQ cP cQ l m w7 HsP.out HsQ.out (by omega) (by omega)
    refine hcall.mono ?_
    clear hcall
    rintro e w8 h
    obtain ⟨v, rfl, hown, hb⟩ := h
    obtain ⟨aRO, cRO, rfl, hs, hbk⟩ := own_all hown
    replace HsX := Lib.hid (HsX.out.below hb)
    replace HsY := Lib.hid (HsY.out.below hb)
    replace HsP := Lib.hid (HsP.out.below hb)
    replace HsQ := Lib.hid (HsQ.out.below hb)
    replace HsO := Lib.hid (HsO.out.below hb)
    replace HsN := Lib.hid (HsN.out.below hb)
    replace HsM := Lib.hid (HsM.out.below hb)
    replace BlO := Lib.hid (fun hne => by obtain ⟨g, e, h⟩ := BlO.out hne; exact (⟨g, e, h.below hb⟩ : ∃ g, aO = some ⟨g, 0, none⟩ ∧ Blk w8 g _))
    replace BlN := Lib.hid (fun hne => by obtain ⟨g, e, h⟩ := BlN.out hne; exact (⟨g, e, h.below hb⟩ : ∃ g, aN = some ⟨g, 0, none⟩ ∧ Blk w8 g _))
    replace BlM := Lib.hid (fun hne => by obtain ⟨g, e, h⟩ := BlM.out hne; exact (⟨g, e, h.below hb⟩ : ∃ g, aM = some ⟨g, 0, none⟩ ∧ Blk w8 g _))
    have HZ8 : Hid (w7.heap.size ≤ w8.heap.size) := Lib.hid hb.size
    replace HB := Lib.hid (Bthen HB.out hb)
    have HsRO := Lib.hid hs
    have BkRO : Hid (In aRO w7.heap.size w8.heap.size) := Lib.hid hbk
    clear hs hbk hown hb
    go_wp2_with fail
    go_at_call 70
    have hcall := refAnd_calls aP aQ cP cQ l m w8 HsP.out HsQ.out (by omega) (by omega)
    refine hcall.mono ?_
    clear hcall
    rintro e w9 h
    obtain ⟨v, rfl, hown, hb⟩ := h
    obtain ⟨aRN, cRN, rfl, hs, hbk⟩ := own_all hown
    replace HsX := Lib.hid (HsX.out.below hb)
    replace HsY := Lib.hid (HsY.out.below hb)
    replace HsP := Lib.hid (HsP.out.below hb)
    replace HsQ := Lib.hid (HsQ.out.below hb)
    replace HsO := Lib.hid (HsO.out.below hb)
    replace HsN := Lib.hid (HsN.out.below hb)
    replace HsM := Lib.hid (HsM.out.below hb)
    replace HsRO := Lib.hid (HsRO.out.below hb)
    replace BlO := Lib.hid (fun hne => by obtain ⟨g, e, h⟩ := BlO.out hne; exact (⟨g, e, h.below hb⟩ : ∃ g, aO = some ⟨g, 0, none⟩ ∧ Blk w9 g _))
    replace BlN := Lib.hid (fun hne => by obtain ⟨g, e, h⟩ := BlN.out hne; exact (⟨g, e, h.below hb⟩ : ∃ g, aN = some ⟨g, 0, none⟩ ∧ Blk w9 g _))
    replace BlM := Lib.hid (fun hne => by obtain ⟨g, e, h⟩ := BlM.out hne; exact (⟨g, e, h.below hb⟩ : ∃ g, aM = some ⟨g, 0, none⟩ ∧ Blk w9 g _))
    have HZ9 : Hid (w8.heap.size ≤ w9.heap.size) := Lib.hid hb.size
    replace HB := Lib.hid (Bthen HB.out hb)
    have HsRN := Lib.hid hs
    have BkRN : Hid (In aRN w8.heap.size w9.heap.size) := Lib.hid hbk
    clear hs hbk hown hb
    go_wp2_with fail
    go_at_call 71
    have hcall := refMinus_calls aP aQ cP cQ l m w9 HsP.out HsQ.out (by omega) (by omega)
    refine hcall.mono ?_
    clear hcall
    rintro e w10 h
    obtain ⟨v, rfl, hown, hb⟩ := h
    obtain ⟨aRM, cRM, rfl, hs, hbk⟩ := own_all hown
    replace HsX := Lib.hid (HsX.out.below hb)
    replace HsY := Lib.hid (HsY.out.below hb)
    replace HsP := Lib.hid (HsP.out.below hb)
    replace HsQ := Lib.hid (HsQ.out.below hb)
    replace HsO := Lib.hid (HsO.out.below hb)
    replace HsN := Lib.hid (HsN.out.below hb)
    replace HsM := Lib.hid (HsM.out.below hb)
    replace HsRO := Lib.hid (HsRO.out.below hb)
    replace HsRN := Lib.hid (HsRN.out.below hb)
    replace BlO := Lib.hid (fun hne => by obtain ⟨g, e, h⟩ := BlO.out hne; exact (⟨g, e, h.below hb⟩ : ∃ g, aO = some ⟨g, 0, none⟩ ∧ Blk w10 g _))
    replace BlN := Lib.hid (fun hne => by obtain ⟨g, e, h⟩ := BlN.out hne; exact (⟨g, e, h.below hb⟩ : ∃ g, aN = some ⟨g, 0, none⟩ ∧ Blk w10 g _))
    replace BlM := Lib.hid (fun hne => by obtain ⟨g, e, h⟩ := BlM.out hne; exact (⟨g, e, h.below hb⟩ : ∃ g, aM = some ⟨g, 0, none⟩ ∧ Blk w10 g _))
    have HZ10 : Hid (w9.heap.size ≤ w10.heap.size) := Lib.hid hb.size
    replace HB := Lib.hid (Bthen HB.out hb)
    have HsRM := Lib.hid hs
    have BkRM : Hid (In aRM w9.heap.size w10.heap.size) := Lib.hid hbk
    clear hs hbk hown hb
    go_wp2_with fail
    go_at_call 44
    have hcall := same_true aO aRO cO cRO _ (Rs.err (Rs.right l && Rs.right m)) w10 HsO.out HsRO.out (by have := LO.out; omega)
    refine hcall.mono ?_
    clear hcall
    rintro e w11 ⟨rfl, hb⟩
    replace HsX := Lib.hid (HsX.out.below hb)
    replace HsY := Lib.hid (HsY.out.below hb)
    replace HsP := Lib.hid (HsP.out.below hb)
    replace HsQ := Lib.hid (HsQ.out.below hb)
    replace HsO := Lib.hid (HsO.out.below hb)
    replace HsN := Lib.hid (HsN.out.below hb)
    replace HsM := Lib.hid (HsM.out.below hb)
    replace HsRO := Lib.hid (HsRO.out.below hb)
    replace HsRN := Lib.hid (HsRN.out.below hb)
    replace HsRM := Lib.hid (HsRM.out.below hb)
    replace BlO := Lib.hid (fun hne => by obtain ⟨g, e, h⟩ := BlO.out hne; exact (⟨g, e, h.below hb⟩ : ∃ g, aO = some ⟨g, 0, none⟩ ∧ Blk w11 g _))
    replace BlN := Lib.hid (fun hne => by obtain ⟨g, e, h⟩ := BlN.out hne; exact (⟨g, e, h.below hb⟩ : ∃ g, aN = some ⟨g, 0, none⟩ ∧ Blk w11 g _))
    replace BlM := Lib.hid (fun hne => by obtain ⟨g, e, h⟩ := BlM.out hne; exact (⟨g, e, h.below hb⟩ : ∃ g, aM = some ⟨g, 0, none⟩ ∧ Blk w11 g _))
    have HZ11 : Hid (w10.heap.size ≤ w11.heap.size) := Lib.hid hb.size
    replace HB := Lib.hid (Bthen HB.out hb)
    clear hb
    go_wp2_with fail
    go_at_call 44
    have hcall := same_true aN aRN cN cRN _ (Rs.err (Rs.right l && Rs.right m)) w11 HsN.out HsRN.out (by have := LN.out; omega)
    refine hcall.mono ?_
    clear hcall
    rintro e w12 ⟨rfl, hb⟩
    replace HsX := Lib.hid (HsX.out.below hb)
    replace HsY := Lib.hid (HsY.out.below hb)
    replace HsP := Lib.hid (HsP.out.below hb)
    replace HsQ := Lib.hid (HsQ.out.below hb)
    replace HsO := Lib.hid (HsO.out.below hb)
    replace HsN := Lib.hid (HsN.out.below hb)
    replace HsM := Lib.hid (HsM.out.below hb)
    replace HsRO := Lib.hid (HsRO.out.below hb)
    replace HsRN := Lib.hid (HsRN.out.below hb)
    replace HsRM := Lib.hid (HsRM.out.below hb)
    replace BlO := Lib.hid (fun hne => by obtain ⟨g, e, h⟩ := BlO.out hne; exact (⟨g, e, h.below hb⟩ : ∃ g, aO = some ⟨g, 0, none⟩ ∧ Blk w12 g _))
    replace BlN := Lib.hid (fun hne => by obtain ⟨g, e, h⟩ := BlN.out hne; exact (⟨g, e, h.below hb⟩ : ∃ g, aN = some ⟨g, 0, none⟩ ∧ Blk w12 g _))
    replace BlM := Lib.hid (fun hne => by obtain ⟨g, e, h⟩ := BlM.out hne; exact (⟨g, e, h.below hb⟩ : ∃ g, aM = some ⟨g, 0, none⟩ ∧ Blk w12 g _))
    have HZ12 : Hid (w11.heap.size ≤ w12.heap.size) := Lib.hid hb.size
    replace HB := Lib.hid (Bthen HB.out hb)
    clear hb
    go_wp2_with fail
    go_at_call 44
    have hcall := same_true aM aRM cM cRM _ (Rs.err (Rs.right l && Rs.right m)) w12 HsM.out HsRM.out (by have := LM.out; omega)
    refine hcall.mono ?_
    clear hcall
    rintro e w13 ⟨rfl, hb⟩
    replace HsX := Lib.hid (HsX.out.below hb)
    replace HsY := Lib.hid (HsY.out.below hb)
    replace HsP := Lib.hid (HsP.out.below hb)
    replace HsQ := Lib.hid (HsQ.out.below hb)
    replace HsO := Lib.hid (HsO.out.below hb)
    replace HsN := Lib.hid (HsN.out.below hb)
    replace HsM := Lib.hid (HsM.out.below hb)
    replace HsRO := Lib.hid (HsRO.out.below hb)
    replace HsRN := Lib.hid (HsRN.out.below hb)
    replace HsRM := Lib.hid (HsRM.out.below hb)
    replace BlO := Lib.hid (fun hne => by obtain ⟨g, e, h⟩ := BlO.out hne; exact (⟨g, e, h.below hb⟩ : ∃ g, aO = some ⟨g, 0, none⟩ ∧ Blk w13 g _))
    replace BlN := Lib.hid (fun hne => by obtain ⟨g, e, h⟩ := BlN.out hne; exact (⟨g, e, h.below hb⟩ : ∃ g, aN = some ⟨g, 0, none⟩ ∧ Blk w13 g _))
    replace BlM := Lib.hid (fun hne => by obtain ⟨g, e, h⟩ := BlM.out hne; exact (⟨g, e, h.below hb⟩ : ∃ g, aM = some ⟨g, 0, none⟩ ∧ Blk w13 g _))
    have HZ13 : Hid (w12.heap.size ≤ w13.heap.size) := Lib.hid hb.size
    replace HB := Lib.hid (Bthen HB.out hb)
    clear hb
    go_wp2_with fail
    go_at_call 47
    have hcall := spoil1 aO cO (Rs.orE l m) 25 w13 (fun p e => (HsO.out.sp p e).2) BlO.out (by have := LO.out; omega)
    refine hcall.mono ?_
    clear hcall
    rintro e w14 ⟨rfl, hb⟩
    replace HsX := Lib.hid (hb.sl HsX.out (In.not BkX.out BkO.out (by have := HZ1.out; have := HZ2.out; have := HZ3.out; have := HZ4.out; have := HZ5.out; have := HZ6.out; have := HZ7.out; have := HZ8.out; have := HZ9.out; have := HZ10.out; have := HZ11.out; have := HZ12.out; have := HZ13.out; omega)))
    replace HsY := Lib.hid (hb.sl HsY.out (In.not BkY.out BkO.out (by have := HZ1.out; have := HZ2.out; have := HZ3.out; have := HZ4.out; have := HZ5.out; have := HZ6.out; have := HZ7.out; have := HZ8.out; have := HZ9.out; have := HZ10.out; have := HZ11.out; have := HZ12.out; have := HZ13.out; omega)))
    replace HsP := Lib.hid (hb.sl HsP.out (In.not BkP.out BkO.out (by have := HZ1.out; have := HZ2.out; have := HZ3.out; have := HZ4.out; have := HZ5.out; have := HZ6.out; have := HZ7.out; have := HZ8.out; have := HZ9.out; have := HZ10.out; have := HZ11.out; have := HZ12.out; have := HZ13.out; omega)))
    replace HsQ := Lib.hid (hb.sl HsQ.out (In.not BkQ.out BkO.out (by have := HZ1.out; have := HZ2.out; have := HZ3.out; have := HZ4.out; have := HZ5.out; have := HZ6.out; have := HZ7.out; have := HZ8.out; have := HZ9.out; have := HZ10.out; have := HZ11.out; have := HZ12.out; have := HZ13.out; omega)))
    replace HsN := Lib.hid (hb.sl HsN.out (In.not BkN.out BkO.out (by have := HZ1.out; have := HZ2.out; have := HZ3.out; have := HZ4.out; have := HZ5.out; have := HZ6.out; have := HZ7.out; have := HZ8.out; have := HZ9.out; have := HZ10.out; have := HZ11.out; have := HZ12.out; have := HZ13.out; omega)))
    replace HsM := Lib.hid (hb.sl HsM.out (In.not BkM.out BkO.out (by have := HZ1.out; have := HZ2.out; have := HZ3.out; have := HZ4.out; have := HZ5.out; have := HZ6.out; have := HZ7.out; have := HZ8.out; have := HZ9.out; have := HZ10.out; have := HZ11.out; have := HZ12.out; have := HZ13.out; omega)))
    replace HsRO := Lib.hid (hb.sl HsRO.out (In.not BkRO.out BkO.out (by have := HZ1.out; have := HZ2.out; have := HZ3.out; have := HZ4.out; have := HZ5.out; have := HZ6.out; have := HZ7.out; have := HZ8.out; have := HZ9.out; have := HZ10.out; have := HZ11.out; have := HZ12.out; have := HZ13.out; omega)))
    replace HsRN := Lib.hid (hb.sl HsRN.out (In.not BkRN.out BkO.out (by have := HZ1.out; have := HZ2.out; have := HZ3.out; have := HZ4.out; have := HZ5.out; have := HZ6.out; have := HZ7.out; have := HZ8.out; have := HZ9.out; have := HZ10.out; have := HZ11.out; have := HZ12.out; have := HZ13.out; omega)))
    replace HsRM := Lib.hid (hb.sl HsRM.out (In.not BkRM.out BkO.out (by have := HZ1.out; have := HZ2.out; have := HZ3.out; have := HZ4.out; have := HZ5.out; have := HZ6.out; have := HZ7.out; have := HZ8.out; have := HZ9.out; have := HZ10.out; have := HZ11.out; have := HZ12.out; have := HZ13.out; omega)))
    replace BlN := Lib.hid (fun hne => by obtain ⟨g, e, h⟩ := BlN.out hne; exact (⟨g, e, h.kept hb (In.not BkN.out BkO.out (by have := HZ1.out; have := HZ2.out; have := HZ3.out; have := HZ4.out; have := HZ5.out; have := HZ6.out; have := HZ7.out; have := HZ8.out; have := HZ9.out; have := HZ10.out; have := HZ11.out; have := HZ12.out; have := HZ13.out; omega) _ e)⟩ : ∃ g, aN = some ⟨g, 0, none⟩ ∧ Blk w14 g _))
    replace BlM := Lib.hid (fun hne => by obtain ⟨g, e, h⟩ := BlM.out hne; exact (⟨g, e, h.kept hb (In.not BkM.out BkO.out (by have := HZ1.out; have := HZ2.out; have := HZ3.out; have := HZ4.out; have := HZ5.out; have := HZ6.out; have := HZ7.out; have := HZ8.out; have := HZ9.out; have := HZ10.out; have := HZ11.out; have := HZ12.out; have := HZ13.out; omega) _ e)⟩ : ∃ g, aM = some ⟨g, 0, none⟩ ∧ Blk w14 g _))
    have HZ14 : Hid (w13.heap.size ≤ w14.heap.size) := Lib.hid hb.size
    replace HB := Lib.hid (HB.out.trans (hb.toB (BkO.out.ge (by have := HZ1.out; have := HZ2.out; have := HZ3.out; have := HZ4.out; have := HZ5.out; have := HZ6.out; have := HZ7.out; have := HZ8.out; have := HZ9.out; have := HZ10.out; have := HZ11.out; have := HZ12.out; have := HZ13.out; omega)) (by have := HZ1.out; have := HZ2.out; have := HZ3.out; have := HZ4.out; have := HZ5.out; have := HZ6.out; have := HZ7.out; have := HZ8.out; have := HZ9.out; have := HZ10.out; have := HZ11.out; have := HZ12.out; have := HZ13.out; omega)))
    clear hb HsO BlO HsRO
    go_wp2_with fail
    go_at_call 44
    have hcall := same_true aN aRN cN cRN _ (Rs.err (Rs.right l && Rs.right m)) w14 HsN.out HsRN.out (by have := LN.out; omega)
    refine hcall.mono ?_
    clear hcall
    rintro e w15 ⟨rfl, hb⟩
    replace HsX := Lib.hid (HsX.out.below hb)
    replace HsY := Lib.hid (HsY.out.below hb)
    replace HsP := Lib.hid (HsP.out.below hb)
    replace HsQ := Lib.hid (HsQ.out.below hb)
    replace HsN := Lib.hid (HsN.out.below hb)
    replace HsM := Lib.hid (HsM.out.below hb)
    replace HsRN := Lib.hid (HsRN.out.below hb)
    replace HsRM := Lib.hid (HsRM.out.below hb)
    replace BlN := Lib.hid (fun hne => by obtain ⟨g, e, h⟩ := BlN.out hne; exact (⟨g, e, h.below hb⟩ : ∃ g, aN = some ⟨g, 0, none⟩ ∧ Blk w15 g _))
    replace BlM := Lib.hid (fun hne => by obtain ⟨g, e, h⟩ := BlM.out hne; exact (⟨g, e, h.below hb⟩ : ∃ g, aM = some ⟨g, 0, none⟩ ∧ Blk w15 g _))
    have HZ15 : Hid (w14.heap.size ≤ w15.heap.size) := Lib.hid hb.size
    replace HB := Lib.hid (Bthen HB.out hb)
    clear hb
    go_wp2_with fail
    go_at_call 44
    have hcall := same_true aM aRM cM cRM _ (Rs.err (Rs.right l && Rs.right m)) w15 HsM.out HsRM.out (by have := LM.out; omega)
    refine hcall.mono ?_
    clear hcall
    rintro e w16 ⟨rfl, hb⟩
    replace HsX := Lib.hid (HsX.out.below hb)
    replace HsY := Lib.hid (HsY.out.below hb)
    replace HsP := Lib.hid (HsP.out.below hb)
    replace HsQ := Lib.hid (HsQ.out.below hb)
    replace HsN := Lib.hid (HsN.out.below hb)
    replace HsM := Lib.hid (HsM.out.below hb)
    replace HsRN := Lib.hid (HsRN.out.below hb)
    replace HsRM := Lib.hid (HsRM.out.below hb)
    replace BlN := Lib.hid (fun hne => by obtain ⟨g, e, h⟩ := BlN.out hne; exact (⟨g, e, h.below hb⟩ : ∃ g, aN = some ⟨g, 0, none⟩ ∧ Blk w16 g _))
    replace BlM := Lib.hid (fun hne => by obtain ⟨g, e, h⟩ := BlM.out hne; exact (⟨g, e, h.below hb⟩ : ∃ g, aM = some ⟨g, 0, none⟩ ∧ Blk w16 g _))
    have HZ16 : Hid (w15.heap.size ≤ w16.heap.size) := Lib.hid hb.size
    replace HB := Lib.hid (Bthen HB.out hb)
    clear hb
    go_wp2_with fail
    go_at_call 47
    have hcall := spoil2 aN aM cN cM (Rs.andE l m) (Rs.minusE l m) 25 w16 (fun p e => (HsN.out.sp p e).2) (fun p e => (HsM.out.sp p e).2) BlN.out BlM.out (by have := LN.out; omega) (by have := LM.out; omega)
    refine hcall.mono ?_
    clear hcall
    rintro e w17 ⟨rfl, hb⟩
    replace HsX := Lib.hid (hb.sl HsX.out (fun p e hm => (List.mem_append.1 hm).elim (In.not BkX.out BkN.out (by have := HZ1.out; have := HZ2.out; have := HZ3.out; have := HZ4.out; have := HZ5.out; have := HZ6.out; have := HZ7.out; have := HZ8.out; have := HZ9.out; have := HZ10.out; have := HZ11.out; have := HZ12.out; have := HZ13.out; have := HZ14.out; have := HZ15.out; have := HZ16.out; omega) p e) (In.not BkX.out BkM.out (by have := HZ1.out; have := HZ2.out; have := HZ3.out; have := HZ4.out; have := HZ5.out; have := HZ6.out; have := HZ7.out; have := HZ8.out; have := HZ9.out; have := HZ10.out; have := HZ11.out; have := HZ12.out; have := HZ13.out; have := HZ14.out; have := HZ15.out; have := HZ16.out; omega) p e)))
    replace HsY := Lib.hid (hb.sl HsY.out (fun p e hm => (List.mem_append.1 hm).elim (In.not BkY.out BkN.out (by have := HZ1.out; have := HZ2.out; have := HZ3.out; have := HZ4.out; have := HZ5.out; have := HZ6.out; have := HZ7.out; have := HZ8.out; have := HZ9.out; have := HZ10.out; have := HZ11.out; have := HZ12.out; have := HZ13.out; have := HZ14.out; have := HZ15.out; have := HZ16.out; omega) p e) (In.not BkY.out BkM.out (by have := HZ1.out; have := HZ2.out; have := HZ3.out; have := HZ4.out; have := HZ5.out; have := HZ6.out; have := HZ7.out; have := HZ8.out; have := HZ9.out; have := HZ10.out; have := HZ11.out; have := HZ12.out; have := HZ13.out; have := HZ14.out; have := HZ15.out; have := HZ16.out; omega) p e)))
    replace HsP := Lib.hid (hb.sl HsP.out (fun p e hm => (List.mem_append.1 hm).elim (In.not BkP.out BkN.out (by have := HZ1.out; have := HZ2.out; have := HZ3.out; have := HZ4.out; have := HZ5.out; have := HZ6.out; have := HZ7.out; have := HZ8.out; have := HZ9.out; have := HZ10.out; have := HZ11.out; have := HZ12.out; have := HZ13.out; have := HZ14.out; have := HZ15.out; have := HZ16.out; omega) p e) (In.not BkP.out BkM.out (by have := HZ1.out; have := HZ2.out; have := HZ3.out; have := HZ4.out; have := HZ5.out; have := HZ6.out; have := HZ7.out; have := HZ8.out; have := HZ9.out; have := HZ10.out; have := HZ11.out; have := HZ12.out; have := HZ13.out; have := HZ14.out; have := HZ15.out; have := HZ16.out; omega) p e)))
    replace HsQ := Lib.hid (hb.sl HsQ.out (fun p e hm => (List.mem_append.1 hm).elim (In.not BkQ.out BkN.out (by have := HZ1.out; have := HZ2.out; have := HZ3.out; have := HZ4.out; have := HZ5.out; have := HZ6.out; have := HZ7.out; have := HZ8.out; have := HZ9.out; have := HZ10.out; have := HZ11.out; have := HZ12.out; have := HZ13.out; have := HZ14.out; have := HZ15.out; have := HZ16.out; omega) p e) (In.not BkQ.out BkM.out (by have := HZ1.out; have := HZ2.out; have := HZ3.out; have := HZ4.out; have := HZ5.out; have := HZ6.out; have := HZ7.out; have := HZ8.out; have := HZ9.out; have := HZ10.out; have := HZ11.out; have := HZ12.out; have := HZ13.out; have := HZ14.out; have := HZ15.out; have := HZ16.out; omega) p e)))
    replace HsRN := Lib.hid (hb.sl HsRN.out (fun p e hm => (List.mem_append.1 hm).elim (In.not BkRN.out BkN.out (by have := HZ1.out; have := HZ2.out; have := HZ3.out; have := HZ4.out; have := HZ5.out; have := HZ6.out; have := HZ7.out; have := HZ8.out; have := HZ9.out; have := HZ10.out; have := HZ11.out; have := HZ12.out; have := HZ13.out; have := HZ14.out; have := HZ15.out; have := HZ16.out; omega) p e) (In.not BkRN.out BkM.out (by have := HZ1.out; have := HZ2.out; have := HZ3.out; have := HZ4.out; have := HZ5.out; have := HZ6.out; have := HZ7.out; have := HZ8.out; have := HZ9.out; have := HZ10.out; have := HZ11.out; have := HZ12.out; have := HZ13.out; have := HZ14.out; have := HZ15.out; have := HZ16.out; omega) p e)))
    replace HsRM := Lib.hid (hb.sl HsRM.out (fun p e hm => (List.mem_append.1 hm).elim (In.not BkRM.out BkN.out (by have := HZ1.out; have := HZ2.out; have := HZ3.out; have := HZ4.out; have := HZ5.out; have := HZ6.out; have := HZ7.out; have := HZ8.out; have := HZ9.out; have := HZ10.out; have := HZ11.out; have := HZ12.out; have := HZ13.out; have := HZ14.out; have := HZ15.out; have := HZ16.out; omega) p e) (In.not BkRM.out BkM.out (by have := HZ1.out; have := HZ2.out; have := HZ3.out; have := HZ4.out; have := HZ5.out; have := HZ6.out; have := HZ7.out; have := HZ8.out; have := HZ9.out; have := HZ10.out; have := HZ11.out; have := HZ12.out; have := HZ13.out; have := HZ14.out; have := HZ15.out; have := HZ16.out; omega) p e)))
    have HZ17 : Hid (w16.heap.size ≤ w17.heap.size) := Lib.hid hb.size
    replace HB := Lib.hid (HB.out.trans (hb.toB (fun i hi => (List.mem_append.1 hi).elim (In.ge BkN.out (by have := HZ1.out; have := HZ2.out; have := HZ3.out; have := HZ4.out; have := HZ5.out; have := HZ6.out; have := HZ7.out; have := HZ8.out; have := HZ9.out; have := HZ10.out; have := HZ11.out; have := HZ12.out; have := HZ13.out; have := HZ14.out; have := HZ15.out; have := HZ16.out; omega) i) (In.ge BkM.out (by have := HZ1.out; have := HZ2.out; have := HZ3.out; have := HZ4.out; have := HZ5.out; have := HZ6.out; have := HZ7.out; have := HZ8.out; have := HZ9.out; have := HZ10.out; have := HZ11.out; have := HZ12.out; have := HZ13.out; have := HZ14.out; have := HZ15.out; have := HZ16.out; omega) i)) (by have := HZ1.out; have := HZ2.out; have := HZ3.out; have := HZ4.out; have := HZ5.out; have := HZ6.out; have := HZ7.out; have := HZ8.out; have := HZ9.out; have := HZ10.out; have := HZ11.out; have := HZ12.out; have := HZ13.out; have := HZ14.out; have := HZ15.out; have := HZ16.out; omega)))
    clear hb HsN HsM BlN BlM HsRN HsRM
    go_wp2_with fail
    go_at_call 18
    have hcall := eqR_calls aX a cX ca l l w17 HsX.out.rd (HAB.out.1.lift HB.out) (by omega)
    rw [show decide (l = l) = true from decide_eq_true rfl] at hcall
    refine hcall.mono ?_
    clear hcall
    rintro e w18 ⟨rfl, nX, rfl⟩
    have hb : Below w17.heap.size w17 (w17.drewN nX) := below_drewN (Below.refl _ _) _
    generalize w17.drewN nX = w18 at *
    replace HsX := Lib.hid (HsX.out.below hb)
    replace HsY := Lib.hid (HsY.out.below hb)
    replace HsP := Lib.hid (HsP.out.below hb)
    replace HsQ := Lib.hid (HsQ.out.below hb)
    have HZ18 : Hid (w17.heap.size ≤ w18.heap.size) := Lib.hid hb.size
    replace HB := Lib.hid (Bthen HB.out hb)
    clear hb
    go_wp2_with fail
    go_at_call 18
    have hcall := eqR_calls aY b cY cb m m w18 HsY.out.rd (HAB.out.2.1.lift HB.out) (by omega)
    rw [show decide (m = m) = true from decide_eq_true rfl] at hcall
    refine hcall.mono ?_
    clear hcall
    rintro e w19 ⟨rfl, nY, rfl⟩
    have hb : Below w18.heap.size w18 (w18.drewN nY) := below_drewN (Below.refl _ _) _
    generalize w18.drewN nY = w19 at *
    replace HsX := Lib.hid (HsX.out.below hb)
    replace HsY := Lib.hid (HsY.out.below hb)
    replace HsP := Lib.hid (HsP.out.below hb)
    replace HsQ := Lib.hid (HsQ.out.below hb)
    have HZ19 : Hid (w18.heap.size ≤ w19.heap.size) := Lib.hid hb.size
    replace HB := Lib.hid (Bthen HB.out hb)
    clear hb
    go_wp2_with fail
    go_ret
    exact ⟨rfl, HB.out⟩
set_option maxRecDepth 100000 in
set_option maxHeartbeats 2000000 in
theorem ClassJoins_calls (a b : Option Addr) (ca cb : Nat) (l m : Rs.S) (w : World) (hL : Lv w) (ha : RdR w a l) (hb : RdR w b m) (na : a = none → l = [] ∧ ca = 0) (nb : b = none → m = [] ∧ cb = 0) (hla : l.length ≤ maxLen) (hlb : m.length ≤ maxLen) :
    Calls Tryz.prog 8 #[.slice a l.length ca, .slice b m.length cb] w fun e w' => e = .returned (.bool true) ∧ Below w.heap.size w w' := by
  have hj := joins_calls a b ca cb l m w ha hb na nb (by unfold maxLen at hla; omega) (by unfold maxLen at hlb; omega)
  have HL := Lib.hid hL
  clear hL ha hb na nb hla hlb
  go_enter Tryz.func8, Tryz.ntmps8
  go_wp2_with fail
  go_at_call 27
  refine hj.mono ?_
  clear hj
  rintro e w1 ⟨rfl, hb⟩
  have HB := Lib.hid hb
  clear hb
  go_wp2_with fail
  go_at_call 14
  refine (awake_calls w1 (HL.out.below HB.out)).mono ?_
  rintro e w2 ⟨rfl, hb⟩
  replace HB := Lib.hid (Bthen HB.out hb)
  clear hb
  go_wp2_with fail
  go_ret
  exact ⟨rfl, HB.out⟩
end Go.Proofs.YtkjilodmmcefbaaGreatDoor
