/- Chapter 38's sink: Append's look at its entries. -/
import Derived.Test.YtiooimdncocfdaaGreatDoorKsA
import Derived.Laws.EntriesVeiled
namespace Go.Proofs.YtiooimdncocfdaaGreatDoor.Sk
open Go Go.RowKit
/-- Append's function values: the key lies in block B0, the function that makes items in block B1 -/
structure Clo (w : World) (B0 B1 : Nat) (key : ByteArray) : Prop where
  c0 : w.cell? ⟨B0, 0, none⟩ = some (.string key)
  c1 : w.cell? ⟨B1, 0, none⟩ = some (.func (Fn.func 88) #[] #[.pointer (some ⟨B0, 0, none⟩)])
  l0 : B0 < w.heap.size
  l1 : B1 < w.heap.size
theorem Clo.below {B : Nat} {w w' : World} {B0 B1 : Nat} {key : ByteArray} (h : Clo w B0 B1 key) (hb : Below B w w') (hB : w.heap.size ≤ B) : Clo w' B0 B1 key :=
  ⟨(hb.cell (p := ⟨B0, 0, none⟩) (Nat.lt_of_lt_of_le h.l0 hB)).trans h.c0, (hb.cell (p := ⟨B1, 0, none⟩) (Nat.lt_of_lt_of_le h.l1 hB)).trans h.c1, Nat.lt_of_lt_of_le h.l0 hb.size, Nat.lt_of_lt_of_le h.l1 hb.size⟩
set_option maxRecDepth 100000 in
set_option maxHeartbeats 1000000 in
theorem isnot_calls (B0 B1 : Nat) (key : ByteArray) (x : SE) (w : World) (h : Clo w B0 B1 key) (hv : Kv w) (hk : key.size ≤ 1000000) (hl : Ll w x.la x.lc x.e.lab) (hn : x.e.lab.length ≤ 1000000000) (hsz : ∀ y ∈ x.e.lab, y.2.size ≤ 4611686018427387904) :
    Calls Tryz.prog 90 #[.agg #[.slice x.la x.e.lab.length x.lc, .bool x.e.mark, .int .u64 x.e.bits, .bool x.e.st, .int .i64 x.e.time, .int .i64 x.e.stamp], .pointer (some ⟨B1, 0, none⟩)] w
      fun e w' => e = .returned (.bool (!itemRight (d key) x.e)) ∧ Below w.heap.size w w' := by
  have H := Lib.hid (And.intro h (And.intro hv (And.intro hl hsz)))
  have c1 := h.c1
  have l1 := h.l1
  clear h hv hl hsz
  go_enter Tryz.func90, Tryz.ntmps90
  go_wp2_with fail
  go_at_call 88
  refine (item_calls B0 key x _ ((H.out.1.below ((Below.refl _ _).alloc (Nat.le_refl _) _) (Nat.le_refl _)).c0) (by have := H.out.1.l0; simp; omega)).mono ?_
  rintro e w1 ⟨rfl, hb1⟩
  have HB1 : Hid (Below w.heap.size w w1) := Lib.hid (((Below.refl _ _).alloc (Nat.le_refl _) _).trans (hb1.mono (by simp)))
  clear hb1
  go_wp2_with fail
  go_at_call 54
  refine (sright_calls key x.la x.lc x.e _ hk (H.out.2.2.1.rd.below HB1.out (Nat.le_refl _)) hn H.out.2.2.2 (H.out.2.1.below HB1.out (Nat.le_refl _))).mono ?_
  rintro e w2 ⟨rfl, hb2⟩
  have HB2 := Lib.hid (Bthen HB1.out hb2)
  clear hb2
  obtain ⟨q, hq⟩ : ∃ q, q = itemRight (d key) x.e := ⟨_, rfl⟩
  rw [← hq]
  have HQ := Lib.hid hq
  clear hq
  go_wp2
  go_ret
  exact ⟨ret_bool (by rw [← HQ.out]), HB2.out⟩
def entRight (key : ByteArray) (l : List SE) : Bool := l.all fun x => itemRight (d key) x.e
structure EsOk (w : World) (l : List SE) : Prop where
  ln : ∀ x ∈ l, x.e.lab.length ≤ 1000000000
  sz : ∀ x ∈ l, ∀ y ∈ x.e.lab, y.2.size ≤ 4611686018427387904
theorem all_take_succ {key : ByteArray} {l : List SE} {k : Nat} {x : SE} (h : l[k]? = some x) : entRight key (l.take (k + 1)) = (entRight key (l.take k) && itemRight (d key) x.e) := by
  have : l.take (k + 1) = l.take k ++ [x] := by rw [List.take_add_one, h]; rfl
  unfold entRight
  rw [this, List.all_append]
  simp
theorem all_no {key : ByteArray} {l : List SE} {k : Nat} {x : SE} (h : l[k]? = some x) (hx : itemRight (d key) x.e = false) : entRight key l = false := by
  unfold entRight
  rw [List.all_eq_false]
  exact ⟨x, List.mem_of_getElem? h, by simp [hx]⟩
set_option maxRecDepth 100000 in
set_option maxHeartbeats 2000000 in
theorem index_calls (B0 B1 : Nat) (key : ByteArray) (a : Option Addr) (c : Nat) (l : List SE) (w : World) (h : Clo w B0 B1 key) (hv : Kv w) (hk : key.size ≤ 1000000) (hl : RdE w a l) (ho : EsOk w l) (hn : l.length ≤ 1000000000) :
    Calls Tryz.prog 152 #[.slice a l.length c, .func (Fn.func 90) #[] #[.pointer (some ⟨B1, 0, none⟩)]] w
      fun e w' => (∃ i : Int, e = .returned (.int .i64 i) ∧ decide (0 ≤ i) = !entRight key l) ∧ Below w.heap.size w w' := by
  have H := Lib.hid (And.intro h (And.intro hv (And.intro hl ho)))
  clear h hv hl ho
  go_enter Tryz.func152, Tryz.ntmps152
  go_wp2
  go_loopw [8] (fun i wr => ∃ k : Nat, k ≤ l.length ∧ i = .int .i64 k ∧ entRight key (l.take k) = true ∧ Below w.heap.size w wr) (fun i _ => l.length - (intOf i).toNat)
  case atStart => exact ⟨0, Nat.zero_le _, rfl, rfl, Below.refl _ _⟩
  case round =>
    obtain ⟨k, hkl, rfl, hr, hb⟩ := hrel
    have hbs := hb.size
    have HR := Lib.hid hr
    have HB := Lib.hid hb
    clear hr hb
    by_cases hlt : k < l.length
    · obtain ⟨x, hx⟩ : ∃ x, l[k]? = some x := ⟨_, List.getElem?_eq_getElem hlt⟩
      obtain ⟨b, off, rfl, hbl, ht, hc⟩ := (H.out.2.2.1.below HB.out (Nat.le_refl _)).at_ hx
      have hxm := List.mem_of_getElem? hx
      have HX := Lib.hid (And.intro hx hxm)
      have c0 := hc 0 _ rfl
      rw [Nat.add_zero] at c0
      have c1 := hc 1 _ rfl
      have c2 := hc 2 _ rfl
      have c3 := hc 3 _ rfl
      have c4 := hc 4 _ rfl
      have c5 := hc 5 _ rfl
      clear hc hx hxm ht
      go_wp2_with fail
      go_at_call 90
      refine (isnot_calls B0 B1 key x _ (H.out.1.below HB.out (Nat.le_refl _)) (H.out.2.1.below HB.out (Nat.le_refl _)) hk ((H.out.2.2.1.lab x HX.out.2).below HB.out (Nat.le_refl _)) (H.out.2.2.2.ln x HX.out.2) (H.out.2.2.2.sz x HX.out.2)).mono ?_
      rintro e w1 ⟨rfl, hb1⟩
      have HB1 := Lib.hid (Bthen HB.out hb1)
      clear hb1 c0 c1 c2 c3 c4 c5
      rcases (show itemRight (d key) x.e = true ∨ itemRight (d key) x.e = false by cases itemRight (d key) x.e <;> simp) with hi | hi
      · have HI := Lib.hid hi
        rw [hi]
        clear hi
        have HR2 : Hid (entRight key (l.take (k + 1)) = true) := Lib.hid (by rw [all_take_succ HX.out.1, HR.out, HI.out]; rfl)
        go_wp2
        go_roundw
        case rel => exact ⟨k + 1, by omega, by go_num, HR2.out, HB1.out⟩
        case measure => simp [intOf]; omega
      · have HI := Lib.hid hi
        rw [hi]
        clear hi
        have HR2 : Hid (entRight key l = false) := Lib.hid (all_no HX.out.1 HI.out)
        go_wp2
        go_ret
        exact ⟨⟨k, rfl, by rw [HR2.out]; simp⟩, HB1.out⟩
    · have HR2 : Hid (entRight key l = true) := Lib.hid (by have := HR.out; rwa [List.take_of_length_le (by omega)] at this)
      go_wp2
      go_ret
      exact ⟨⟨-1, rfl, by rw [HR2.out]; rfl⟩, HB.out⟩
set_option maxRecDepth 100000 in
theorem contains_calls (B0 B1 : Nat) (key : ByteArray) (a : Option Addr) (c : Nat) (l : List SE) (w : World) (h : Clo w B0 B1 key) (hv : Kv w) (hk : key.size ≤ 1000000) (hl : RdE w a l) (ho : EsOk w l) (hn : l.length ≤ 1000000000) :
    Calls Tryz.prog 89 #[.slice a l.length c, .func (Fn.func 90) #[] #[.pointer (some ⟨B1, 0, none⟩)]] w
      fun e w' => e = .returned (.bool (!entRight key l)) ∧ Below w.heap.size w w' := by
  go_enter Tryz.func89, Tryz.ntmps89
  go_wp2_with fail
  go_at_call 152
  refine (index_calls B0 B1 key a c l _ h hv hk hl ho hn).mono ?_
  rintro e w1 ⟨⟨i, rfl, hi⟩, hb⟩
  have HB := Lib.hid (And.intro hi hb)
  clear hi hb h hv hl ho
  go_wp2
  go_ret
  exact ⟨ret_bool HB.out.1, HB.out.2⟩
end Go.Proofs.YtiooimdncocfdaaGreatDoor.Sk
