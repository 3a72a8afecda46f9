/- Chapter 38's sink: Append whole, and Len. -/
import Derived.Test.YtiooimdncocfdaaGreatDoorKsD
namespace Go.Proofs.YtiooimdncocfdaaGreatDoor.Sk
open Go Go.RowKit
set_option maxRecDepth 100000 in
theorem append_no (w : World) {p base mb n : Nat} {v : Value} {l : List SI} (key : ByteArray) (a : Option Addr) (c : Nat) (es : List SE) (h : SinkAt w p base mb n v l) (hv : Kv w) (hk : key.size ≤ 1000000) (hl : RdE w a es) (ho : EsOk w es) (hn : es.length ≤ 1000000) (hall : entRight key es = false) :
    Calls Tryz.prog 35 #[.pointer (some ⟨p, 0, none⟩), .string key, .slice a es.length c] w (AppPost w p base mb v l (es.map (toIt key))) := by
  have HR := Lib.hid (And.intro h (And.intro hv hl))
  have hp : p < w.heap.size := (Array.getElem?_eq_some_iff.1 h.cells).1
  have HA := Lib.hid hall
  have HEO := Lib.hid ho
  clear h hv hl hall ho
  go_enter Tryz.func35, Tryz.ntmps35
  go_wp2_with fail
  go_at_call 87
  refine (none_cell _ (mb := mb) (by rw [World.cell?_alloc_lt _ _ _ (by simpa using hp)]; simp [World.cell?, HR.out.1.cells])).mono ?_
  rintro e w1 ⟨rfl, rfl⟩
  go_wp2_with fail
  go_at_call 89
  obtain ⟨w1, hw1⟩ : ∃ w1, (w.alloc (.cells #[.string key] 9)).alloc (.cells #[.func (Fn.func 88) #[] #[.pointer (some ⟨w.heap.size, 0, none⟩)]] 145) = w1 := ⟨_, rfl⟩
  have hb1 : Below w.heap.size w w1 := by rw [← hw1]; exact ((Below.refl _ _).alloc (Nat.le_refl _) _).alloc (by simp) _
  have hs1 : w1.heap.size = w.heap.size + 2 := by rw [← hw1]; simp
  have hcl : Clo w1 w.heap.size (w.heap.size + 1) key := by
    refine ⟨?_, ?_, by omega, by omega⟩
    · rw [← hw1, World.cell?_alloc_lt _ _ _ (by simp)]
      exact new_cell _ _ _ _ _ rfl
    · rw [← hw1]
      simp
  rw [hw1]
  refine (contains_calls w.heap.size (w.heap.size + 1) key a c es w1 hcl (HR.out.2.1.below hb1 (Nat.le_refl _)) hk (HR.out.2.2.below hb1 (Nat.le_refl _)) ⟨HEO.out.ln, HEO.out.sz⟩ (by omega)).mono ?_
  rintro e w2 ⟨rfl, hb2⟩
  rw [HA.out]
  have HB2 := Lib.hid (Bthen hb1 hb2)
  clear hb2 hb1 hw1 hcl
  go_wp2_with fail
  go_ret
  refine AppPost.no HR.out.1 HB2.out (er := 380) ?_ (by decide) rfl
  unfold appErr
  rw [if_neg (by rw [all_it, HA.out]; decide)]
theorem append_calls (w : World) {p base mb n : Nat} {v : Value} {l : List SI} (key : ByteArray) (a : Option Addr) (c : Nat) (es : List SE) (h : SinkAt w p base mb n v l) (hv : Kv w) (hk : key.size ≤ 1000000) (hl : RdE w a es) (ho : EsOk w es) (hn : es.length ≤ 1000000) :
    Calls Tryz.prog 35 #[.pointer (some ⟨p, 0, none⟩), .string key, .slice a es.length c] w (AppPost w p base mb v l (es.map (toIt key))) := by
  cases e : entRight key es with
  | true => exact append_ok w key a c es h hv hk hl hn e
  | false => exact append_no w key a c es h hv hk hl ho hn e
theorem len_calls (w : World) {p base mb n : Nat} {v : Value} {l : List SI} (h : SinkAt w p base mb n v l) :
    Calls Tryz.prog 42 #[.pointer (some ⟨p, 0, none⟩)] w fun e w' => e = .returned (.int .i64 l.length) ∧ w = w' := by
  have c1 : w.cell? ⟨p, 1, none⟩ = some (.map (some mb)) := by simp [World.cell?, h.cells]
  have c0 : w.cell? ⟨p, 0, none⟩ = some v := by simp [World.cell?, h.cells]
  obtain ⟨va, vc, rfl⟩ := own_form h.own
  clear h
  go_enter Tryz.func42, Tryz.ntmps42
  go_wp2_with fail
  go_at_call 87
  refine (none_cell _ (mb := mb) c1).mono ?_
  rintro e w1 ⟨rfl, rfl⟩
  go_wp2
  go_ret
  exact ⟨rfl, rfl⟩
end Go.Proofs.YtiooimdncocfdaaGreatDoor.Sk
