/- Chapter 38: the law's one, sample, marker; the reference's Right at one label. -/
import Derived.Test.YtiooimdncocfdaaGreatDoorKxB
import Derived.Test.YtiooimdncocfdaaGreatDoorKsE
namespace Go.Proofs.YtiooimdncocfdaaGreatDoor.Sk
open Go Go.RowKit
set_option maxRecDepth 100000 in
theorem rright_calls (nm vl : ByteArray) (c : UInt8) (hn : Sb nm 97) (hv : Sb vl c) (b off cap : Nat) (w : World) (c0 : w.cell? ⟨b, off, none⟩ = some (.string nm)) (c1 : w.cell? ⟨b, off + 1, none⟩ = some (.string vl)) (hb : b < w.heap.size) :
    Calls Tryz.prog 149 #[.slice (some ⟨b, off, none⟩) 1 cap] w fun e w' => e = .returned (.bool true) ∧ Below w.heap.size w w' := by
  have HC := Lib.hid (rcheck_calls nm vl c hn hv b off cap w c0 c1 hb)
  clear hn hv c0 c1
  go_enter Tryz.func149, Tryz.ntmps149
  go_wp2_with fail
  go_at_call 200
  refine HC.out.mono ?_
  rintro e w1 ⟨rfl, hb1⟩
  go_wp2
  go_ret
  exact ⟨rfl, hb1⟩
def oneW (w : World) (nm vl : ByteArray) : World := (w.alloc (.cells #[.string nm, .string vl] 165))
set_option maxRecDepth 100000 in
theorem lone_calls (nm vl : ByteArray) (w : World) : Calls Tryz.prog 55 #[.string nm, .string vl] w fun e w' => e = .returned (.slice (some ⟨w.heap.size, 0, none⟩) 1 1) ∧ w' = oneW w nm vl := by
  go_enter Tryz.func55, Tryz.ntmps55
  go_wp2
  go_ret
  exact ⟨rfl, rfl⟩
theorem oneW_below (w : World) (nm vl : ByteArray) : Below w.heap.size w (oneW w nm vl) := (Below.refl _ _).alloc (Nat.le_refl _) _
theorem oneW_ll (w : World) (nm vl : ByteArray) : Ll (oneW w nm vl) (some ⟨w.heap.size, 0, none⟩) 1 [(nm, vl)] := by
  refine ⟨fun _ => ⟨w.heap.size, 0, rfl, ⟨_, _, heap_alloc_new w _⟩, fun i x hx => ?_⟩, fun h => by cases h⟩
  have hi := (List.getElem?_eq_some_iff.1 hx).1
  obtain rfl : i = 0 := by simpa using hi
  obtain rfl : x = (nm, vl) := by simpa using hx.symm
  exact ⟨new_cell w #[.string nm, .string vl] _ 0 _ rfl, new_cell w #[.string nm, .string vl] _ 1 _ rfl⟩
def xB : ByteArray := ⟨#[120]⟩
def oneB : ByteArray := ⟨#[49]⟩
/-- an entry of x=1 -/
def entX (mark : Bool) (bits stamp : Int) : Ent := ⟨[(xB, oneB)], mark, bits, false, 0, stamp⟩
set_option maxRecDepth 100000 in
theorem sample_calls (stamp bits : Int) (w : World) :
    Calls Tryz.prog 60 #[.int .i64 stamp, .int .u64 bits] w fun e w' => ∃ a, e = .returned (.agg #[.slice a 1 1, .bool false, .int .u64 bits, .bool false, .int .i64 0, .int .i64 stamp]) ∧ Ll w' a 1 [(xB, oneB)] ∧ Below w.heap.size w w' := by
  go_enter Tryz.func60, Tryz.ntmps60
  go_wp2_with fail
  go_at_call 55
  refine (lone_calls _ _ _).mono ?_
  rintro e w1 ⟨rfl, hw1⟩
  obtain ⟨w0, hw0⟩ : ∃ w0, w0 = w.alloc (.cells #[.slice none 0 0, .bool false, .int .u64 0, .bool false, .int .i64 0, .int .i64 0] 59) := ⟨_, rfl⟩
  have hs0 : w0.heap.size = w.heap.size + 1 := by rw [hw0]; simp
  have HL := Lib.hid (oneW_ll w0 xB oneB)
  have hbk : w1.heap[w.heap.size]? = some (.cells #[.slice none 0 0, .bool false, .int .u64 0, .bool false, .int .i64 0, .int .i64 0] 59 (0, 0)) := by
    rw [hw1, ← hw0]
    exact ((oneW_below w0 _ _).block _ (by omega)).trans (by rw [hw0]; exact heap_alloc_new w _)
  rw [← hw0] at hw1
  have z0 : ∀ j u, (#[Value.slice none 0 0, .bool false, .int .u64 0, .bool false, .int .i64 0, .int .i64 0] : Array Value)[j]? = some u → w1.cell? ⟨w.heap.size, j, none⟩ = some u := fun j u hu => by simp only [World.cell?, hbk]; exact hu
  have q : ∀ j, w1.frozen? ⟨w.heap.size, j, none⟩ = false := fun j => by simp [World.frozen?, hbk]
  have y0 := z0 0 _ rfl
  have y1 := z0 1 _ rfl
  have y2 := z0 2 _ rfl
  have y3 := z0 3 _ rfl
  have y4 := z0 4 _ rfl
  have y5 := z0 5 _ rfl
  have q0 := q 0
  have q1 := q 1
  have q2 := q 2
  have q3 := q 3
  have q4 := q 4
  have q5 := q 5
  have hB1 : Below w.heap.size w w1 := by rw [hw1]; exact (by rw [hw0]; exact (Below.refl _ _).alloc (Nat.le_refl _) _ : Below w.heap.size w w0).trans ((oneW_below w0 _ _).mono (by omega))
  have hl1 : Ll w1 (some ⟨w.heap.size + 1, 0, none⟩) 1 [(xB, oneB)] := by rw [hw1, ← hs0]; exact HL.out
  have HB := Lib.hid (And.intro hB1 hl1)
  have hlt : w.heap.size < w1.heap.size := (Array.getElem?_eq_some_iff.1 hbk).1
  have hT : Hid (isT w1 w.heap.size 59) := Lib.hid ⟨_, _, hbk⟩
  clear hw1 hw0 z0 q hbk hB1 hl1 HL
  go_wp2
  refine bodyPost_ret (v := .agg #[.slice (some ⟨w.heap.size + 1, 0, none⟩) 1 1, .bool false, .int .u64 bits, .bool false, .int .i64 0, .int .i64 stamp]) (by simp [results, Tryz.results60, go_sem, y0, y1, y2, y3, y4, y5]) rfl ⟨_, rfl, ?_, ?_⟩
  · refine HB.out.2.fr (X := fun k => k = w.heap.size) ?_ (fun b hb hx => (hb.ne (hx ▸ hT.out) (by decide)) rfl)
    iterate 6 (refine Fr.setCell ?_ (by exact rfl) _)
    exact Fr.refl _ _
  · iterate 6 (refine Below.setCell ?_ (by exact Nat.le_refl _) _)
    exact HB.out.1
set_option maxRecDepth 100000 in
theorem marker_calls (stamp : Int) (w : World) :
    Calls Tryz.prog 61 #[.int .i64 stamp] w fun e w' => ∃ a, e = .returned (.agg #[.slice a 1 1, .bool true, .int .u64 0, .bool false, .int .i64 0, .int .i64 stamp]) ∧ Ll w' a 1 [(xB, oneB)] ∧ Below w.heap.size w w' := by
  go_enter Tryz.func61, Tryz.ntmps61
  go_wp2_with fail
  go_at_call 55
  refine (lone_calls _ _ _).mono ?_
  rintro e w1 ⟨rfl, hw1⟩
  obtain ⟨w0, hw0⟩ : ∃ w0, w0 = w.alloc (.cells #[.slice none 0 0, .bool false, .int .u64 0, .bool false, .int .i64 0, .int .i64 0] 59) := ⟨_, rfl⟩
  have hs0 : w0.heap.size = w.heap.size + 1 := by rw [hw0]; simp
  have HL := Lib.hid (oneW_ll w0 xB oneB)
  have hbk : w1.heap[w.heap.size]? = some (.cells #[.slice none 0 0, .bool false, .int .u64 0, .bool false, .int .i64 0, .int .i64 0] 59 (0, 0)) := by
    rw [hw1, ← hw0]
    exact ((oneW_below w0 _ _).block _ (by omega)).trans (by rw [hw0]; exact heap_alloc_new w _)
  rw [← hw0] at hw1
  have z0 : ∀ j u, (#[Value.slice none 0 0, .bool false, .int .u64 0, .bool false, .int .i64 0, .int .i64 0] : Array Value)[j]? = some u → w1.cell? ⟨w.heap.size, j, none⟩ = some u := fun j u hu => by simp only [World.cell?, hbk]; exact hu
  have q : ∀ j, w1.frozen? ⟨w.heap.size, j, none⟩ = false := fun j => by simp [World.frozen?, hbk]
  have y0 := z0 0 _ rfl
  have y1 := z0 1 _ rfl
  have y2 := z0 2 _ rfl
  have y3 := z0 3 _ rfl
  have y4 := z0 4 _ rfl
  have y5 := z0 5 _ rfl
  have q0 := q 0
  have q1 := q 1
  have q2 := q 2
  have q3 := q 3
  have q4 := q 4
  have q5 := q 5
  have hB1 : Below w.heap.size w w1 := by rw [hw1]; exact (by rw [hw0]; exact (Below.refl _ _).alloc (Nat.le_refl _) _ : Below w.heap.size w w0).trans ((oneW_below w0 _ _).mono (by omega))
  have hl1 : Ll w1 (some ⟨w.heap.size + 1, 0, none⟩) 1 [(xB, oneB)] := by rw [hw1, ← hs0]; exact HL.out
  have HB := Lib.hid (And.intro hB1 hl1)
  have hlt : w.heap.size < w1.heap.size := (Array.getElem?_eq_some_iff.1 hbk).1
  have hT : Hid (isT w1 w.heap.size 59) := Lib.hid ⟨_, _, hbk⟩
  clear hw1 hw0 z0 q hbk hB1 hl1 HL
  go_wp2
  refine bodyPost_ret (v := .agg #[.slice (some ⟨w.heap.size + 1, 0, none⟩) 1 1, .bool true, .int .u64 0, .bool false, .int .i64 0, .int .i64 stamp]) (by simp [results, Tryz.results61, go_sem, y0, y1, y2, y3, y4, y5]) rfl ⟨_, rfl, ?_, ?_⟩
  · refine HB.out.2.fr (X := fun k => k = w.heap.size) ?_ (fun b hb hx => (hb.ne (hx ▸ hT.out) (by decide)) rfl)
    iterate 6 (refine Fr.setCell ?_ (by exact rfl) _)
    exact Fr.refl _ _
  · iterate 6 (refine Below.setCell ?_ (by exact Nat.le_refl _) _)
    exact HB.out.1
end Go.Proofs.YtiooimdncocfdaaGreatDoor.Sk
