/- Chapter 38: the reference's Key at one label; the law's key. -/
import Derived.Test.YtiooimdncocfdaaGreatDoorKxD
namespace Go.Proofs.YtiooimdncocfdaaGreatDoor.Sk
open Go Go.RowKit
theorem conv254 (w : World) : (convert 75 9 (.slice (some ⟨w.heap.size, 0, none⟩) 1 1)).run Tryz.prog (w.alloc (.cells #[.int .u8 254] 5)) = .ok (.string ⟨#[254]⟩) (w.alloc (.cells #[.int .u8 254] 5)) :=
  run_convert_bytes_back (P := Tryz.prog) _ 75 9 5 ⟨w.heap.size, 0, none⟩ 1 [254] Tryz.underlying75 Tryz.underlying5 Tryz.underlying9 (fun j hj => by
    obtain rfl : j = 0 := by simpa using hj
    exact new_cell w #[.int .u8 254] _ 0 _ rfl)
set_option maxRecDepth 100000 in
set_option maxHeartbeats 2000000 in
theorem rkey_calls (jb nm vl : ByteArray) (cj c : UInt8) (hj : Sb jb cj) (hn : Sb nm 97) (hv : Sb vl c) (b off cap : Nat) (w : World) (c0 : w.cell? ⟨b, off, none⟩ = some (.string nm)) (c1 : w.cell? ⟨b, off + 1, none⟩ = some (.string vl)) (hb : b < w.heap.size) :
    Calls Tryz.prog 128 #[.agg #[.string jb, .slice (some ⟨b, off, none⟩) 1 cap]] w fun e w' => e = .returned (.tuple #[.string (jb ++ ⟨#[254]⟩ ++ ⟨#[97, 255, c, 255]⟩), .int .i64 0]) ∧ Below w.heap.size w w' := by
  have HJ := Lib.hid (fun w => rjob_calls jb hj.sz hj.ps cj hj.at0 hj.lt hj.eq w)
  have HB := Lib.hid (fun (wx : World) (h : Below w.heap.size w wx) => rbytes_calls nm vl c hn hv b off cap wx ((h.cell (p := ⟨b, off, none⟩) hb).trans c0) ((h.cell (p := ⟨b, off + 1, none⟩) hb).trans c1) (Nat.lt_of_lt_of_le hb h.size))
  have hjs := hj.cells.1
  have hcv := conv254
  obtain ⟨r, hr⟩ : ∃ r : ByteArray, r = ⟨#[97, 255, c, 255]⟩ := ⟨_, rfl⟩
  have hrs : r.size = 4 := by rw [hr]; rfl
  rw [← hr] at HB ⊢
  obtain ⟨q, hq⟩ : ∃ q : ByteArray, q = ⟨#[254]⟩ := ⟨_, rfl⟩
  have hqs : q.size = 1 := by rw [hq]; rfl
  rw [← hq] at hcv ⊢
  clear hj hn hv c0 c1 hr hq
  go_enter Tryz.func128, Tryz.ntmps128
  go_wp2_with fail
  go_at_call 191
  refine (HJ.out _).mono ?_
  rintro e w1 ⟨rfl, hb1⟩
  have d : ∀ i u, (#[Value.string jb, .slice (some ⟨b, off, none⟩) 1 cap] : Array Value)[i]? = some u → w1.cell? ⟨w.heap.size, i, none⟩ = some u := fun i u hu => by
    rw [hb1.cell (p := ⟨w.heap.size, i, none⟩) (by simp)]
    exact new_cell _ _ _ _ _ hu
  have e0 : w1.cell? ⟨w.heap.size, 0, none⟩ = some (.string jb) := d 0 _ rfl
  have e1 : w1.cell? ⟨w.heap.size, 1, none⟩ = some (.slice (some ⟨b, off, none⟩) 1 cap) := d 1 _ rfl
  have hl1 : w.heap.size < w1.heap.size := by have := hb1.size; simp at this; omega
  have HB1 : Hid (Below w.heap.size w w1) := Lib.hid (((Below.refl _ _).alloc (Nat.le_refl _) _).trans (hb1.mono (by simp)))
  clear d hb1
  go_wp2_with fail
  go_at_call 131
  refine (HB.out _ HB1.out).mono ?_
  rintro e w2 ⟨rfl, hb2⟩
  have f0 : w2.cell? ⟨w.heap.size, 0, none⟩ = some (.string jb) := (hb2.cell (p := ⟨w.heap.size, 0, none⟩) hl1).trans e0
  have hl2 : w.heap.size < w2.heap.size := by have := hb2.size; omega
  have HB2 := Lib.hid (HB1.out.trans (hb2.mono HB1.out.size))
  have hk := hcv w2
  clear hb2 e0 e1 hcv
  go_wp2
  go_ret2
  exact ⟨rfl, HB2.out.alloc (by omega) _⟩
set_option maxRecDepth 100000 in
theorem key_calls (jb vl : ByteArray) (cj c : UInt8) (hj : Sb jb cj) (hv : Sb vl c) (w : World) :
    Calls Tryz.prog 59 #[.string jb, .string vl] w fun e w' => e = .returned (.string (jb ++ ⟨#[254]⟩ ++ ⟨#[97, 255, c, 255]⟩)) ∧ Below w.heap.size w w' := by
  have HK := Lib.hid (rkey_calls jb ⟨#[97]⟩ vl cj c hj (Sb.of 97 (by decide)) hv w.heap.size 0 1 (oneW w ⟨#[97]⟩ vl) (new_cell w #[.string ⟨#[97]⟩, .string vl] _ 0 _ rfl) (new_cell w #[.string ⟨#[97]⟩, .string vl] _ 1 _ rfl) (by simp [oneW]))
  clear hj hv
  go_enter Tryz.func59, Tryz.ntmps59
  go_wp2_with fail
  go_at_call 55
  refine (lone_calls _ _ _).mono ?_
  rintro e w1 ⟨rfl, rfl⟩
  go_wp2_with fail
  go_at_call 128
  refine HK.out.mono ?_
  rintro e w2 ⟨rfl, hb2⟩
  have HB2 : Hid (Below w.heap.size w w2) := Lib.hid ((oneW_below w _ _).trans (hb2.mono (by simp [oneW])))
  clear hb2
  go_wp2
  go_ret
  exact ⟨rfl, HB2.out⟩
end Go.Proofs.YtiooimdncocfdaaGreatDoor.Sk
