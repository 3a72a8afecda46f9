/- Several parts in one text: KxB, KxC. -/
import Derived.Test.YtmagojckhfkcdaaGreatDoorKxA
import Derived.Deep.QuietTactic
import Derived.BigQuiet
import Derived.Test.YtmagojckhfkcdaaGreatDoorKsE
/- Chapter 38: the references of layers 4 and 5 at one label. -/
namespace Go.Proofs.YtmagojckhfkcdaaGreatDoor.Sk
open Go Go.RowKit
set_option maxRecDepth 100000 in
set_option maxHeartbeats 2000000 in
theorem rname_calls (s : ByteArray) (h1 : (s.size : Int) = 1) (hp : 0 < s.size) (h0 : s[0] = 97) (w : World) : Calls Tryz.prog 146 #[.string s, .bool false] w fun e w' => e = .returned (.bool true) ∧ Below w.heap.size w w' := by
  have h97 : s[0].toNat = 97 := by rw [h0]; rfl
  clear h0
  go_enter Tryz.func146, Tryz.ntmps146
  go_wp2_with fail
  go_loopw [5] (fun i wr => (i = .int .i64 0 ∧ wr = w) ∨ (i = .int .i64 1 ∧ Below w.heap.size w wr)) (fun i _ => 1 - (intOf i).toNat)
  case atStart => exact .inl ⟨rfl, rfl⟩
  case round =>
    rcases hrel with ⟨rfl, rfl⟩ | ⟨rfl, hb⟩
    · go_wp2_with fail
      go_quiet (fail)
      go_wp2_with fail
      go_roundw
      case rel => exact .inr ⟨by go_num, below_drewN (Below.refl _ _) _⟩
      case measure => simp [intOf]
    · go_wp2_with fail
      go_ret
      exact ⟨rfl, hb⟩
/-- a string of one small byte -/
structure Sb (s : ByteArray) (c : UInt8) : Prop where
  sz : (s.size : Int) = 1
  ps : 0 < s.size
  at0 : s[0] = c
  lt : c.toNat < 128
  eq : s = ⟨#[c]⟩
theorem Sb.of (c : UInt8) (h : c.toNat < 128) : Sb ⟨#[c]⟩ c := ⟨rfl, Nat.one_pos, rfl, h, rfl⟩
set_option maxRecDepth 100000 in
theorem wrong_calls (nm vl : ByteArray) (c : UInt8) (hn : Sb nm 97) (hv : Sb vl c) (w : World) : Calls Tryz.prog 137 #[.agg #[.string nm, .string vl]] w fun e w' => e = .returned (.int .i64 0) ∧ Below w.heap.size w w' := by
  have HN := Lib.hid (fun w => rname_calls nm hn.sz hn.ps hn.at0 w)
  have HV := Lib.hid (fun w => rvalue_calls vl hv.sz hv.ps c hv.at0 hv.lt hv.eq w)
  clear hn hv
  go_enter Tryz.func137, Tryz.ntmps137
  go_wp2_with fail
  go_at_call 146
  refine (HN.out _).mono ?_
  rintro e w1 ⟨rfl, hb⟩
  have c1 : w1.cell? ⟨w.heap.size, 1, none⟩ = some (.string vl) := by
    rw [hb.cell (p := ⟨w.heap.size, 1, none⟩) (by simp)]
    exact new_cell _ _ _ 1 _ rfl
  have l1 : w.heap.size < w1.heap.size := by have := hb.size; simp at this; omega
  have HB : Hid (Below w.heap.size w w1) := Lib.hid (((Below.refl _ _).alloc (Nat.le_refl _) _).trans (hb.mono (by simp)))
  clear hb
  go_wp2_with fail
  go_at_call 147
  refine (HV.out _).mono ?_
  rintro e w2 ⟨rfl, hb2⟩
  have HB2 := Lib.hid (Bthen HB.out hb2)
  clear hb2
  go_wp2
  go_ret
  exact ⟨rfl, HB2.out⟩
set_option maxRecDepth 100000 in
set_option maxHeartbeats 2000000 in
theorem rcheck_calls (nm vl : ByteArray) (c : UInt8) (hn : Sb nm 97) (hv : Sb vl c) (b off cap : Nat) (w : World) (c0 : w.cell? ⟨b, off, none⟩ = some (.string nm)) (c1 : w.cell? ⟨b, off + 1, none⟩ = some (.string vl)) (hb : b < w.heap.size) :
    Calls Tryz.prog 125 #[.slice (some ⟨b, off, none⟩) 1 cap] w fun e w' => e = .returned (.tuple #[.int .i64 (-1), .int .i64 0]) ∧ Below w.heap.size w w' := by
  have HW := Lib.hid (fun w => wrong_calls nm vl c hn hv w)
  have he : vl.toList.isEmpty = false := by rw [hv.eq, ByteArray.toList_eq]; rfl
  clear hn hv
  go_enter Tryz.func125, Tryz.ntmps125
  go_wp2_with fail
  go_loopw [4] (fun i wr => (i = .int .i64 0 ∧ wr = w) ∨ (i = .int .i64 1 ∧ Below w.heap.size w wr)) (fun i _ => 1 - (intOf i).toNat)
  case atStart => exact .inl ⟨rfl, rfl⟩
  case round =>
    rcases hrel with ⟨rfl, rfl⟩ | ⟨rfl, hb⟩
    · go_wp2_with fail
      go_at_call 137
      refine (HW.out _).mono ?_
      rintro e w1 ⟨rfl, hb1⟩
      have d1 : w1.cell? ⟨b, off + 1, none⟩ = some (.string vl) := (hb1.cell (p := ⟨b, off + 1, none⟩) hb).trans c1
      have l1 : b < w1.heap.size := Nat.lt_of_lt_of_le hb hb1.size
      have HB1 := Lib.hid hb1
      clear hb1
      go_wp2_with fail
      go_quiet (fail)
      go_wp2_with fail
      go_roundw
      case rel => exact .inr ⟨by go_num, below_drewN HB1.out _⟩
      case measure => simp [intOf]
    · go_wp2_with fail
      go_ret2
      exact ⟨rfl, hb⟩
end Go.Proofs.YtmagojckhfkcdaaGreatDoor.Sk
/- Several parts in one text: KxC, KxD, KxE. -/
/- Chapter 38: the law's one, sample, marker; the reference's Right at one label. -/
namespace Go.Proofs.YtmagojckhfkcdaaGreatDoor.Sk
open Go Go.RowKit
set_option maxRecDepth 100000 in
theorem rright_calls (nm vl : ByteArray) (c : UInt8) (hn : Sb nm 97) (hv : Sb vl c) (b off cap : Nat) (w : World) (c0 : w.cell? ⟨b, off, none⟩ = some (.string nm)) (c1 : w.cell? ⟨b, off + 1, none⟩ = some (.string vl)) (hb : b < w.heap.size) :
    Calls Tryz.prog 108 #[.slice (some ⟨b, off, none⟩) 1 cap] w fun e w' => e = .returned (.bool true) ∧ Below w.heap.size w w' := by
  have HC := Lib.hid (rcheck_calls nm vl c hn hv b off cap w c0 c1 hb)
  clear hn hv c0 c1
  go_enter Tryz.func108, Tryz.ntmps108
  go_wp2_with fail
  go_at_call 125
  refine HC.out.mono ?_
  rintro e w1 ⟨rfl, hb1⟩
  go_wp2
  go_ret
  exact ⟨rfl, hb1⟩
def oneW (w : World) (nm vl : ByteArray) : World := (w.alloc (.cells #[.string nm, .string vl] 66))
set_option maxRecDepth 100000 in
theorem lone_calls (nm vl : ByteArray) (w : World) : Calls Tryz.prog 8 #[.string nm, .string vl] w fun e w' => e = .returned (.slice (some ⟨w.heap.size, 0, none⟩) 1 1) ∧ w' = oneW w nm vl := by
  go_enter Tryz.func8, Tryz.ntmps8
  go_wp2
  go_ret
  exact ⟨rfl, rfl⟩
theorem oneW_below (w : World) (nm vl : ByteArray) : Below w.heap.size w (oneW w nm vl) := (Below.refl _ _).alloc (Nat.le_refl _) _
theorem oneW_ll (w : World) (nm vl : ByteArray) : Ll (oneW w nm vl) (some ⟨w.heap.size, 0, none⟩) 1 [(nm, vl)] := by
  refine ⟨fun _ => ⟨w.heap.size, 0, rfl, (isT_of (heap_alloc_new w _)).lt, fun i x hx => ?_⟩, (fun h => by cases h), fun _ q e => by cases e; exact ⟨_, _, heap_alloc_new w _⟩⟩
  have hi := (List.getElem?_eq_some_iff.1 hx).1
  obtain rfl : i = 0 := by simpa using hi
  obtain rfl : x = (nm, vl) := by simpa using hx.symm
  exact ⟨new_cell w #[.string nm, .string vl] _ 0 _ rfl, new_cell w #[.string nm, .string vl] _ 1 _ rfl⟩
def xB : ByteArray := ⟨#[120]⟩
def oneB : ByteArray := ⟨#[49]⟩
/-- an entry of x=1 -/
def entX (mark : Bool) (bits stamp : Int) : Ent := ⟨[(xB, oneB)], mark, bits, false, 0, stamp⟩
set_option maxRecDepth 100000 in
theorem sample_calls (stamp bits : Int) (w : World) :
    Calls Tryz.prog 20 #[.int .i64 stamp, .int .u64 bits] w fun e w' => ∃ a, e = .returned (.agg #[.slice a 1 1, .bool false, .int .u64 bits, .bool false, .int .i64 0, .int .i64 stamp]) ∧ Ll w' a 1 [(xB, oneB)] ∧ Below w.heap.size w w' := by
  go_enter Tryz.func20, Tryz.ntmps20
  go_wp2_with fail
  go_at_call 8
  refine (lone_calls _ _ _).mono ?_
  rintro e w1 ⟨rfl, hw1⟩
  obtain ⟨w0, hw0⟩ : ∃ w0, w0 = w.alloc (.cells #[.slice none 0 0, .bool false, .int .u64 0, .bool false, .int .i64 0, .int .i64 0] 34) := ⟨_, rfl⟩
  have hs0 : w0.heap.size = w.heap.size + 1 := by rw [hw0]; simp
  have HL := Lib.hid (oneW_ll w0 xB oneB)
  have hbk : w1.heap[w.heap.size]? = some (.cells #[.slice none 0 0, .bool false, .int .u64 0, .bool false, .int .i64 0, .int .i64 0] 34 (0, 0)) := by
    rw [hw1, ← hw0]
    exact ((oneW_below w0 _ _).block _ (by omega)).trans (by rw [hw0]; exact heap_alloc_new w _)
  rw [← hw0] at hw1
  have z0 : ∀ j u, (#[Value.slice none 0 0, .bool false, .int .u64 0, .bool false, .int .i64 0, .int .i64 0] : Array Value)[j]? = some u → w1.cell? ⟨w.heap.size, j, none⟩ = some u := fun j u hu => by simp only [World.cell?, hbk]; exact hu
  have q : ∀ j, w1.frozen? ⟨w.heap.size, j, none⟩ = false := fun j => by simp [World.frozen?, hbk]
  have y0 := z0 0 _ rfl
  have y1 := z0 1 _ rfl
  have y2 := z0 2 _ rfl
  have y3 := z0 3 _ rfl
  have y4 := z0 4 _ rfl
  have y5 := z0 5 _ rfl
  have q0 := q 0
  have q1 := q 1
  have q2 := q 2
  have q3 := q 3
  have q4 := q 4
  have q5 := q 5
  have hB1 : Below w.heap.size w w1 := by rw [hw1]; exact (by rw [hw0]; exact (Below.refl _ _).alloc (Nat.le_refl _) _ : Below w.heap.size w w0).trans ((oneW_below w0 _ _).mono (by omega))
  have hl1 : Ll w1 (some ⟨w.heap.size + 1, 0, none⟩) 1 [(xB, oneB)] := by rw [hw1, ← hs0]; exact HL.out
  have HB := Lib.hid (And.intro hB1 hl1)
  have hlt : w.heap.size < w1.heap.size := (Array.getElem?_eq_some_iff.1 hbk).1
  have hT : Hid (isT w1 w.heap.size 34) := Lib.hid ⟨_, _, hbk⟩
  clear hw1 hw0 z0 q hbk hB1 hl1 HL
  go_wp2
  refine bodyPost_ret (v := .agg #[.slice (some ⟨w.heap.size + 1, 0, none⟩) 1 1, .bool false, .int .u64 bits, .bool false, .int .i64 0, .int .i64 stamp]) (by simp [results, Tryz.results20, go_sem, y0, y1, y2, y3, y4, y5]) rfl ⟨_, rfl, ?_, ?_⟩
  · refine HB.out.2.fr (X := fun k => k = w.heap.size) ?_ (fun b hb hx => (hb.ne (hx ▸ hT.out) (by decide)) rfl)
    iterate 6 (refine Fr.setCell ?_ (by exact rfl) _)
    exact Fr.refl _ _
  · iterate 6 (refine Below.setCell ?_ (by exact Nat.le_refl _) _)
    exact HB.out.1
set_option maxRecDepth 100000 in
theorem marker_calls (stamp : Int) (w : World) :
    Calls Tryz.prog 21 #[.int .i64 stamp] w fun e w' => ∃ a, e = .returned (.agg #[.slice a 1 1, .bool true, .int .u64 0, .bool false, .int .i64 0, .int .i64 stamp]) ∧ Ll w' a 1 [(xB, oneB)] ∧ Below w.heap.size w w' := by
  go_enter Tryz.func21, Tryz.ntmps21
  go_wp2_with fail
  go_at_call 8
  refine (lone_calls _ _ _).mono ?_
  rintro e w1 ⟨rfl, hw1⟩
  obtain ⟨w0, hw0⟩ : ∃ w0, w0 = w.alloc (.cells #[.slice none 0 0, .bool false, .int .u64 0, .bool false, .int .i64 0, .int .i64 0] 34) := ⟨_, rfl⟩
  have hs0 : w0.heap.size = w.heap.size + 1 := by rw [hw0]; simp
  have HL := Lib.hid (oneW_ll w0 xB oneB)
  have hbk : w1.heap[w.heap.size]? = some (.cells #[.slice none 0 0, .bool false, .int .u64 0, .bool false, .int .i64 0, .int .i64 0] 34 (0, 0)) := by
    rw [hw1, ← hw0]
    exact ((oneW_below w0 _ _).block _ (by omega)).trans (by rw [hw0]; exact heap_alloc_new w _)
  rw [← hw0] at hw1
  have z0 : ∀ j u, (#[Value.slice none 0 0, .bool false, .int .u64 0, .bool false, .int .i64 0, .int .i64 0] : Array Value)[j]? = some u → w1.cell? ⟨w.heap.size, j, none⟩ = some u := fun j u hu => by simp only [World.cell?, hbk]; exact hu
  have q : ∀ j, w1.frozen? ⟨w.heap.size, j, none⟩ = false := fun j => by simp [World.frozen?, hbk]
  have y0 := z0 0 _ rfl
  have y1 := z0 1 _ rfl
  have y2 := z0 2 _ rfl
  have y3 := z0 3 _ rfl
  have y4 := z0 4 _ rfl
  have y5 := z0 5 _ rfl
  have q0 := q 0
  have q1 := q 1
  have q2 := q 2
  have q3 := q 3
  have q4 := q 4
  have q5 := q 5
  have hB1 : Below w.heap.size w w1 := by rw [hw1]; exact (by rw [hw0]; exact (Below.refl _ _).alloc (Nat.le_refl _) _ : Below w.heap.size w w0).trans ((oneW_below w0 _ _).mono (by omega))
  have hl1 : Ll w1 (some ⟨w.heap.size + 1, 0, none⟩) 1 [(xB, oneB)] := by rw [hw1, ← hs0]; exact HL.out
  have HB := Lib.hid (And.intro hB1 hl1)
  have hlt : w.heap.size < w1.heap.size := (Array.getElem?_eq_some_iff.1 hbk).1
  have hT : Hid (isT w1 w.heap.size 34) := Lib.hid ⟨_, _, hbk⟩
  clear hw1 hw0 z0 q hbk hB1 hl1 HL
  go_wp2
  refine bodyPost_ret (v := .agg #[.slice (some ⟨w.heap.size + 1, 0, none⟩) 1 1, .bool true, .int .u64 0, .bool false, .int .i64 0, .int .i64 stamp]) (by simp [results, Tryz.results21, go_sem, y0, y1, y2, y3, y4, y5]) rfl ⟨_, rfl, ?_, ?_⟩
  · refine HB.out.2.fr (X := fun k => k = w.heap.size) ?_ (fun b hb hx => (hb.ne (hx ▸ hT.out) (by decide)) rfl)
    iterate 6 (refine Fr.setCell ?_ (by exact rfl) _)
    exact Fr.refl _ _
  · iterate 6 (refine Below.setCell ?_ (by exact Nat.le_refl _) _)
    exact HB.out.1
end Go.Proofs.YtmagojckhfkcdaaGreatDoor.Sk
/- Chapter 38: the reference's Bytes and Key at one label; the law's key. -/
namespace Go.Proofs.YtmagojckhfkcdaaGreatDoor.Sk
open Go Go.RowKit
theorem Sb.cells {s : ByteArray} {c : UInt8} (h : Sb s c) : s.size = 1 ∧ Lib.strCells s = [.int .u8 c.toNat] := by
  rw [h.eq]
  exact ⟨rfl, by simp [Lib.strCells]⟩
def RbInv (w : World) (c : UInt8) (out i : Value) (wr : World) : Prop :=
  (i = .int .i64 0 ∧ out = .slice none 0 0 ∧ Below w.heap.size w wr) ∨
  (i = .int .i64 1 ∧ wr.ownsRow w.heap.size 5 1 out 4 [.int .u8 97, .int .u8 255, .int .u8 c.toNat, .int .u8 255] ∧ Below w.heap.size w wr)
set_option maxRecDepth 100000 in
set_option maxHeartbeats 2000000 in
theorem rbytes_calls (nm vl : ByteArray) (c : UInt8) (hn : Sb nm 97) (hv : Sb vl c) (b off cap : Nat) (w : World) (c0 : w.cell? ⟨b, off, none⟩ = some (.string nm)) (c1 : w.cell? ⟨b, off + 1, none⟩ = some (.string vl)) (hb : b < w.heap.size) :
    Calls Tryz.prog 79 #[.slice (some ⟨b, off, none⟩) 1 cap] w fun e w' => e = .returned (.tuple #[.string ⟨#[97, 255, c, 255]⟩, .int .i64 0]) ∧ Below w.heap.size w w' := by
  have HC := Lib.hid (rright_calls nm vl c hn hv b off cap w c0 c1 hb)
  have HN := Lib.hid hn.cells
  have HV := Lib.hid hv.cells
  obtain ⟨i0, hi0, hz0, hz1, hz2⟩ := info_parts infoByte
  have HI0 := Lib.hid (And.intro hi0 (And.intro hz0 (And.intro hz1 hz2)))
  have H0 := Lib.hid (And.intro c0 c1)
  clear hn hv c0 c1 hi0 hz0 hz1 hz2
  go_enter Tryz.func79, Tryz.ntmps79
  go_wp2_with fail
  go_at_call 108
  refine HC.out.mono ?_
  rintro e w1 ⟨rfl, hb1⟩
  have HB1 := Lib.hid hb1
  clear hb1
  go_wp2_with fail
  go_loopw [4, 5] (fun out i wr => RbInv w c out i wr) (fun _ i _ => 1 - (intOf i).toNat)
  case atStart => exact .inl ⟨rfl, rfl, HB1.out⟩
  case round =>
    rcases hrel with ⟨rfl, rfl, hbr⟩ | ⟨rfl, hown, hbr⟩
    · have d0 : wr.cell? ⟨b, off, none⟩ = some (.string nm) := (hbr.cell (p := ⟨b, off, none⟩) hb).trans H0.out.1
      have hsr := hbr.size
      have HBR := Lib.hid hbr
      have hown0 : wr.ownsRow w.heap.size 5 1 (.slice none 0 0) 0 [] := World.ownsRow_nil _ _ _ _
      have HO0 := Lib.hid hown0
      clear hbr hown0
      go_wp2_with (first
        | (at_builtin; refine Lib.wpList_append_own_string _ rfl _ _ 102 9 rfl w.heap.size 5 i0 Tryz.underlying102 Tryz.underlying9 HI0.out.1 HI0.out.2.1 HI0.out.2.2.1 HI0.out.2.2.2 _ _ _ rfl HO0.out nm rfl (by have := HN.out.1; unfold maxLen; omega) (by have := HN.out.1; omega) hsr ?_; intro v1 w2 own1 hg1 _; rw [HN.out.1, HN.out.2] at own1; have HB2 := Lib.hid (below_own HBR.out hsr HO0.out hg1); have HO1 := Lib.hid own1; have s2 := HB2.out.size; clear own1 hg1)
        | (at_builtin; refine wpList_app rfl _ _ 102 5 1 1 _ rfl Tryz.underlying102 infoByte rfl (by decide) (by decide) w.heap.size _ 1 [.int .u8 97] rfl (HO1.out.alloc _) ⟨w2.heap.size, 0, none⟩ 1 1 [.int .u8 255] rfl rfl (cells_new w2 #[.int .u8 255] _ _ rfl) (by intro u hu; rw [List.mem_singleton.1 hu]; rfl) (by decide) (Nat.le_trans s2 (by simp)) ?_; intro v2 w3 own2 _ _ hbel; have HB3 := Lib.hid (hbel _ (HB2.out.alloc s2 _)); have HO2 := Lib.hid own2; have s3 := HB3.out.size; have d1 : w3.cell? ⟨b, off + 1, none⟩ = some (.string vl) := (HB3.out.cell (p := ⟨b, off + 1, none⟩) hb).trans H0.out.2; have d0' : w3.cell? ⟨b, off, none⟩ = some (.string nm) := (HB3.out.cell (p := ⟨b, off, none⟩) hb).trans H0.out.1; have hs3 : w.heap.size ≤ w3.heap.size := s3; have hb3 : b < w3.heap.size := (by omega); clear hbel own2)
        | (at_builtin; refine Lib.wpList_append_own_string _ rfl _ _ 102 9 rfl w.heap.size 5 i0 Tryz.underlying102 Tryz.underlying9 HI0.out.1 HI0.out.2.1 HI0.out.2.2.1 HI0.out.2.2.2 _ _ _ rfl HO2.out vl rfl (by have := HV.out.1; unfold maxLen; omega) (by have := HV.out.1; omega) hs3 ?_; intro v3 w4 own3 hg3 _; rw [HV.out.1, HV.out.2] at own3; have HB4 := Lib.hid (below_own HB3.out hs3 HO2.out hg3); have HO3 := Lib.hid own3; have s4 := HB4.out.size; clear own3 hg3)
        | (at_builtin; refine wpList_app rfl _ _ 102 5 1 1 _ rfl Tryz.underlying102 infoByte rfl (by decide) (by decide) w.heap.size _ 3 [.int .u8 97, .int .u8 255, .int .u8 c.toNat] rfl (HO3.out.alloc _) ⟨w4.heap.size, 0, none⟩ 1 1 [.int .u8 255] rfl rfl (cells_new w4 #[.int .u8 255] _ _ rfl) (by intro u hu; rw [List.mem_singleton.1 hu]; rfl) (by decide) (Nat.le_trans s4 (by simp)) ?_; intro v4 w5 own4 _ _ hbel; have HB5 := Lib.hid (hbel _ (HB4.out.alloc s4 _)); have HO4 := Lib.hid own4; have s5 := HB5.out.size; clear hbel own4))
      go_roundw
      case rel => exact .inr ⟨by go_num, HO4.out, HB5.out⟩
      case measure => simp [intOf]
    · obtain ⟨g, cp, rfl, hg1, hg2, hg3, hg4⟩ := own_cells hown (by omega)
      have hcv : (convert 102 9 (.slice (some ⟨g, 0, none⟩) 4 cp)).run Tryz.prog wr = .ok (.string ⟨#[97, 255, c, 255]⟩) wr :=
        run_convert_bytes_back (P := Tryz.prog) wr 102 9 5 ⟨g, 0, none⟩ cp [97, 255, c, 255] Tryz.underlying102 Tryz.underlying5 Tryz.underlying9 (fun j hj => by
          rw [Addr.add_lit, Nat.zero_add]
          refine hg4 j _ ?_
          have hj4 : j < 4 := hj
          match j, hj4 with
          | 0, _ => rfl
          | 1, _ => rfl
          | 2, _ => rfl
          | 3, _ => rfl)
      have HBR := Lib.hid hbr
      clear hown hbr hg4
      go_wp2_with fail
      go_ret2
      exact ⟨rfl, HBR.out⟩
end Go.Proofs.YtmagojckhfkcdaaGreatDoor.Sk
/- Chapter 38: the reference's Key at one label; the law's key. -/
namespace Go.Proofs.YtmagojckhfkcdaaGreatDoor.Sk
open Go Go.RowKit
theorem conv254 (w : World) : (convert 102 9 (.slice (some ⟨w.heap.size, 0, none⟩) 1 1)).run Tryz.prog (w.alloc (.cells #[.int .u8 254] 5)) = .ok (.string ⟨#[254]⟩) (w.alloc (.cells #[.int .u8 254] 5)) :=
  run_convert_bytes_back (P := Tryz.prog) _ 102 9 5 ⟨w.heap.size, 0, none⟩ 1 [254] Tryz.underlying102 Tryz.underlying5 Tryz.underlying9 (fun j hj => by
    obtain rfl : j = 0 := by simpa using hj
    exact new_cell w #[.int .u8 254] _ 0 _ rfl)
set_option maxRecDepth 100000 in
set_option maxHeartbeats 2000000 in
theorem rkey_calls (jb nm vl : ByteArray) (cj c : UInt8) (hj : Sb jb cj) (hn : Sb nm 97) (hv : Sb vl c) (b off cap : Nat) (w : World) (c0 : w.cell? ⟨b, off, none⟩ = some (.string nm)) (c1 : w.cell? ⟨b, off + 1, none⟩ = some (.string vl)) (hb : b < w.heap.size) :
    Calls Tryz.prog 54 #[.agg #[.string jb, .slice (some ⟨b, off, none⟩) 1 cap]] w fun e w' => e = .returned (.tuple #[.string (jb ++ ⟨#[254]⟩ ++ ⟨#[97, 255, c, 255]⟩), .int .i64 0]) ∧ Below w.heap.size w w' := by
  have HJ := Lib.hid (fun w => rjob_calls jb hj.sz hj.ps cj hj.at0 hj.lt hj.eq w)
  have HB := Lib.hid (fun (wx : World) (h : Below w.heap.size w wx) => rbytes_calls nm vl c hn hv b off cap wx ((h.cell (p := ⟨b, off, none⟩) hb).trans c0) ((h.cell (p := ⟨b, off + 1, none⟩) hb).trans c1) (Nat.lt_of_lt_of_le hb h.size))
  have hjs := hj.cells.1
  have hcv := conv254
  obtain ⟨r, hr⟩ : ∃ r : ByteArray, r = ⟨#[97, 255, c, 255]⟩ := ⟨_, rfl⟩
  have hrs : r.size = 4 := by rw [hr]; rfl
  rw [← hr] at HB ⊢
  obtain ⟨q, hq⟩ : ∃ q : ByteArray, q = ⟨#[254]⟩ := ⟨_, rfl⟩
  have hqs : q.size = 1 := by rw [hq]; rfl
  rw [← hq] at hcv ⊢
  clear hj hn hv c0 c1 hr hq
  go_enter Tryz.func54, Tryz.ntmps54
  go_wp2_with fail
  go_at_call 78
  refine (HJ.out _).mono ?_
  rintro e w1 ⟨rfl, hb1⟩
  have d : ∀ i u, (#[Value.string jb, .slice (some ⟨b, off, none⟩) 1 cap] : Array Value)[i]? = some u → w1.cell? ⟨w.heap.size, i, none⟩ = some u := fun i u hu => by
    rw [hb1.cell (p := ⟨w.heap.size, i, none⟩) (by simp)]
    exact new_cell _ _ _ _ _ hu
  have e0 : w1.cell? ⟨w.heap.size, 0, none⟩ = some (.string jb) := d 0 _ rfl
  have e1 : w1.cell? ⟨w.heap.size, 1, none⟩ = some (.slice (some ⟨b, off, none⟩) 1 cap) := d 1 _ rfl
  have hl1 : w.heap.size < w1.heap.size := by have := hb1.size; simp at this; omega
  have HB1 : Hid (Below w.heap.size w w1) := Lib.hid (((Below.refl _ _).alloc (Nat.le_refl _) _).trans (hb1.mono (by simp)))
  clear d hb1
  go_wp2_with fail
  go_at_call 79
  refine (HB.out _ HB1.out).mono ?_
  rintro e w2 ⟨rfl, hb2⟩
  have f0 : w2.cell? ⟨w.heap.size, 0, none⟩ = some (.string jb) := (hb2.cell (p := ⟨w.heap.size, 0, none⟩) hl1).trans e0
  have hl2 : w.heap.size < w2.heap.size := by have := hb2.size; omega
  have HB2 := Lib.hid (HB1.out.trans (hb2.mono HB1.out.size))
  have hk := hcv w2
  clear hb2 e0 e1 hcv
  go_wp2
  go_ret2
  exact ⟨rfl, HB2.out.alloc (by omega) _⟩
set_option maxRecDepth 100000 in
theorem key_calls (jb vl : ByteArray) (cj c : UInt8) (hj : Sb jb cj) (hv : Sb vl c) (w : World) :
    Calls Tryz.prog 19 #[.string jb, .string vl] w fun e w' => e = .returned (.string (jb ++ ⟨#[254]⟩ ++ ⟨#[97, 255, c, 255]⟩)) ∧ Below w.heap.size w w' := by
  have HK := Lib.hid (rkey_calls jb ⟨#[97]⟩ vl cj c hj (Sb.of 97 (by decide)) hv w.heap.size 0 1 (oneW w ⟨#[97]⟩ vl) (new_cell w #[.string ⟨#[97]⟩, .string vl] _ 0 _ rfl) (new_cell w #[.string ⟨#[97]⟩, .string vl] _ 1 _ rfl) (by simp [oneW]))
  clear hj hv
  go_enter Tryz.func19, Tryz.ntmps19
  go_wp2_with fail
  go_at_call 8
  refine (lone_calls _ _ _).mono ?_
  rintro e w1 ⟨rfl, rfl⟩
  go_wp2_with fail
  go_at_call 54
  refine HK.out.mono ?_
  rintro e w2 ⟨rfl, hb2⟩
  have HB2 : Hid (Below w.heap.size w w2) := Lib.hid ((oneW_below w _ _).trans (hb2.mono (by simp [oneW])))
  clear hb2
  go_wp2
  go_ret
  exact ⟨rfl, HB2.out⟩
end Go.Proofs.YtmagojckhfkcdaaGreatDoor.Sk
