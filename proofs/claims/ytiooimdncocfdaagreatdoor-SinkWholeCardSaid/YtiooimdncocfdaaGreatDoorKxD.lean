/- Chapter 38: the reference's Bytes and Key at one label; the law's key. -/
import Derived.Test.YtiooimdncocfdaaGreatDoorKxC
namespace Go.Proofs.YtiooimdncocfdaaGreatDoor.Sk
open Go Go.RowKit
theorem Sb.cells {s : ByteArray} {c : UInt8} (h : Sb s c) : s.size = 1 ∧ Lib.strCells s = [.int .u8 c.toNat] := by
  rw [h.eq]
  exact ⟨rfl, by simp [Lib.strCells]⟩
theorem below_own {w W w' : World} {base size n : Nat} {T : TypeId} {v : Value} {xs : List Value} (hb : Below base w W) (hs : base ≤ W.heap.size) (h : W.ownsRow base T size v n xs) (hg : W.grownBy w' v.ownBlock) : Below base w w' :=
  hb.grown hg hs fun j e => by
    rcases h.2 with ⟨rfl, _⟩ | ⟨g, cap, cur, rfl, hg, _⟩
    · simp [Value.ownBlock] at e
    · obtain rfl : g = j := by simpa [Value.ownBlock] using e
      exact hg
def RbInv (w : World) (c : UInt8) (out i : Value) (wr : World) : Prop :=
  (i = .int .i64 0 ∧ out = .slice none 0 0 ∧ Below w.heap.size w wr) ∨
  (i = .int .i64 1 ∧ wr.ownsRow w.heap.size 5 1 out 4 [.int .u8 97, .int .u8 255, .int .u8 c.toNat, .int .u8 255] ∧ Below w.heap.size w wr)
set_option maxRecDepth 100000 in
set_option maxHeartbeats 2000000 in
theorem rbytes_calls (nm vl : ByteArray) (c : UInt8) (hn : Sb nm 97) (hv : Sb vl c) (b off cap : Nat) (w : World) (c0 : w.cell? ⟨b, off, none⟩ = some (.string nm)) (c1 : w.cell? ⟨b, off + 1, none⟩ = some (.string vl)) (hb : b < w.heap.size) :
    Calls Tryz.prog 131 #[.slice (some ⟨b, off, none⟩) 1 cap] w fun e w' => e = .returned (.tuple #[.string ⟨#[97, 255, c, 255]⟩, .int .i64 0]) ∧ Below w.heap.size w w' := by
  have HC := Lib.hid (rright_calls nm vl c hn hv b off cap w c0 c1 hb)
  have HN := Lib.hid hn.cells
  have HV := Lib.hid hv.cells
  obtain ⟨i0, hi0, hz0, hz1, hz2⟩ := info_parts infoByte
  have HI0 := Lib.hid (And.intro hi0 (And.intro hz0 (And.intro hz1 hz2)))
  have H0 := Lib.hid (And.intro c0 c1)
  clear hn hv c0 c1 hi0 hz0 hz1 hz2
  go_enter Tryz.func131, Tryz.ntmps131
  go_wp2_with fail
  go_at_call 149
  refine HC.out.mono ?_
  rintro e w1 ⟨rfl, hb1⟩
  have HB1 := Lib.hid hb1
  clear hb1
  go_wp2_with fail
  go_loopw [4, 5] (fun out i wr => RbInv w c out i wr) (fun _ i _ => 1 - (intOf i).toNat)
  case atStart => exact .inl ⟨rfl, rfl, HB1.out⟩
  case round =>
    rcases hrel with ⟨rfl, rfl, hbr⟩ | ⟨rfl, hown, hbr⟩
    · have d0 : wr.cell? ⟨b, off, none⟩ = some (.string nm) := (hbr.cell (p := ⟨b, off, none⟩) hb).trans H0.out.1
      have hsr := hbr.size
      have HBR := Lib.hid hbr
      have hown0 : wr.ownsRow w.heap.size 5 1 (.slice none 0 0) 0 [] := World.ownsRow_nil _ _ _ _
      have HO0 := Lib.hid hown0
      clear hbr hown0
      go_wp2_with (first
        | (at_builtin; refine Lib.wpList_append_own_string _ rfl _ _ 75 9 rfl w.heap.size 5 i0 Tryz.underlying75 Tryz.underlying9 HI0.out.1 HI0.out.2.1 HI0.out.2.2.1 HI0.out.2.2.2 _ _ _ rfl HO0.out nm rfl (by have := HN.out.1; unfold maxLen; omega) (by have := HN.out.1; omega) hsr ?_; intro v1 w2 own1 hg1 _; rw [HN.out.1, HN.out.2] at own1; have HB2 := Lib.hid (below_own HBR.out hsr HO0.out hg1); have HO1 := Lib.hid own1; have s2 := HB2.out.size; clear own1 hg1)
        | (at_builtin; refine wpList_app rfl _ _ 75 5 1 1 _ rfl Tryz.underlying75 infoByte rfl (by decide) (by decide) w.heap.size _ 1 [.int .u8 97] rfl (HO1.out.alloc _) ⟨w2.heap.size, 0, none⟩ 1 1 [.int .u8 255] rfl rfl (cells_new w2 #[.int .u8 255] _ _ rfl) (by intro u hu; rw [List.mem_singleton.1 hu]; rfl) (by decide) (Nat.le_trans s2 (by simp)) ?_; intro v2 w3 own2 _ _ hbel; have HB3 := Lib.hid (hbel _ (HB2.out.alloc s2 _)); have HO2 := Lib.hid own2; have s3 := HB3.out.size; have d1 : w3.cell? ⟨b, off + 1, none⟩ = some (.string vl) := (HB3.out.cell (p := ⟨b, off + 1, none⟩) hb).trans H0.out.2; have d0' : w3.cell? ⟨b, off, none⟩ = some (.string nm) := (HB3.out.cell (p := ⟨b, off, none⟩) hb).trans H0.out.1; have hs3 : w.heap.size ≤ w3.heap.size := s3; have hb3 : b < w3.heap.size := (by omega); clear hbel own2)
        | (at_builtin; refine Lib.wpList_append_own_string _ rfl _ _ 75 9 rfl w.heap.size 5 i0 Tryz.underlying75 Tryz.underlying9 HI0.out.1 HI0.out.2.1 HI0.out.2.2.1 HI0.out.2.2.2 _ _ _ rfl HO2.out vl rfl (by have := HV.out.1; unfold maxLen; omega) (by have := HV.out.1; omega) hs3 ?_; intro v3 w4 own3 hg3 _; rw [HV.out.1, HV.out.2] at own3; have HB4 := Lib.hid (below_own HB3.out hs3 HO2.out hg3); have HO3 := Lib.hid own3; have s4 := HB4.out.size; clear own3 hg3)
        | (at_builtin; refine wpList_app rfl _ _ 75 5 1 1 _ rfl Tryz.underlying75 infoByte rfl (by decide) (by decide) w.heap.size _ 3 [.int .u8 97, .int .u8 255, .int .u8 c.toNat] rfl (HO3.out.alloc _) ⟨w4.heap.size, 0, none⟩ 1 1 [.int .u8 255] rfl rfl (cells_new w4 #[.int .u8 255] _ _ rfl) (by intro u hu; rw [List.mem_singleton.1 hu]; rfl) (by decide) (Nat.le_trans s4 (by simp)) ?_; intro v4 w5 own4 _ _ hbel; have HB5 := Lib.hid (hbel _ (HB4.out.alloc s4 _)); have HO4 := Lib.hid own4; have s5 := HB5.out.size; clear hbel own4))
      go_roundw
      case rel => exact .inr ⟨by go_num, HO4.out, HB5.out⟩
      case measure => simp [intOf]
    · obtain ⟨g, cp, rfl, hg1, hg2, hg3, hg4⟩ := own_cells hown (by omega)
      have hcv : (convert 75 9 (.slice (some ⟨g, 0, none⟩) 4 cp)).run Tryz.prog wr = .ok (.string ⟨#[97, 255, c, 255]⟩) wr :=
        run_convert_bytes_back (P := Tryz.prog) wr 75 9 5 ⟨g, 0, none⟩ cp [97, 255, c, 255] Tryz.underlying75 Tryz.underlying5 Tryz.underlying9 (fun j hj => by
          rw [Addr.add_lit, Nat.zero_add]
          refine hg4 j _ ?_
          have hj4 : j < 4 := hj
          match j, hj4 with
          | 0, _ => rfl
          | 1, _ => rfl
          | 2, _ => rfl
          | 3, _ => rfl)
      have HBR := Lib.hid hbr
      clear hown hbr hg4
      go_wp2_with fail
      go_ret2
      exact ⟨rfl, HBR.out⟩
end Go.Proofs.YtiooimdncocfdaaGreatDoor.Sk
