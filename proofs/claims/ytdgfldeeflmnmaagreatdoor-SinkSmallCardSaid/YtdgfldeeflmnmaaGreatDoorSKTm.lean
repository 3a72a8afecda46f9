/- Texts of the claim, put together: KTm. -/
import Derived.Test.YtdgfldeeflmnmaaGreatDoorSKqO
import Derived.Laws.BytesString
import Derived.Laws.IdiomStrings
namespace Go.Proofs.YtdgfldeeflmnmaaGreatDoor.Sk
open Go Go.RowKit
theorem blk_setM {w : World} {b : Nat} {cs : Array Value} {T : TypeId} (h : w.heap[b]? = some (.cells cs T (0, 0))) (o : Nat) (v : Value) : (w.setCell ⟨b, o, none⟩ v).heap[b]? = some (.cells (cs.setIfInBounds o v) T (0, 0)) := by
  unfold World.setCell
  simp [Array.getElem?_modify, h]
theorem Fr.of_below2 {X : Nat → Prop} {w w' : World} {b : Nat} (h : Below w.heap.size w w') (_ : b < w.heap.size) : Fr X w w' := ⟨h.os, h.tape, h.output, h.size, fun k hk _ => h.block k hk⟩
theorem conv8 (w : World) (x0 x1 x2 x3 x4 x5 x6 x7 : Int) : ∃ s : ByteArray, (convert 115 9 (.slice (some ⟨w.heap.size, 0, none⟩) 8 8)).run Tryz.prog (w.alloc (.cells #[.int .u8 x0, .int .u8 x1, .int .u8 x2, .int .u8 x3, .int .u8 x4, .int .u8 x5, .int .u8 x6, .int .u8 x7] 5))
    = .ok (.string s) (w.alloc (.cells #[.int .u8 x0, .int .u8 x1, .int .u8 x2, .int .u8 x3, .int .u8 x4, .int .u8 x5, .int .u8 x6, .int .u8 x7] 5)) := by
  refine ⟨[x0, x1, x2, x3, x4, x5, x6, x7].foldl (fun r n => r.push (UInt8.ofNat n.toNat)) ByteArray.empty, ?_⟩
  rw [run_convert_bytes_string _ _ _ 5 _ _ _ Tryz.underlying115 Tryz.underlying5 Tryz.underlying9]
  exact run_bytesToString _ _ 8 8 [x0, x1, x2, x3, x4, x5, x6, x7] (run_loadCells_list (P := Tryz.prog) _ ⟨w.heap.size, 0, none⟩ ([x0, x1, x2, x3, x4, x5, x6, x7].map (Value.int .u8)) (fun j v hj => by
    rw [Addr.add_lit, Nat.zero_add]
    exact new_cell w _ _ j v (by simpa using hj)))
set_option maxRecDepth 100000 in
set_option maxHeartbeats 4000000 in
theorem markText_calls (k i : Int) (w : World) : Calls Tryz.prog 205 #[.int .i64 k, .int .i64 i] w fun e w' => (∃ s : ByteArray, e = .returned (.string s)) ∧ Below w.heap.size w w' := by
  obtain ⟨s, hs⟩ := conv8 w 35 (k % 256) (k / 256 % 256) (k / 65536 % 256) 47 (i % 256) (i / 256 % 256) (i / 65536 % 256)
  go_enter Tryz.func205, Tryz.ntmps205
  go_wp2
  go_ret
  exact ⟨⟨_, rfl⟩, (Below.refl _ _).alloc (Nat.le_refl _) _⟩
set_option maxRecDepth 100000 in
set_option maxHeartbeats 4000000 in
theorem markLabel_calls (k i : Int) (w : World) : Calls Tryz.prog 182 #[.int .i64 k, .int .i64 i] w fun e w' => (∃ s t : ByteArray, e = .returned (.agg #[.string s, .string t])) ∧ Below w.heap.size w w' := by
  obtain ⟨w0, hw0⟩ : ∃ q, q = w.alloc (.cells #[.string ⟨#[]⟩, .string ⟨#[]⟩] 79) := ⟨_, rfl⟩
  have hk0 : w0.heap[w.heap.size]? = some (.cells #[.string ⟨#[]⟩, .string ⟨#[]⟩] 79 (0, 0)) := by rw [hw0]; exact heap_alloc_new w _
  have hb0 : Below w.heap.size w w0 := by rw [hw0]; exact (Below.refl _ _).alloc (Nat.le_refl _) _
  have H0 := Lib.hid (And.intro hk0 hb0)
  clear hk0 hb0
  go_enter Tryz.func182, Tryz.ntmps182
  go_wp2_with fail
  rw [← hw0]
  clear hw0
  go_at_call 205
  refine (markText_calls k i w0).mono ?_
  rintro e w1 ⟨⟨s, rfl⟩, hb1⟩
  have H1 := Lib.hid (And.intro ((hb1.block _ (isT_of H0.out.1).lt).trans H0.out.1) (Bthen H0.out.2 hb1))
  clear hb1
  go_wp2_with fail
  go_at_call 205
  refine (markText_calls _ _ w1).mono ?_
  rintro e w2 ⟨⟨t, rfl⟩, hb2⟩
  have hk2 := (hb2.block _ (isT_of H1.out.1).lt).trans H1.out.1
  have HB := Lib.hid (Bthen H1.out.2 hb2)
  have r0 := block_cell hk2 0 _ rfl
  have r1 := block_cell hk2 1 _ rfl
  have z0 := block_froz hk2 0
  have z1 := block_froz hk2 1
  have hl := (isT_of hk2).lt
  clear hb2 hk2
  go_wp2
  refine bodyPost_ret (v := .agg #[.string s, .string t]) (by simp [results, Tryz.results182, go_sem, r0, r1]) rfl ⟨⟨s, t, rfl⟩, ?_⟩
  iterate 2 (refine Below.setCell ?_ (by exact Nat.le_refl _) _)
  exact HB.out
/-- a block of labels with room for c of them, that may be written -/
def LBk (w : World) (b c : Nat) : Prop := ∃ cur : Array Value, w.heap[b]? = some (.cells cur 79 (0, 0)) ∧ cur.size = c * 2
theorem LBk.set {w : World} {b c : Nat} (h : LBk w b c) (b' j : Nat) (u : Value) : LBk (w.setCell ⟨b', j, none⟩ u) b c := by
  obtain ⟨cur, h1, h2⟩ := h
  by_cases hp : b = b'
  · subst hp
    exact ⟨_, blk_setM h1 j u, by simpa using h2⟩
  · exact ⟨cur, (Below.heap_setCell _ _ _ _ hp).trans h1, h2⟩
theorem LBk.at_ {w : World} {b c j : Nat} (h : LBk w b c) (hj : j < c * 2) : ∃ u, w.cell? ⟨b, j, none⟩ = some u ∧ w.frozen? ⟨b, j, none⟩ = false := by
  obtain ⟨cur, h1, h2⟩ := h
  refine ⟨cur[j]'(by omega), ?_, by simp [World.frozen?, h1]⟩
  simp only [World.cell?, h1]
  rw [Array.getElem?_eq_getElem (by omega)]
  rfl
theorem LBk.below {w w' : World} {b c : Nat} (h : LBk w b c) (hb : Below w.heap.size w w') : LBk w' b c := by
  obtain ⟨cur, h1, h2⟩ := h
  exact ⟨cur, (hb.block _ (isT_of h1).lt).trans h1, h2⟩
theorem LBk.lt {w : World} {b c : Nat} (h : LBk w b c) : b < w.heap.size := by
  obtain ⟨cur, h1, _⟩ := h
  exact (isT_of h1).lt
theorem LZ.bk {B c : Nat} {w : World} {a : Option Addr} (h : LZ B w a c) {q : Addr} (e : a = some q) : q = ⟨q.block, 0, none⟩ ∧ LBk w q.block c := by
  obtain ⟨_, h2, h3, cur, h4, h5, _⟩ := h q e
  obtain ⟨b, o, s⟩ := q
  dsimp only at h2 h3 h4 ⊢
  subst h2 h3
  exact ⟨rfl, cur, h4, h5⟩
set_option maxRecDepth 100000 in
set_option maxHeartbeats 4000000 in
theorem over_calls (b n c : Nat) (w : World) (h : LBk w b c) (_hn : n ≤ c) (hc : c ≤ 9223372036854775807) :
    Calls Tryz.prog 158 #[.slice (some ⟨b, 0, none⟩) n c] w fun e w' => e = .returned (.tuple #[]) ∧ Fr (fun k => k = b) w w' ∧ LBk w' b c := by
  have H := Lib.hid h
  clear h
  go_enter Tryz.func158, Tryz.ntmps158
  go_wp2_with fail
  go_loopw [3] (fun i wr => ∃ k : Nat, k ≤ c ∧ i = .int .i64 k ∧ Fr (fun k => k = b) w wr ∧ LBk wr b c) (fun i _ => c - (intOf i).toNat)
  case atStart => exact ⟨0, Nat.zero_le _, rfl, Fr.refl _ _, H.out⟩
  case round =>
    obtain ⟨k, hk, rfl, hf, hb⟩ := hrel
    obtain ⟨w1, hw1⟩ : ∃ q, q = wr := ⟨_, rfl⟩
    subst hw1
    have H1 := Lib.hid (And.intro hf hb)
    clear hf hb
    by_cases hlt : k < c
    · go_wp2_with fail
      go_at_call 182
      refine (markLabel_calls _ _ w1).mono ?_
      rintro e w2 ⟨⟨s, t, rfl⟩, hb2⟩
      have hbk := H1.out.2.below hb2
      obtain ⟨u0, d0, f0⟩ := hbk.at_ (j := k * 2) (by omega)
      obtain ⟨u1, d1, f1⟩ := hbk.at_ (j := k * 2 + 1) (by omega)
      have hlt2 := hbk.lt
      have H2 := Lib.hid (And.intro (H1.out.1.trans (Fr.of_below2 hb2 H1.out.2.lt)) hbk)
      clear hb2 hbk
      go_wp2_with fail
      go_roundw
      case rel => exact ⟨k + 1, by omega, by go_num, (H2.out.1.setCell (p := ⟨b, k * 2, none⟩) rfl _).setCell (p := ⟨b, k * 2 + 1, none⟩) rfl _, (H2.out.2.set _ _ _).set _ _ _⟩
      case measure => simp [intOf]; omega
    · have HE := Lib.hid H1.out
      clear H1
      go_wp2_with fail
      go_end0
      exact ⟨rfl, HE.out.1, HE.out.2⟩
end Go.Proofs.YtdgfldeeflmnmaaGreatDoor.Sk
namespace Go.Proofs.YtdgfldeeflmnmaaGreatDoor.Sk
open Go Go.RowKit
/-- the blocks of entries' labels -/
def SpX (l : List SE) (k : Nat) : Prop := ∃ x ∈ l, ∃ q : Addr, x.la = some q ∧ k = q.block
/-- entries' labels may be written -/
def SpS (l : List SE) (w : World) : Prop := ∀ x ∈ l, (x.la = none → x.e.lab = []) ∧ ∀ q, x.la = some q → q = ⟨q.block, 0, none⟩ ∧ x.e.lab.length ≤ x.lc ∧ x.lc ≤ 9223372036854775807 ∧ LBk w q.block x.lc
theorem SpS.set {l : List SE} {w : World} (h : SpS l w) (b j : Nat) (u : Value) : SpS l (w.setCell ⟨b, j, none⟩ u) := fun x hx => ⟨(h x hx).1, fun q e => by
  obtain ⟨h1, h2, h3, h4⟩ := (h x hx).2 q e
  exact ⟨h1, h2, h3, h4.set _ _ _⟩⟩
theorem SpS.below {l : List SE} {w w' : World} (h : SpS l w) (hb : Below w.heap.size w w') : SpS l w' := fun x hx => ⟨(h x hx).1, fun q e => by
  obtain ⟨h1, h2, h3, h4⟩ := (h x hx).2 q e
  exact ⟨h1, h2, h3, h4.below hb⟩⟩
theorem SpS.fr {l m : List SE} {w w' : World} (h : SpS l w) (hf : Fr (SpX m) w w') (hm : SpS m w') (hs : ∀ x ∈ m, x ∈ l) : SpS l w' := fun y hy => ⟨(h y hy).1, fun q e => by
  obtain ⟨h1, h2, h3, h4⟩ := (h y hy).2 q e
  refine ⟨h1, h2, h3, ?_⟩
  obtain ⟨cur, k1, k2⟩ := h4
  by_cases hX : SpX m q.block
  · obtain ⟨x, hx, p, ep, e2⟩ := hX
    obtain ⟨_, _, _, c2, j1, j2⟩ := (h x (hs x hx)).2 p ep
    obtain ⟨_, _, _, hb⟩ := (hm x hx).2 p ep
    rw [← e2, k1] at j1
    cases j1
    rw [e2, show y.lc = x.lc by omega]
    exact hb
  · exact ⟨cur, (hf.block _ (isT_of k1).lt hX).trans k1, k2⟩⟩
theorem LBk.isT {w : World} {b c : Nat} (h : LBk w b c) : Go.Proofs.YtdgfldeeflmnmaaGreatDoor.Sk.isT w b 79 := by
  obtain ⟨cur, h1, _⟩ := h
  exact ⟨_, _, h1⟩
theorem spS_of {B : Nat} {l : List SE} {w : World} (h : ∀ x ∈ l, LlF B w x.la x.lc x.e.lab) : SpS l w := fun x hx => ⟨fun e => ((h x hx).ll.nil e).1, fun q e => by
  obtain ⟨h1, h2⟩ := (h x hx).lz.bk e
  obtain ⟨_, _, _, _, _, _, h3⟩ := (h x hx).lz q e
  exact ⟨h1, (h x hx).le, h3, h2⟩⟩
set_option maxRecDepth 100000 in
set_option maxHeartbeats 4000000 in
theorem spoil_calls (a : Option Addr) (c : Nat) (l : List SE) (w : World) (hl : RdF w a (eFlat l)) (hrow : ∀ q, a = some q → isT w q.block 34) (hs : SpS l w) (hn : l.length ≤ 1000000) :
    Calls Tryz.prog 68 #[.slice a l.length c] w fun e w' => e = .returned (.tuple #[]) ∧ Fr (SpX l) w w' ∧ SpS l w' := by
  have HR := Lib.hid (And.intro hl (And.intro hrow hs))
  clear hl hrow hs
  go_enter Tryz.func68, Tryz.ntmps68
  go_wp2_with fail
  go_loopw [7] (fun i wr => ∃ k : Nat, k ≤ l.length ∧ i = .int .i64 k ∧ Fr (SpX l) w wr ∧ SpS l wr) (fun i _ => l.length - (intOf i).toNat)
  case atStart => exact ⟨0, Nat.zero_le _, rfl, Fr.refl _ _, HR.out.2.2⟩
  case round =>
    obtain ⟨k, hk, rfl, hf, hsp⟩ := hrel
    obtain ⟨w1, hw1⟩ : ∃ q, q = wr := ⟨_, rfl⟩
    subst hw1
    by_cases hlt : k < l.length
    · obtain ⟨x, hx⟩ : ∃ x, l[k]? = some x := ⟨_, List.getElem?_eq_getElem hlt⟩
      have hxm := List.mem_of_getElem? hx
      have hne : ∀ q, a = some q → ¬ SpX l q.block := fun q e hX => by
        obtain ⟨y, hy, p, ep, e2⟩ := hX
        have h1 := (((HR.out.2.2 y hy).2 p ep).2.2.2).isT
        have h2 := HR.out.2.1 q e
        exact h1.ne h2 (by decide) e2.symm
      have hrd : RdF w1 a (eFlat l) := HR.out.1.fr hf hne
      obtain ⟨b, off, e, hbl, hc⟩ := hrd (by
        intro e
        have h1 := congrArg List.length e
        rw [eFlat_length] at h1
        simp at h1
        omega)
      subst e
      have hcc : ∀ j u, (eB x)[j]? = some u → w1.cell? ⟨b, off + k * 6 + j, none⟩ = some u := fun j u hu => by
        rw [Nat.add_assoc]
        exact hc _ _ (flat_at eB 6 (fun _ => rfl) hx hu)
      have c0 := hcc 0 _ rfl
      rw [Nat.add_zero] at c0
      have c1 := hcc 1 _ rfl
      have c2 := hcc 2 _ rfl
      have c3 := hcc 3 _ rfl
      have c4 := hcc 4 _ rfl
      have c5 := hcc 5 _ rfl
      have H1 := Lib.hid (And.intro hf hsp)
      have HX := Lib.hid hxm
      clear hf hsp hne hrd hc hcc hx hxm
      go_wp2_with fail
      obtain ⟨w2, hw2⟩ : ∃ q, q = w1.alloc (.cells #[.slice x.la x.e.lab.length x.lc, .bool x.e.mark, .int .u64 x.e.bits, .bool x.e.st, .int .i64 x.e.time, .int .i64 x.e.stamp] 34) := ⟨_, rfl⟩
      obtain ⟨gY, hgY⟩ : ∃ q, q = w1.heap.size := ⟨_, rfl⟩
      have hb2 : Below w1.heap.size w1 w2 := by rw [hw2]; exact (Below.refl _ _).alloc (Nat.le_refl _) _
      have hk2 : w2.heap[gY]? = some (.cells #[.slice x.la x.e.lab.length x.lc, .bool x.e.mark, .int .u64 x.e.bits, .bool x.e.st, .int .i64 x.e.time, .int .i64 x.e.stamp] 34 (0, 0)) := by rw [hw2, hgY]; exact heap_alloc_new w1 _
      rw [← hw2, ← hgY]
      have H2 := Lib.hid (And.intro (H1.out.1.trans (Fr.of_below2 (b := b) hb2 hbl)) (And.intro (H1.out.2.below hb2) hk2))
      clear hw2 hgY hb2 hk2 c0 c1 c2 c3 c4 c5 hbl H1
      go_loopw [4, 14] (fun _ i wr => ∃ j : Nat, j ≤ x.e.lab.length ∧ i = .int .i64 j ∧ Fr (SpX l) w wr ∧ SpS l wr ∧ wr.heap[gY]? = some (.cells #[.slice x.la x.e.lab.length x.lc, .bool x.e.mark, .int .u64 x.e.bits, .bool x.e.st, .int .i64 x.e.time, .int .i64 x.e.stamp] 34 (0, 0))) (fun _ i _ => x.e.lab.length - (intOf i).toNat)
      case atStart => exact ⟨0, Nat.zero_le _, rfl, H2.out.1, H2.out.2.1, H2.out.2.2⟩
      case round =>
        obtain ⟨j, hj, rfl, hf, hsp, hkY⟩ := hrel
        obtain ⟨w3, hw3⟩ : ∃ q, q = wr := ⟨_, rfl⟩
        subst hw3
        by_cases hjl : j < x.e.lab.length
        · obtain ⟨hnil, hall⟩ := hsp x HX.out
          rcases hla : x.la with _ | q
          · have := hnil hla
            rw [this] at hjl
            simp at hjl
          · obtain ⟨hq, hle, hcm, hbk⟩ := hall q hla
            obtain ⟨g, hg⟩ : ∃ g, g = q.block := ⟨_, rfl⟩
            rw [← hg] at hq hbk
            subst hq
            have hgX : SpX l g := ⟨x, HX.out, _, hla, rfl⟩
            rw [hla] at hkY
            obtain ⟨u0, d0, f0⟩ := hbk.at_ (j := j * 2) (by omega)
            obtain ⟨u1, d1, f1⟩ := hbk.at_ (j := j * 2 + 1) (by omega)
            have hgl := hbk.lt
            have hgne : gY ≠ g := (isT_of hkY).ne hbk.isT (by decide)
            have y0 := block_cell hkY 0 _ rfl
            have hyl := (isT_of hkY).lt
            have H3 := Lib.hid (And.intro hf (And.intro hsp (And.intro hkY (And.intro hgX (And.intro hgne hla)))))
            clear hf hsp hkY hgX hgne hnil hall hbk hg hla
            go_wp2_with fail
            go_roundw
            case rel =>
              refine ⟨j + 1, by omega, by go_num, (H3.out.1.setCell (p := ⟨g, j * 2, none⟩) H3.out.2.2.2.1 _).setCell (p := ⟨g, j * 2 + 1, none⟩) H3.out.2.2.2.1 _, (H3.out.2.1.set _ _ _).set _ _ _, ?_⟩
              exact (Below.heap_setCell _ _ _ _ H3.out.2.2.2.2.1).trans ((Below.heap_setCell _ _ _ _ H3.out.2.2.2.2.1).trans H3.out.2.2.1)
            case measure => simp [intOf]; omega
        · have HE := Lib.hid (And.intro hf hsp)
          clear hf hsp hkY
          go_wp2_with fail
          go_roundw
          case rel => exact ⟨k + 1, by omega, by go_num, HE.out.1, HE.out.2⟩
          case measure => simp [intOf]; omega
    · have HE := Lib.hid (And.intro hf hsp)
      clear hf hsp
      go_wp2_with fail
      go_end0
      exact ⟨rfl, HE.out.1, HE.out.2⟩
end Go.Proofs.YtdgfldeeflmnmaaGreatDoor.Sk
