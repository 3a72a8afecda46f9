/- Chapter 38: sink.Check. -/
import Derived.Test.YtmagojckhfkcdaaGreatDoorKoA
namespace Go.Proofs.YtmagojckhfkcdaaGreatDoor.Sk
open Go Go.RowKit
/-- the slice at a reads as the items l, of any type -/
structure RdJ (w : World) (a : Option Addr) (l : List SI) : Prop where
  rd : RdF w a (iFlat l)
  lab : ∀ x ∈ l, RdL w x.la x.e.lab
theorem RdJ.below {w w' : World} {a : Option Addr} {l : List SI} (h : RdJ w a l) (hb : Below w.heap.size w w') : RdJ w' a l := ⟨h.rd.below hb, fun x hx => (h.lab x hx).below hb (Nat.le_refl _)⟩
theorem RdJ.at_ {w : World} {a : Option Addr} {l : List SI} (h : RdJ w a l) {k : Nat} {x : SI} (hx : l[k]? = some x) :
    ∃ b off, a = some ⟨b, off, none⟩ ∧ b < w.heap.size ∧ ∀ j u, (iB x)[j]? = some u → w.cell? ⟨b, off + k * 7 + j, none⟩ = some u := by
  obtain ⟨b, off, e, hl, hc⟩ := h.rd (iFlat_ne (by intro e; subst e; simp at hx))
  refine ⟨b, off, e, hl, fun j u hu => ?_⟩
  rw [Nat.add_assoc]
  exact hc _ _ (flat_at iB 7 (fun _ => rfl) hx hu)
theorem RdI.j {w : World} {a : Option Addr} {l : List SI} (h : RdI w a l) : RdJ w a l := by
  refine ⟨fun hx => ?_, fun x hx => (h.lab x hx).rd⟩
  obtain ⟨b, off, e, ht, hc⟩ := h.rd (by intro e; subst e; exact hx rfl)
  exact ⟨b, off, e, ht.lt, hc⟩
/-- what Check asks of items that may be wrong -/
structure IsOk (l : List SI) : Prop where
  ky : ∀ x ∈ l, x.key.size ≤ 1100000
  ln : ∀ x ∈ l, x.e.lab.length ≤ 1000000000
  sz : ∀ x ∈ l, ∀ y ∈ x.e.lab, y.2.size ≤ 4611686018427387904
def ChkPost (l : List It) (w : World) (e : Ending) (w' : World) : Prop := e = .returned (.tuple #[.int .i64 (check l).1, .int .i64 (check l).2]) ∧ Below w.heap.size w w'
def ChkInv (l : List SI) (mb : Nat) (w : World) (i : Value) (wr : World) : Prop :=
  ∃ (k n : Nat) (f : Line → Last), k ≤ l.length ∧ i = .int .i64 k ∧ n = k ∧ MapIs wr mb n f ∧ check (l.map SI.it) = chkGo f k ((l.drop k).map SI.it) ∧ Below w.heap.size w wr
set_option maxRecDepth 100000 in
set_option maxHeartbeats 4000000 in
theorem check_callsJ (a : Option Addr) (cap : Nat) (l : List SI) (w : World) (hv : Kv w) (hl : RdJ w a l) (ho : IsOk l) (hn : l.length ≤ 1100000) :
    Calls Tryz.prog 14 #[.slice a l.length cap] w (ChkPost (l.map SI.it) w) := by
  have hmm := @run_makeMap Tryz.prog
  have HR := Lib.hid (And.intro hv (And.intro hl ho))
  clear hv hl ho
  go_enter Tryz.func14, Tryz.ntmps14
  go_wp2_with fail
  go_loopw [11] (fun i wr => ChkInv l w.heap.size w i wr) (fun i _ => l.length - (intOf i).toNat)
  case atStart => exact ⟨0, 0, fun _ => none, Nat.zero_le _, rfl, rfl, MapIs.new w, rfl, (Below.refl _ _).alloc (Nat.le_refl _) _⟩
  case round =>
    obtain ⟨k, n, f, hk, rfl, hnk, hmap, hchk, hb⟩ := hrel
    have hbs := hb.size
    have hml := hmap.lt
    have HM := Lib.hid (And.intro hmap (And.intro hchk hb))
    clear hmap hchk hb
    by_cases hlt : k < l.length
    · obtain ⟨x, hx⟩ : ∃ x, l[k]? = some x := ⟨_, List.getElem?_eq_getElem hlt⟩
      have hxm := List.mem_of_getElem? hx
      obtain ⟨b, off, e, hbl, hc⟩ := (HR.out.2.1.below HM.out.2.2).at_ hx
      subst e
      have hdr : l.drop k = x :: l.drop (k + 1) := by rw [List.drop_eq_getElem_cons hlt, (List.getElem?_eq_some_iff.1 hx).2]
      have HX := Lib.hid (And.intro (HR.out.2.2.ky x hxm) (And.intro (HR.out.2.2.ln x hxm) (And.intro (HR.out.2.2.sz x hxm) (And.intro ((HR.out.2.1.lab x hxm).below HM.out.2.2 (Nat.le_refl _)) hdr))))
      have c0 := hc 0 _ rfl
      rw [Nat.add_zero] at c0
      have c1 := hc 1 _ rfl
      have c2 := hc 2 _ rfl
      have c3 := hc 3 _ rfl
      have c4 := hc 4 _ rfl
      have c5 := hc 5 _ rfl
      have c6 := hc 6 _ rfl
      obtain ⟨w0, hw0⟩ : ∃ q, q = wr := ⟨_, rfl⟩
      subst hw0
      clear hc hx hxm hdr
      go_wp2_with fail
      go_at_call 10
      have hb1 : Below w0.heap.size w0 (w0.alloc (.cells (iB x).toArray 40)) := (Below.refl _ _).alloc (Nat.le_refl _) _
      refine (sright_calls x.key x.la x.lc x.e _ HX.out.1 (HX.out.2.2.2.1.below hb1 (Nat.le_refl _)) HX.out.2.1 HX.out.2.2.1 (HR.out.1.below (Bthen HM.out.2.2 hb1) (Nat.le_refl _))).mono ?_
      rintro e w2 ⟨rfl, hb2⟩
      have hb02 : Below w0.heap.size w0 w2 := Bthen hb1 hb2
      have hblk : w2.heap[w0.heap.size]? = some (.cells (iB x).toArray 40 (0, 0)) := (hb2.block _ (by simp)).trans (heap_alloc_new w0 _)
      have d0 : w2.cell? ⟨w0.heap.size, 0, none⟩ = some (.string x.key) := block_cell hblk 0 _ rfl
      have d1 : w2.cell? ⟨w0.heap.size, 1, none⟩ = some (.slice x.la x.e.lab.length x.lc) := block_cell hblk 1 _ rfl
      have d2 : w2.cell? ⟨w0.heap.size, 2, none⟩ = some (.bool x.e.mark) := block_cell hblk 2 _ rfl
      have d3 : w2.cell? ⟨w0.heap.size, 3, none⟩ = some (.int .u64 x.e.bits) := block_cell hblk 3 _ rfl
      have d4 : w2.cell? ⟨w0.heap.size, 4, none⟩ = some (.bool x.e.st) := block_cell hblk 4 _ rfl
      have d5 : w2.cell? ⟨w0.heap.size, 5, none⟩ = some (.int .i64 x.e.time) := block_cell hblk 5 _ rfl
      have d6 : w2.cell? ⟨w0.heap.size, 6, none⟩ = some (.int .i64 x.e.stamp) := block_cell hblk 6 _ rfl
      have HM2 := Lib.hid (And.intro (HM.out.1.below hb02 (Nat.le_refl _)) (And.intro (HX.out.2.2.2.1.below hb02 (Nat.le_refl _)) (Bthen HM.out.2.2 hb02)))
      clear hb1 hb2 hb02 hblk c0 c1 c2 c3 c4 c5 c6
      cases hir : itemRight (d x.key) x.e with
      | false =>
        have HE : Hid (check (l.map SI.it) = (↑k, 380)) := Lib.hid (by rw [HM.out.2.1, HX.out.2.2.2.2, List.map_cons, chkGo, if_neg (by rw [show (SI.it x).e = x.e from rfl, show (SI.it x).key = x.key from rfl, hir]; decide)])
        clear hir
        go_wp2_with fail
        go_ret2
        exact ⟨by rw [HE.out]; rfl, HM2.out.2.2⟩
      | true =>
        have HIR := Lib.hid hir
        clear hir
        go_wp2_with fail
        go_at_call 34
        refine (follow_calls w.heap.size n f x.key x.la x.lc x.e w2 HM2.out.1 (by omega) HX.out.1 HM2.out.2.1 (right_lab HIR.out)).mono ?_
        rintro e w3 ⟨rfl, hf3, hm3⟩
        obtain ⟨er, her⟩ : ∃ er, er = fol f ⟨x.key, x.e⟩ := ⟨_, rfl⟩
        rw [← her] at hm3 ⊢
        have hb3 : Below w.heap.size w w3 := HM2.out.2.2.trans (hf3.below (B := w.heap.size) (fun k hk e => by omega) HM2.out.2.2.size)
        have H3 := Lib.hid (And.intro her (And.intro hm3 hb3))
        clear her hm3 hf3 hb3 d0 d1 d2 d3 d4 d5 d6
        rcases (show (er != 0) = true ∨ (er != 0) = false by cases (er != 0) <;> simp) with he0 | he0
        · have HE : Hid (check (l.map SI.it) = (↑k, er)) := Lib.hid (by
            rw [HM.out.2.1, HX.out.2.2.2.2, List.map_cons, chkGo, if_pos (by exact HIR.out), if_neg (by rw [show fol f (SI.it x) = er from H3.out.1.symm]; simpa using he0), H3.out.1]
            rfl)
          go_wp2_with fail
          go_ret2
          exact ⟨by rw [HE.out]; rfl, H3.out.2.2⟩
        · have HZ : Hid (er = 0) := Lib.hid (by simpa using he0)
          go_wp2_with fail
          go_roundw
          case rel =>
            refine ⟨k + 1, n + 1, know f x.it, by omega, by go_num, by omega, ?_, ?_, H3.out.2.2⟩
            · have := H3.out.2.1
              rw [if_pos HZ.out] at this
              exact this
            · rw [HM.out.2.1, HX.out.2.2.2.2, List.map_cons, chkGo, if_pos (by exact HIR.out), if_pos (by rw [show fol f (SI.it x) = er from H3.out.1.symm]; exact HZ.out)]
              rfl
          case measure => simp [intOf]; omega
    · obtain rfl : k = l.length := by omega
      have HE : Hid (check (l.map SI.it) = (-1, 0)) := Lib.hid (by rw [HM.out.2.1, List.drop_of_length_le (Nat.le_refl _)]; rfl)
      go_wp2_with fail
      go_ret2
      exact ⟨by rw [HE.out]; rfl, HM.out.2.2⟩
theorem check_calls (a : Option Addr) (cap : Nat) (l : List SI) (w : World) (hv : Kv w) (hl : RdI w a l) (ho : IsOk l) (hn : l.length ≤ 1100000) :
    Calls Tryz.prog 14 #[.slice a l.length cap] w (ChkPost (l.map SI.it) w) := check_callsJ a cap l w hv hl.j ho hn
end Go.Proofs.YtmagojckhfkcdaaGreatDoor.Sk
