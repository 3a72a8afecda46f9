/- Several parts in one text: RgT, KoF, KoG. -/
import Derived.RangeFuncNested
import Derived.RangeFuncBound
import Derived.RangeFuncCalls
import Derived.RangeFuncLeaves
import Derived.RangeFuncBox
import Derived.Shelf.Abstract
import Derived.Shelf.RegionOpen
import Derived.OwnWalkIn
import Derived.TacticsInMore
import Derived.LoopNIn
import Derived.LoopIn
import Derived.WalkKit
import Derived.Test.YtiooimdncocfdaaGreatDoorKvA
/- A loop over an iterator that tells, at each round, what holds of the world there: its body goes through every round. -/
namespace Go.Proofs.YtiooimdncocfdaaGreatDoor
open Go Go.RowKit
/-- the iterator's contract: what it tells of x at its yield (Px), what of all of them at the end (S) -/
def Teller {α : Type} (F : Fence) (n : Nat) (P : Program) (gf : Nat) (lb : Array Value) (encs : α → Array Value) (Px : List α → α → World → Prop) (Kp : World → World → Prop) (S : List α → World → Prop) (w : World) : Prop :=
  ∀ (l : Nat) (J : List α → World → Prop) (W : World), Below w.heap.size w W → AbidesFrom W.heap.size J →
    (∀ pre x W1, J pre W1 → Px pre x W1 → YieldAt F (n - 1) P l (encs x) W1 fun e W' => e = .returned (.bool true) ∧ J (pre ++ [x]) W' ∧ Kp W1 W') →
    J [] W → CallsIn F n P gf (#[.func (.yield l) #[] #[]] ++ lb) W fun e W' => (∃ v, e = .returned v) ∧ ∃ xs, S xs W' ∧ J xs W'
/-- how a round's body ends -/
def TellEnd {α : Type} (B : Nat) (Kp : World → World → Prop) (I : List α → World → Prop) (xs : List α) (W : World) : Exit → Act → World → Prop
  | .normal, _, W' => KeepsFrom B W W' ∧ Kp W W' ∧ I xs W'
  | _, _, _ => False
variable {F : Fence} {n : Nat} {P : Program}
theorem range_tell {α : Type} {g : Operand} {ps : Array Tmp} {assign body : Code} {Q : Exit → Act → World → Prop} {a : Act} {w : World}
    (hro : F.round = none) (h1 : 1 ≤ n) {gf : Nat} {lb : Array Value} (hg : a.eval g = .func (.func gf) #[] lb) (hFg : F.fn gf) (eg : ∀ args w, (callFunc gf args).run P w = .ok (.enter gf args) w)
    {encs : α → Array Value} {Px : List α → α → World → Prop} {Kp : World → World → Prop} {S : List α → World → Prop} (hseq : Teller F (n - 1) P gf lb encs Px Kp S w)
    (hps : ∀ x, (encs x).size = ps.size) (hKt : ∀ {A B C : World}, Kp A B → Kp B C → Kp A C) (hKb : ∀ (W : World) (o o' : Obj), W.heap[w.heap.size + 1]? = some o → o.isCells = false → Kp W (W.putObj (w.heap.size + 1) o'))
    (I : List α → World → Prop) (hI : OwnFrom w.heap.size I) (h0 : I [] w) (hS : OwnFrom w.heap.size S) (Ax : List α → α → Act → World → Prop) (hAx : ∀ pre x a', OwnFrom w.heap.size (fun (_ : Unit) W => Ax pre x a' W))
    (hassign : ∀ (l : Nat) (pre : List α) (x : α) (W : World) (K : Act → World → Prop), I pre W → Px pre x W → (∀ a' W', KeepsFrom w.heap.size W W' → Kp W W' → I pre W' → Ax pre x a' W' → K a' W') →
      assign.wpIn (F.inRound l) (n - 1 - 1) P (Exit.then K (fun _ _ _ => False)) { tmps := (ps.zip (encs x)).foldl (fun t (p, v) => t.setIfInBounds p v) a.tmps, defers := [] } W)
    (hbody : ∀ (l : Nat) (pre : List α) (x : α) (a' : Act) (W : World), w.heap.size ≤ l → I pre W → Ax pre x a' W → body.wpIn (F.inRound l) (n - 1 - 1) P (TellEnd w.heap.size Kp I (pre ++ [x]) W) a' W)
    (hdone : ∀ (D : Nat) (xs : List α) (W : World), w.heap.size ≤ D → S xs W → I xs W → W.heap[D]? = some (.deferred (some [])) → Q .normal { a with defers := { target := .collected D, args := #[] } :: a.defers } W) :
    (Code.rangeFunc g ps assign body).wpIn F n P Q a w := by
  refine wpIn_rangeFunc ?_
  intro fn hfn
  rw [hro]
  obtain ⟨rc, hrc⟩ : ∃ rc : LoopState → Loop, rc = fun st => { state := st, pending := none, fn, tmps := a.tmps, params := ps, assign, body, defers := w.heap.size } := ⟨_, rfl⟩
  -- the two blocks that keep the loop's books
  have hbk : ∀ W : World, (W.heap[w.heap.size + 1]? = some (.loop (rc .ready)) ∧ W.heap[w.heap.size]? = some (.deferred (some []))) → w.heap.size + 1 < W.heap.size := fun W h => (Array.getElem?_eq_some_iff.1 h.1).1
  have hnew : ((w.alloc (.deferred (some []))).alloc (.loop (rc .ready))).heap[w.heap.size + 1]? = some (.loop (rc .ready)) := by
    have h := heap_alloc_new (w.alloc (.deferred (some []))) (.loop (rc .ready))
    simpa using h
  have hold : ((w.alloc (.deferred (some []))).alloc (.loop (rc .ready))).heap[w.heap.size]? = some (.deferred (some [])) :=
    (Below.heap_alloc _ _ _ (by simp)).trans (heap_alloc_new w _)
  have hbel : Below w.heap.size w ((w.alloc (.deferred (some []))).alloc (.loop (rc .ready))) := ((Below.refl _ _).alloc (Nat.le_refl _) _).alloc (by simp) _
  refine ⟨w.heap.size + 1, [{ target := .collected w.heap.size, args := #[] }], (w.alloc (.deferred (some []))).alloc (.loop (rc .ready)), { target := .fn (.func gf) lb, args := #[.func (.yield (w.heap.size + 1)) #[] #[]] }, ((w.alloc (.deferred (some []))).alloc (.loop (rc .ready))), gf, #[.func (.yield (w.heap.size + 1)) #[] #[]] ++ lb, ((w.alloc (.deferred (some []))).alloc (.loop (rc .ready))),
    by rw [hrc]; exact run_enterLoop_outer _ _ _ _ _, by simp only [resolve, hg]; simp [go_sem], ?_, by simp [invoke, go_sem, eg], fun _ => h1, ?_⟩
  · intro f' hf'
    simp [Target.leads] at hf'
    subst hf'
    exact hFg
  · refine (hseq (w.heap.size + 1) (fun pre W => I pre W ∧ W.heap[w.heap.size + 1]? = some (.loop (rc .ready)) ∧ W.heap[w.heap.size]? = some (.deferred (some []))) _ hbel ?_ ?_ ⟨hI.alloc _ (hI.alloc _ h0), hnew, hold⟩).mono ?_
    · intro s A B row hs hgr hr
      have hw : ∀ r, row = some r → ∃ o : Obj, A.heap[r]? = some o ∧ o.isWalk = true := fun r e => (hr r e).2
      refine ⟨hI s A B row hs.1 hgr (fun r e => ?_), (grownBy_keeps hgr hw hs.2.1 rfl).trans hs.2.1, (grownBy_keeps hgr hw hs.2.2 rfl).trans hs.2.2⟩
      obtain ⟨hB, o, ho, hwk⟩ := hr r e
      exact ⟨by simp at hB; omega, o, ho, Obj.not_cells_of_walk hwk⟩
    · rintro pre x W ⟨hi, hl, hk⟩ hx
      have hy := run_yield (P := P) (args := encs x) hl (by rw [hrc]; exact hps x)
      rw [hrc] at hy
      refine ⟨fn, _, assign, body, hy, roundIn_of_wpIn hfn (hassign _ pre x W _ hi hx ?_)⟩
      intro a' Wa hka hkp hia hax
      have hla := hka.same _ _ (by omega) hl rfl
      have hda := hka.same _ _ (Nat.le_refl _) hk rfl
      have hlt := hbk Wa ⟨hla, hda⟩
      refine ⟨_, run_beginRound hla (by rw [hrc]), ?_⟩
      obtain ⟨Wb, hWb⟩ : ∃ Wb, Wb = Wa.putObj (w.heap.size + 1) (.loop { rc .ready with state := .busy }) := ⟨_, rfl⟩
      rw [← hWb]
      have hlb : Wb.heap[w.heap.size + 1]? = some (.loop { rc .ready with state := .busy }) := by rw [hWb]; exact World.putObj_heap_same hlt
      have hdb : Wb.heap[w.heap.size]? = some (.deferred (some [])) := by rw [hWb]; exact (World.putObj_heap_other (by omega)).trans hda
      have hkb : Kp Wa Wb := by rw [hWb]; exact hKb _ _ _ hla rfl
      refine wpIn_mono (hbody (w.heap.size + 1) pre x a' Wb (by omega) (by rw [hWb]; exact hI.putObj _ hia (by omega) hla rfl) (by rw [hWb]; exact (hAx pre x a').putObj (s := ()) _ hax (by omega) hla rfl)) ?_
      intro e a3 W3 hp
      cases e with
      | normal =>
        obtain ⟨hk3, hkp3, hi3⟩ := hp
        have hl3 := hk3.same _ _ (by omega) hlb rfl
        have hd3 := hk3.same _ _ (Nat.le_refl _) hdb rfl
        have hr3 := run_endRound (P := P) none hl3
        refine ⟨_, _, hr3, rfl, ⟨hI.putObj _ hi3 (by omega) hl3 rfl, ?_, (World.putObj_heap_other (by omega)).trans hd3⟩, hKt hkp (hKt hkb (hKt hkp3 (hKb _ _ _ hl3 rfl)))⟩
        have h4 := World.putObj_heap_same (o := .loop { { rc .ready with state := .busy } with state := if (none : Option Code).isNone then .ready else .done, pending := none }) (Array.getElem?_eq_some_iff.1 hl3).1
        rw [h4, hrc]
        rfl
      | ret => exact hp.elim
      | exit id => exact hp.elim
      | goto t => exact hp.elim
      | panic ch => exact hp.elim
      | outgrown => exact hp.elim
    · rintro e W2 ⟨⟨v, rfl⟩, xs, hs, hi, hl, hk⟩
      have hr2 := run_endLoop (P := P) hl (by rw [hrc]; simp)
      rw [hrc] at hr2
      exact ⟨none, _, hr2, hdone _ xs _ (Nat.le_refl _) (hS.putObj _ hs (by omega) hl rfl) (hI.putObj _ hi (by omega) hl rfl) ((World.putObj_heap_other (by omega)).trans hk)⟩
end Go.Proofs.YtiooimdncocfdaaGreatDoor
/- Chapter 38's sink: Of. -/
namespace Go.Proofs.YtiooimdncocfdaaGreatDoor.Sk
open Go Go.RowKit Go.Shelf
attribute [local go_sem] Oper.semAt_some
def eAgg (x : SE) : Value := .agg #[.slice x.la x.e.lab.length x.lc, .bool x.e.mark, .int .u64 x.e.bits, .bool x.e.st, .int .i64 x.e.time, .int .i64 x.e.stamp]
/-- what a round of Of keeps: whatever is no entry and no slice of entries -/
structure KpE (W W' : World) : Prop where
  size : W.heap.size ≤ W'.heap.size
  same : ∀ (b : Nat) (cs : Array Value) (T : TypeId) (fz : Nat × Nat), T ≠ 59 → T ≠ 54 → W.heap[b]? = some (.cells cs T fz) → W'.heap[b]? = some (.cells cs T fz)
theorem KpE.refl (W : World) : KpE W W := ⟨Nat.le_refl _, fun _ _ _ _ _ _ h => h⟩
theorem KpE.trans {A B C : World} (h : KpE A B) (k : KpE B C) : KpE A C := ⟨Nat.le_trans h.size k.size, fun b cs T fz h1 h2 h3 => k.same b cs T fz h1 h2 (h.same b cs T fz h1 h2 h3)⟩
theorem KpE.cell {W W' : World} (h : KpE W W') {b o : Nat} {T : TypeId} {v : Value} (hb : isT W b T) (h1 : T ≠ 59) (h2 : T ≠ 54) (hc : W.cell? ⟨b, o, none⟩ = some v) : W'.cell? ⟨b, o, none⟩ = some v := by
  obtain ⟨cs, fz, hh⟩ := hb
  have := h.same b cs T fz h1 h2 hh
  simp only [World.cell?, hh] at hc
  simp only [World.cell?, this]
  exact hc
theorem KpE.isT {W W' : World} (h : KpE W W') {b : Nat} {T : TypeId} (hb : isT W b T) (h1 : T ≠ 59) (h2 : T ≠ 54) : isT W' b T := by
  obtain ⟨cs, fz, hh⟩ := hb
  exact ⟨cs, fz, h.same b cs T fz h1 h2 hh⟩
theorem KpE.ll {W W' : World} (h : KpE W W') {a : Option Addr} {c : Nat} {l : List Lab} (hl : Ll W a c l) : Ll W' a c l := by
  refine ⟨fun hne => ?_, hl.nil⟩
  obtain ⟨b, off, e, ht, hc⟩ := hl.rd hne
  exact ⟨b, off, e, h.isT ht (by decide) (by decide), fun i x hi => ⟨h.cell ht (by decide) (by decide) (hc i x hi).1, h.cell ht (by decide) (by decide) (hc i x hi).2⟩⟩
theorem KpE.rdI {W W' : World} (h : KpE W W') {a : Option Addr} {l : List SI} (hl : RdI W a l) : RdI W' a l := by
  refine ⟨fun hne => ?_, fun x hx => h.ll (hl.lab x hx)⟩
  obtain ⟨b, off, e, ht, hc⟩ := hl.rd hne
  exact ⟨b, off, e, h.isT ht (by decide) (by decide), fun j u hu => h.cell ht (by decide) (by decide) (hc j u hu)⟩
theorem KpE.of_below {W W' : World} (h : Below W.heap.size W W') : KpE W W' := ⟨h.size, fun b _cs _T _fz _ _ hb => (h.block b (isT_of hb).lt).trans hb⟩
theorem abides_below {β : Type} {B : Nat} {J : β → World → Prop} (hJ : AbidesFrom B J) {s : β} {W W' : World} (h : J s W) (hb : Below W.heap.size W W') : J s W' :=
  hJ s W W' none h ⟨hb.os, hb.tape, hb.output, hb.size, fun k hk _ => hb.block k hk⟩ (fun r e => by cases e)
/-- the entries of a key -/
def ownE (K : ByteArray) (l : List It) : List Ent := (ownL K l).map It.e
theorem ownE_snoc_yes {K : ByteArray} {l : List It} {x : It} (h : x.key = K) : ownE K (l ++ [x]) = ownE K l ++ [x.e] := by unfold ownE; rw [ownL_snoc_yes h, List.map_append]; rfl
theorem ownE_snoc_no {K : ByteArray} {l : List It} {x : It} (h : x.key ≠ K) : ownE K (l ++ [x]) = ownE K l := by unfold ownE; rw [ownL_snoc_no h]
theorem take_snocL {α : Type} {l : List α} {k : Nat} {x : α} (h : l[k]? = some x) : l.take (k + 1) = l.take k ++ [x] := by rw [List.take_add_one, h]; rfl
def PxE (pre : List SE) (x : SE) (W : World) : Prop := Ll W x.la x.lc x.e.lab ∧ pre.length < 65536
def SE' (ents : List Ent) (xs : List SE) (W : World) : Prop := xs.map SE.e = ents ∧ ∀ x ∈ xs, Ll W x.la x.lc x.e.lab
def EnInv (K : ByteArray) (B2 : Nat) (a : Option Addr) (lo : List SI) (J : List SE → World → Prop) (i : Value) (wr : World) : Prop :=
  ∃ (k : Nat) (pre : List SE), k ≤ lo.length ∧ i = .int .i64 k ∧ pre.length ≤ k ∧ SE' (ownE K ((lo.take k).map SI.it)) pre wr ∧ J pre wr ∧ RdI wr a lo ∧ wr.heap[B2]? = some (.cells #[.string K] 9 (0, 0))
set_option maxRecDepth 100000 in
set_option maxHeartbeats 4000000 in
theorem entries_tell (K : ByteArray) (B1 B2 : Nat) (w : World) {p base mb n : Nat} {v : Value} {l : List SI} (h : SinkAt w p base mb n v l) (hb1 : w.heap[B1]? = some (.cells #[.pointer (some ⟨p, 0, none⟩)] 51 (0, 0))) (hb2 : w.heap[B2]? = some (.cells #[.string K] 9 (0, 0))) :
    Teller Fence.wide 5 Tryz.prog 172 #[.pointer (some ⟨B1, 0, none⟩), .pointer (some ⟨B2, 0, none⟩)] (fun x : SE => #[eAgg x]) PxE KpE (SE' (ownE K (l.map SI.it))) w := by
  intro l0 J W hW hJ hY h0
  have hS := h.below hW
  have hlen := h.len
  have hfr := from_calls 0 W hS
  rw [show fromS (l.map SI.it) 0 = l.map SI.it by unfold fromS; rw [if_pos ⟨by decide, by omega⟩]; rfl] at hfr
  have c1 := block_cell ((hW.block _ (isT_of hb1).lt).trans hb1) 0 _ rfl
  have H := Lib.hid (And.intro hfr (And.intro h0 (And.intro hJ (And.intro hY ((hW.block _ (isT_of hb2).lt).trans hb2)))))
  clear hS hfr h0 hJ hY h hb1 hb2 hW
  refine callsIn_of_wp Tryz.func172 rfl trivial ?_ rfl
  simp only [Tryz.ntmps172, List.size_toArray, List.length_cons, List.length_nil, Nat.reduceAdd, Nat.reduceSub, Array.replicate_succ, Array.replicate_zero, List.push_toArray, List.append_toArray, List.nil_append, List.cons_append]
  gi_wp2_with fail
  refine ⟨trivial, ?_⟩
  gi_at_call 48
  refine (callsIn_wide.2 H.out.1).mono ?_
  rintro e w1 ⟨a, c, lo, rfl, hown, hll, hm, hb⟩
  have hlo : lo.length ≤ 65536 := by have := congrArg List.length hm; rw [List.length_map, List.length_map] at this; omega
  have hj0 : J [] w1 := abides_below H.out.2.2.1 H.out.2.1 hb
  have hB2 := (hb.block B2 (isT_of H.out.2.2.2.2).lt).trans H.out.2.2.2.2
  have HL := Lib.hid (And.intro (RdI.of_own hown hll) (And.intro hm (And.intro hj0 hB2)))
  clear hown hll hm hb hj0 hB2 c1
  gi_wp2_with fail
  gi_loopw [9] (fun i wr => EnInv K B2 a lo J i wr) (fun i _ => lo.length - (intOf i).toNat)
  case atStart => exact ⟨0, [], Nat.zero_le _, rfl, Nat.le_refl _, ⟨rfl, fun x hx => by cases hx⟩, HL.out.2.2.1, HL.out.1, HL.out.2.2.2⟩
  case round =>
    obtain ⟨k, pre, hk, rfl, hpk, hse, hj, hrd, hb2⟩ := hrel
    by_cases hlt : k < lo.length
    · obtain ⟨x, hx⟩ : ∃ x, lo[k]? = some x := ⟨_, List.getElem?_eq_getElem hlt⟩
      obtain ⟨b, off, e, hbl, ht, hc⟩ := hrd.at_ hx
      cases e
      have hxm := List.mem_of_getElem? hx
      have cB : wr.cell? ⟨B2, 0, none⟩ = some (.string K) := block_cell hb2 0 _ rfl
      have c0 := hc 0 _ rfl
      rw [Nat.add_zero] at c0
      have c1 := hc 1 _ rfl
      have c2 := hc 2 _ rfl
      have c3 := hc 3 _ rfl
      have c4 := hc 4 _ rfl
      have c5 := hc 5 _ rfl
      have c6 := hc 6 _ rfl
      have hB2 := (isT_of hb2).lt
      have HX := Lib.hid (And.intro hx (And.intro hse (And.intro hj (And.intro hrd hb2))))
      obtain ⟨w0, hw0⟩ : ∃ q, q = wr := ⟨_, rfl⟩
      subst hw0
      clear hc hxm ht hx hse hj hrd hb2
      have hbd : pre.length < 65536 := by omega
      by_cases hkey : x.key = K
      · subst hkey
        have hbW : Below w0.heap.size w0 (w0.alloc (.cells #[.string x.key, .slice x.la x.e.lab.length x.lc, .bool x.e.mark, .int .u64 x.e.bits, .bool x.e.st, .int .i64 x.e.time, .int .i64 x.e.stamp] 61)) := (Below.refl _ _).alloc (Nat.le_refl _) _
        obtain ⟨fn, tm, asg, bd, hy, hR⟩ := H.out.2.2.2.1 pre ⟨x.la, x.lc, x.e⟩ _ (abides_below H.out.2.2.1 HX.out.2.2.1 hbW) ⟨(HX.out.2.2.2.1.lab x (List.mem_of_getElem? HX.out.1)).below hbW (Nat.le_refl _), hbd⟩
        have HW := Lib.hid hbW
        clear hbW
        simp only [eAgg] at hy
        gi_wp2_with fail
        refine hR.mono ?_
        rintro e W' ⟨rfl, hJ', hk'⟩
        have HJ := Lib.hid (And.intro hJ' ((KpE.of_below HW.out).trans hk'))
        clear hy hJ' hk' hR
        gi_wp2_with fail
        go_roundw
        case rel =>
          refine ⟨k + 1, pre ++ [⟨x.la, x.lc, x.e⟩], by omega, rfl, by simp; omega, ?_, HJ.out.1, HJ.out.2.rdI HX.out.2.2.2.1, HJ.out.2.same _ _ _ _ (by decide) (by decide) HX.out.2.2.2.2⟩
          refine ⟨?_, fun y hy => ?_⟩
          · rw [List.map_append, HX.out.2.1.1, take_snocL HX.out.1, List.map_append]
            exact (ownE_snoc_yes (x := SI.it x) rfl).symm
          · rcases List.mem_append.1 hy with h | h
            · exact HJ.out.2.ll (HX.out.2.1.2 y h)
            · rw [List.mem_singleton.1 h]
              exact HJ.out.2.ll (HX.out.2.2.2.1.lab x (List.mem_of_getElem? HX.out.1))
        case measure => simp [intOf]; omega
      · have hq : (x.key.toList == K.toList) = false := by rw [ByteArray.toList_eq, ByteArray.toList_eq, beq_eq_false_iff_ne]; exact fun h => hkey (ByteArray.ext (Array.toList_inj.1 h))
        gi_wp2_with fail
        refine ⟨fun _ h => (by cases h), ?_⟩
        gi_wp2_with fail
        go_roundw
        case rel =>
          have hbW : Below w0.heap.size w0 (w0.alloc (.cells #[.string x.key, .slice x.la x.e.lab.length x.lc, .bool x.e.mark, .int .u64 x.e.bits, .bool x.e.st, .int .i64 x.e.time, .int .i64 x.e.stamp] 61)) := (Below.refl _ _).alloc (Nat.le_refl _) _
          have hkp := KpE.of_below hbW
          refine ⟨k + 1, pre, by omega, rfl, by omega, ⟨?_, fun y hy => hkp.ll (HX.out.2.1.2 y hy)⟩, abides_below H.out.2.2.1 HX.out.2.2.1 hbW, hkp.rdI HX.out.2.2.2.1, hkp.same _ _ _ _ (by decide) (by decide) HX.out.2.2.2.2⟩
          rw [HX.out.2.1.1, take_snocL HX.out.1, List.map_append]
          exact (ownE_snoc_no (x := SI.it x) hkey).symm
        case measure => simp [intOf]; omega
    · obtain rfl : k = lo.length := by omega
      rw [List.take_of_length_le (Nat.le_refl _)] at hse
      have HE := Lib.hid (And.intro hse hj)
      clear hse hj hrd hb2
      gi_wp2_with fail
      go_end0
      exact ⟨⟨_, rfl⟩, pre, by rw [← HL.out.2.1]; exact HE.out.1, HE.out.2⟩
end Go.Proofs.YtiooimdncocfdaaGreatDoor.Sk
/- Chapter 38's sink: Of. -/
namespace Go.Proofs.YtiooimdncocfdaaGreatDoor.Sk
open Go Go.RowKit Go.Shelf
attribute [local go_sem] Oper.semAt_some
theorem entriesf_calls (a : Option Addr) (K : ByteArray) (w : World) : Calls Tryz.prog 110 #[.pointer a, .string K] w fun e w' =>
    e = .returned (.func (.func 172) #[] #[.pointer (some ⟨w.heap.size, 0, none⟩), .pointer (some ⟨w.heap.size + 1, 0, none⟩)]) ∧ (w.alloc (.cells #[.pointer a] 51)).alloc (.cells #[.string K] 9) = w' := by
  go_enter Tryz.func110, Tryz.ntmps110
  go_wp2
  go_ret
  exact ⟨rfl, rfl⟩
theorem KpE.grown {X Y : World} {row : Option Nat} (hg : X.grownBy Y row) (hr : ∀ r, row = some r → ∃ o : Obj, X.heap[r]? = some o ∧ o.isCells = false) : KpE X Y :=
  ⟨hg.size, fun b cs T fz _ _ hb => (hg.block b (Array.getElem?_eq_some_iff.1 hb).1 (fun e => by
    obtain ⟨o, ho, hc⟩ := hr b e.symm
    rw [hb] at ho; cases ho; cases hc)).trans hb⟩
theorem KpE.appended {W w1 : World} {n₀ B k : Nat} {v v' : Value} {xs : List Value} {tmp : Obj} (hv : Boxed W B 54 v) (hrow : W.ownsRow n₀ 59 6 v k xs) (hgrow : (W.alloc tmp).grownBy w1 v.ownBlock) :
    KpE W (w1.setCell ⟨B, 0, none⟩ v') := by
  refine ⟨?_, fun b cs T fz h1 h2 hb => ?_⟩
  · have := hgrow.size
    have h2 : (w1.setCell ⟨B, 0, none⟩ v').heap.size = w1.heap.size := by simp
    simp at this
    omega
  · have hlt := (Array.getElem?_eq_some_iff.1 hb).1
    have hb1 : (W.alloc tmp).heap[b]? = some (.cells cs T fz) := (Below.heap_alloc _ _ _ hlt).trans hb
    have hne : some b ≠ v.ownBlock := by
      rcases hrow.2 with ⟨rfl, _⟩ | ⟨g, cap, cur, rfl, _, hgb, _⟩
      · simp [Value.ownBlock]
      · intro e
        obtain rfl : b = g := by simpa [Value.ownBlock] using e
        rw [hb] at hgb
        cases hgb
        exact h1 rfl
    have hb2 := (hgrow.block b (by simp; omega) hne).trans hb1
    refine (Below.heap_setCell _ _ _ b (fun e => ?_)).trans hb2
    dsimp only at e
    subst e
    have := (show W.heap[b]? = _ from hv).symm.trans hb
    cases this
    exact h2 rfl
theorem se_own (B : Nat) (ents : List Ent) : OwnFrom B (SE' ents) := by
  rintro xs X Y row ⟨h1, h2⟩ hg hr
  have hk := KpE.grown hg (fun r e => (hr r e).2)
  exact ⟨h1, fun x hx => hk.ll (h2 x hx)⟩
/-- what Of's loop keeps -/
def OfI' (w : World) (pre : List SE) (W : World) : Prop :=
  (∃ v, Boxed W w.heap.size 54 v ∧ W.ownsRow w.heap.size 59 6 v pre.length (eFlat pre) ∧ True) ∧ Below w.heap.size w W
theorem ofI_own {B : Nat} {w : World} (hB : w.heap.size ≤ B) : OwnFrom B (OfI' w) := by
  rintro pre X Y row ⟨hv, hb⟩ hg hr
  exact ⟨((holdsRow_own w.heap.size w.heap.size 54 59 6 (fun pre : List SE => pre.length) (fun pre => eFlat pre) (fun _ _ => True)).from B) pre X Y row hv hg hr, hb.grown hg hb.size (fun k e => Nat.le_trans hB (hr k e).1)⟩
theorem wpListIn_app {F : Fence} {n : Nat} {P : Program} {W : World} {ops : Array Oper} {rest : List Oper} {o : Oper} {a : Act} {Q : Exit → Act → World → Prop} (hg : o.guard = none) (s x : Operand) (ST T : TypeId) (size bytes : Nat) (z : Value)
    (hop : o.op = Op.call { callee := Callee.builtin Builtin.append, args := #[s, x], argTypes := #[ST, ST] }) (hu : P.underlying ST = some (.slice T)) (hinfo : (P.info? T).map (fun i => (i.zero, i.size, i.bytes)) = some (some z, size, bytes)) (hzs : z.cells.size = size) (hsz : 0 < size)
    (hby : bytes ≤ 100) (base : Nat) (v : Value) (k : Nat) (xs : List Value) (hs : a.eval s = v) (hown : W.ownsRow base T size v k xs) (ad : Addr) (m c : Nat) (news : List Value) (hx : a.eval x = .slice (some ad) m c) (hl : news.length = m * size)
    (hnews : ∀ j u, news[j]? = some u → W.cell? (ad.add j) = some u) (h1 : ∀ u ∈ news, u.oneCell' = true) (hk : k + m ≤ 1000000000) (hbase : base ≤ W.heap.size)
    (hK : ∀ v' w', w'.ownsRow base T size v' (k + m) (xs ++ news) → W.grownBy w' v.ownBlock → wpListIn F n P ops Q rest (a.put o.dst v') w') :
    wpListIn F n P ops Q (o :: rest) a W := by
  obtain ⟨i0, hi0, hz0, hz1, hz2⟩ := info_parts hinfo
  have hb2 : (k + m) * bytes ≤ 1000000000 * 100 := Nat.mul_le_mul hk hby
  exact wpListIn_append_own W hg s x ST hop base T i0 z size bytes hu hi0 hz0 hz1 hz2 hzs hsz v k xs hs hown ad m c news hx hl hnews h1 (by unfold maxLen; omega) (by omega) hbase (fun v' w' h1 h2 _ => hK v' w' h1 h2)
theorem leaves_marks {F : Fence} {n : Nat} {P : Program} {fn : Func} {tmps : Array Value} {R : Ending → World → Prop} {B0 : Nat} (Φ : World → Prop)
    (hΦ : ∀ W D, Φ W → B0 ≤ D → W.heap[D]? = some (.deferred (some [])) → Φ (W.putObj D (.deferred none))) (hR : ∀ W, Φ W → LeavesInM F n P fn tmps R [] .returning W) :
    ∀ (Ds : List Nat) (W : World), Φ W → (∀ D ∈ Ds, B0 ≤ D ∧ W.heap[D]? = some (.deferred (some []))) → Ds.Nodup → LeavesInM F n P fn tmps R (Ds.map fun D => { target := .collected D, args := #[] }) .returning W
  | [], W, h, _, _ => hR W h
  | D :: Ds, W, h, hm, hd => by
    obtain ⟨hD, hK⟩ := hm D (List.mem_cons_self ..)
    obtain ⟨hn, hd'⟩ := List.nodup_cons.1 hd
    refine ⟨by simp, .inl ⟨D, _, rfl, run_takeDeferred hK, leaves_marks Φ hΦ hR Ds _ (hΦ W D h hD hK) (fun D' h' => ?_) hd'⟩⟩
    obtain ⟨a, b⟩ := hm D' (List.mem_cons_of_mem _ h')
    exact ⟨a, (World.putObj_heap_other (fun e => hn (by rw [← e]; exact h'))).trans b⟩
set_option maxRecDepth 100000 in
set_option maxHeartbeats 4000000 in
theorem of_calls (K : ByteArray) (w : World) {p base mb n : Nat} {v : Value} {l : List SI} (h : SinkAt w p base mb n v l) :
    Calls Tryz.prog 50 #[.pointer (some ⟨p, 0, none⟩), .string K] w fun e w' => ∃ a c xs, e = .returned (.slice a (List.length xs) c) ∧ w'.ownsRow w.heap.size 59 6 (.slice a xs.length c) xs.length (eFlat xs) ∧ (∀ x ∈ xs, Ll w' x.la x.lc x.e.lab) ∧ xs.map SE.e = ownE K (l.map SI.it) ∧ Below w.heap.size w w' := by
  refine (callsIn_wide (n := 6)).1 ?_
  refine callsIn_of_wp_marks Tryz.func50 rfl trivial ?_ rfl
  simp only [Tryz.ntmps50, List.size_toArray, List.length_cons, List.length_nil, Nat.reduceAdd, Nat.reduceSub, Array.replicate_succ, Array.replicate_zero, List.push_toArray, List.append_toArray, List.nil_append, List.cons_append]
  gi_wp2_with fail
  refine ⟨trivial, ?_⟩
  gi_at_call 110
  refine (callsIn_wide.2 (entriesf_calls _ _ _)).mono ?_
  rintro e w1 ⟨rfl, rfl⟩
  gi_wp2_with fail
  have hS0 := Lib.hid h
  clear h
  obtain ⟨W0, hW0⟩ : ∃ W0, (((w.alloc (.cells #[.slice none 0 0] 54)).alloc (.cells #[.pointer (some ⟨p, 0, none⟩)] 51)).alloc (.cells #[.string K] 9)) = W0 := ⟨_, rfl⟩
  have hb0 : Below w.heap.size w W0 := by rw [← hW0]; exact (((Below.refl _ _).alloc (Nat.le_refl _) _).alloc (by simp) _).alloc (by simp; omega) _
  have hs0 : W0.heap.size = w.heap.size + 3 := by rw [← hW0]; simp
  have hbox : Boxed W0 w.heap.size 54 (.slice none 0 0) := by rw [← hW0]; exact ((Boxed.new w _ _).alloc _).alloc _
  have hp1 : W0.heap[w.heap.size + 1]? = some (.cells #[.pointer (some ⟨p, 0, none⟩)] 51 (0, 0)) := by
    rw [← hW0]
    exact (Below.heap_alloc _ _ _ (by simp)).trans (by have := World.alloc_heap_new (w.alloc (.cells #[.slice none 0 0] 54)) (.cells #[.pointer (some ⟨p, 0, none⟩)] 51); rw [World.size_alloc] at this; exact this)
  have hp2 : W0.heap[w.heap.size + 1 + 1]? = some (.cells #[.string K] 9 (0, 0)) := by
    rw [← hW0]
    have := World.alloc_heap_new ((w.alloc (.cells #[.slice none 0 0] 54)).alloc (.cells #[.pointer (some ⟨p, 0, none⟩)] 51)) (.cells #[.string K] 9)
    rw [World.size_alloc, World.size_alloc] at this
    exact this
  rw [hW0]
  have HT := Lib.hid (entries_tell K _ _ W0 (hS0.out.below hb0) hp1 hp2)
  have HB := Lib.hid (And.intro hb0 hbox)
  have hI0 : OfI' w [] W0 := ⟨⟨_, hbox, World.ownsRow_nil _ _ _ _, trivial⟩, hb0⟩
  have HI := Lib.hid hI0
  have hle : w.heap.size ≤ W0.heap.size := by omega
  clear hW0 hb0 hbox hp1 hp2 hI0 hs0
  refine range_tell rfl (by decide) (gf := 172) (lb := #[.pointer (some ⟨w.heap.size + 1, 0, none⟩), .pointer (some ⟨w.heap.size + 1 + 1, 0, none⟩)]) rfl trivial (enters_of Tryz.func172 (by kernel_rfl) rfl) HT.out (fun _ => rfl) (fun h k => h.trans k)
    (fun W o o' hl ho => KpE.grown (grownBy_putObj' W _ o') (fun r e => by cases e; exact ⟨o, hl, ho⟩)) (OfI' w) (ofI_own hle) HI.out (se_own _ _)
    (fun pre x a' W => ∃ Bx, a' = { tmps := #[.pointer (some ⟨p, 0, none⟩), .string K, undef, undef, .slice none 0 0, .pointer (some ⟨w.heap.size, 0, none⟩), .pointer (some ⟨Bx, 0, none⟩), .pointer (some ⟨p, 0, none⟩), .string K, .func (.func 172) #[] #[.pointer (some ⟨w.heap.size + 1, 0, none⟩), .pointer (some ⟨w.heap.size + 1 + 1, 0, none⟩)], eAgg x, undef, undef, undef, undef, undef], defers := [] } ∧ W.heap[Bx]? = some (.cells #[.slice x.la x.e.lab.length x.lc, .bool x.e.mark, .int .u64 x.e.bits, .bool x.e.st, .int .i64 x.e.time, .int .i64 x.e.stamp] 59 (0, 0)) ∧ pre.length < 65536)
    (fun pre x a' => by
      rintro _ X Y row ⟨Bx, e, h, hl⟩ hg hr
      exact ⟨Bx, e, (hg.block Bx (Array.getElem?_eq_some_iff.1 h).1 (fun e' => by
        obtain ⟨_, o, ho, hoc⟩ := hr Bx e'.symm
        rw [h] at ho; cases ho; cases hoc)).trans h, hl⟩) ?assign ?body ?done
  case assign =>
    rintro l' pre x W K' hi' ⟨hll, hlp⟩ hK
    have HIW := Lib.hid (And.intro hi' hll)
    clear hi' hll
    dsimp only [eAgg]
    gi_wp2
    have hb := (Below.refl W.heap.size W).alloc (Nat.le_refl _) (.cells #[.slice x.la x.e.lab.length x.lc, .bool x.e.mark, .int .u64 x.e.bits, .bool x.e.st, .int .i64 x.e.time, .int .i64 x.e.stamp] 59)
    exact hK _ _ ((KeepsOthers.alloc _ _).from _) (KpE.of_below hb) ((ofI_own (Nat.le_refl _)).alloc _ HIW.out.1) ⟨W.heap.size, rfl, World.alloc_heap_new W _, hlp⟩
  case body =>
    rintro l' pre x a' W hl' hi ⟨Bx, rfl, hbx, hlp⟩
    obtain ⟨⟨v1, hv, hrow, _⟩, hb⟩ := hi
    obtain ⟨av, cv, rfl⟩ := own_form hrow
    have hvc := hv.cell
    have hvf := hv.frozen
    have hsz := hb.size
    have p0 := block_cell hbx 0 _ rfl
    have p1 := block_cell hbx 1 _ rfl
    have p2 := block_cell hbx 2 _ rfl
    have p3 := block_cell hbx 3 _ rfl
    have p4 := block_cell hbx 4 _ rfl
    have p5 := block_cell hbx 5 _ rfl
    have HW := Lib.hid (And.intro hv (And.intro hrow hb))
    clear hv hrow hb hbx
    gi_wp2_with (gi_at_builtin; refine Hid.out ?_)
    refine Lib.hid ?_
    refine wpListIn_app rfl _ _ 54 59 6 64 (.agg #[.slice none 0 0, .bool false, .int .u64 0, .bool false, .int .i64 0, .int .i64 0]) rfl Tryz.underlying54 (by kernel_rfl) rfl (by decide) (by decide) w.heap.size _ pre.length (eFlat pre) rfl (HW.out.2.1.alloc _) ⟨W.heap.size, 0, none⟩ 1 1 (eB x) rfl rfl (cells_new W #[.slice x.la x.e.lab.length x.lc, .bool x.e.mark, .int .u64 x.e.bits, .bool x.e.st, .int .i64 x.e.time, .int .i64 x.e.stamp] _ _ rfl) (by intro u hu; simp [eB] at hu; rcases hu with rfl | rfl | rfl | rfl | rfl | rfl <;> rfl) (by omega) (by simp; omega) ?_
    intro v6 w6 hown6 hgrow6
    have hb6 := (HW.out.1.alloc _).kept hgrow6 (HW.out.1.not_row (by decide) HW.out.2.1)
    have hc6 := hb6.cell
    have hf6 := hb6.frozen
    obtain ⟨g', cap', rfl⟩ := ownsRow_succ hown6
    have H6 := Lib.hid (And.intro hown6 hgrow6)
    clear hown6 hgrow6 hb6 hvc hvf
    gi_wp2_with fail
    obtain ⟨q1, q2, q3, q4, q5⟩ := HW.out.1.appended (by decide) HW.out.2.1 hsz (Nat.le_refl _) H6.out.1 H6.out.2
    refine ⟨q4.from _, KpE.appended HW.out.1 HW.out.2.1 H6.out.2, ⟨_, q2, ?_, trivial⟩, HW.out.2.2.trans q5⟩
    rw [List.length_append, show eFlat (pre ++ [x]) = eFlat pre ++ eB x by simp [eFlat]]
    exact q3
  case done =>
    rintro D xs W hD hS hi hK
    obtain ⟨⟨v1, hv, hrow, _⟩, hb⟩ := hi
    obtain ⟨av, cv, rfl⟩ := own_form hrow
    have hvc := hv.cell
    have hvf := hv.frozen
    have HD := Lib.hid (And.intro hS (And.intro hrow (And.intro hb hK)))
    clear hv hS hrow hb hK
    gi_wp2
    refine leaves_marks (B0 := W0.heap.size) (fun W => W.ownsRow w.heap.size 59 6 (.slice av xs.length cv) xs.length (eFlat xs) ∧ SE' (ownE K (l.map SI.it)) xs W ∧ Below w.heap.size w W)
      (fun W D h hD hK => ⟨ownsRow_putObj h.1 _ hK rfl, (se_own W0.heap.size _).putObj _ h.2.1 hD hK rfl, h.2.2.grown (grownBy_putObj' W D _) h.2.2.size (fun k e => by cases e; exact Nat.le_trans hle hD)⟩) (fun W h => ?_) [D] W ⟨HD.out.2.1, HD.out.1, HD.out.2.2.1⟩ (fun D' hD' => by rw [List.mem_singleton.1 hD']; exact ⟨hD, HD.out.2.2.2⟩) (by simp)
    exact ⟨_, results_tmp rfl _ _ _, av, cv, xs, rfl, h.1, h.2.1.2, h.2.1.1, h.2.2⟩
end Go.Proofs.YtiooimdncocfdaaGreatDoor.Sk
