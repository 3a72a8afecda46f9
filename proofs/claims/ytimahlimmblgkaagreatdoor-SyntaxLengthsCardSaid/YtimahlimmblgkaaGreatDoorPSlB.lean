/- Texts of the claim, put together: SlB. -/
import Derived.Test.YtimahlimmblgkaaGreatDoorPClsO
import Derived.Test.YtimahlimmblgkaaGreatDoorPPlA
import Derived.Laws.AppendOwnNone
import Derived.Lib.AppendZeros
namespace Go.Proofs.YtimahlimmblgkaaGreatDoor
open Go.RowKit Go.Shelf
/-- A slice of ranges in w that reads as l: nil only if empty. -/
structure Sl (w : World) (a : Option Addr) (cap : Nat) (l : Rs.S) : Prop where
  rd : RdR w a l
  nil : a = none → l = [] ∧ cap = 0
  sp : ∀ ad, a = some ad → ad.spot = none ∧ ad.block < w.heap.size
theorem Sl.below {w w1 : World} {a : Option Addr} {cap : Nat} {l : Rs.S} (h : Sl w a cap l) (hb : Below w.heap.size w w1) : Sl w1 a cap l :=
  ⟨h.rd.below hb (fun _ _ e => (h.sp _ e).2), h.nil, fun ad e => ⟨(h.sp ad e).1, Nat.lt_of_lt_of_le (h.sp ad e).2 hb.size⟩⟩
theorem Sl.of_own {w : World} {base n : Nat} {v : Value} {l : Rs.S} (h : w.ownsRow base 84 2 v n (rFlat l)) : ∃ a cap, v = .slice a l.length cap ∧ n = l.length ∧ Sl w a cap l := by
  obtain ⟨a, cap, rfl, h1, h2, h3, h4⟩ := RdR.of_own h
  refine ⟨a, cap, rfl, h3, h1, h2, fun ad e => ?_⟩
  subst e
  rcases h.2 with ⟨e, _⟩ | ⟨g, cap', cur, e, hb, hg, _⟩
  · cases e
  · cases e; exact ⟨rfl, (Array.getElem?_eq_some_iff.1 hg).1⟩
theorem Sl.nil0 (w : World) : Sl w none 0 [] := ⟨RdR.nil _ _, fun _ => ⟨rfl, rfl⟩, fun _ e => by cases e⟩
theorem of_calls' (a : Option Addr) (cap : Nat) (l : Rs.S) (w : World) (h : Sl w a cap l) (hn : l.length ≤ 1000000000000) (hrg : ∀ r ∈ l, Rs.rg r) :
    Calls Tryz.prog 169 #[.slice a l.length cap] w fun e w' => ∃ v, e = .returned v ∧ w'.ownsRow w.heap.size 84 2 v (Rs.setOf l).length (rFlat (Rs.setOf l)) ∧ Below w.heap.size w w' :=
  of_calls a cap l w h.rd h.nil (fun ad e => (h.sp ad e).1) hn hrg
theorem app_end {W w1 : World} {base : Nat} {v : Value} {k : Nat} {xs : List Value} {tmp : Obj} {w : World} (hrow : W.ownsRow base 84 2 v k xs) (hb : Below base w W) (hs : base ≤ W.heap.size) (hgrow : (W.alloc tmp).grownBy w1 v.ownBlock) : Below base w w1 :=
  (hb.alloc hs tmp).grown hgrow (by simp; omega) fun j e => by
    rcases hrow.2 with ⟨rfl, _⟩ | ⟨g, cap, cur, rfl, hg, _⟩
    · simp [Value.ownBlock] at e
    · obtain rfl : g = j := by simpa [Value.ownBlock] using e
      exact hg
theorem box_kept {W w1 : World} {base : Nat} {v : Value} {k : Nat} {xs : List Value} {cs : Array Value} {t : TypeId} {tmp : Obj} {j : Nat} {u : Value} (hrow : W.ownsRow base 84 2 v k xs) (hgrow : ((W.alloc (.cells cs t)).alloc tmp).grownBy w1 v.ownBlock) (hu : cs[j]? = some u := by rfl) : w1.cell? ⟨W.heap.size, j, none⟩ = some u := by
  have h1 : w1.heap[W.heap.size]? = some (.cells cs t) := by
    rw [hgrow.block _ (by simp; omega) (fun e => ?_), Below.heap_alloc _ _ _ (by simp), World.alloc_heap_new]
    rcases hrow.2 with ⟨rfl, _⟩ | ⟨g, cap, cur, rfl, _, hg, _⟩
    · simp [Value.ownBlock] at e
    · have := (Array.getElem?_eq_some_iff.1 hg).1
      simp [Value.ownBlock] at e
      omega
  simp [World.cell?, h1, hu]
set_option maxRecDepth 100000 in
set_option maxHeartbeats 2000000 in
theorem not_calls (a : Option Addr) (cap : Nat) (l : Rs.S) (w : World) (hsl : Sl w a cap l) (hn : l.length ≤ 999999999999) (hrg : ∀ r ∈ l, Rs.rg r) (hgr : ∀ r ∈ Rs.gaps 0 l, Rs.rg r) :
    Calls Tryz.prog 162 #[.slice a l.length cap] w fun e w' => ∃ v, e = .returned v ∧ w'.ownsRow w.heap.size 84 2 v (Rs.notS l).length (rFlat (Rs.notS l)) ∧ Below w.heap.size w w' := by
  have HSL := Lib.hid hsl
  have HRG := Lib.hid hrg
  have HGR := Lib.hid hgr
  clear hsl hrg hgr
  obtain ⟨i0, hi0, hz0, hz1, hz2⟩ := info_parts Tryz.info84
  go_enter Tryz.func162, Tryz.ntmps162
  go_wp2
  go_loopw [3, 4, 9] (fun v f i wr => ∃ k : Nat, k ≤ l.length ∧ i = .int .i64 k ∧ f = .int .i64 ((l.take k).foldl Rs.gstep ([], 0)).2 ∧ wr.ownsRow w.heap.size 84 2 v ((l.take k).foldl Rs.gstep ([], 0)).1.length (rFlat ((l.take k).foldl Rs.gstep ([], 0)).1) ∧ Below w.heap.size w wr) (fun _ _ i _ => l.length - (intOf i).toNat)
  case atStart => exact ⟨0, Nat.zero_le _, rfl, rfl, World.ownsRow_nil _ _ _ _, Below.refl _ _⟩
  case round =>
    obtain ⟨k, hk, rfl, rfl, hrow, hb⟩ := hrel
    have hbs := hb.size
    have hf := Rs.gst_bd (l.take k) ([], 0) (fun r h => HRG.out r (List.mem_of_mem_take h)) (by simp)
    have hlen := Rs.gst_len (l.take k) ([], 0)
    simp only [List.length_nil, Nat.zero_add, List.length_take] at hlen
    by_cases hlt : k < l.length
    · obtain ⟨b, off, rfl, hbl, hc⟩ := HSL.out.rd (by intro e; subst e; simp at hlt)
      obtain ⟨r, hr⟩ : ∃ r, l[k]? = some r := ⟨_, List.getElem?_eq_getElem hlt⟩
      obtain ⟨c0, c1⟩ := hc k _ hr
      rw [← hb.cell (by exact hbl)] at c0 c1
      have hrr : Rs.rg r := HRG.out _ (List.mem_of_getElem? hr)
      have hst := Rs.gst_step hr
      obtain ⟨out, f, hof⟩ : ∃ out f, (l.take k).foldl Rs.gstep ([], 0) = (out, f) := ⟨_, _, rfl⟩
      rw [hof] at hst hrow hf hlen ⊢
      obtain ⟨lo, hi⟩ := r
      obtain ⟨o1, o2, o3⟩ := hrr
      dsimp only at c0 c1 hrow hf hlen o1 o2 o3 ⊢
      obtain ⟨f1, f2⟩ := hf
      have HR := Lib.hid (show _ ∧ _ from ⟨hrow, hst⟩)
      clear hr hc hrow hst hof
      by_cases hc : f < lo
      · go_wp2_with (at_builtin; refine wpList_append_own _ rfl _ _ 24 rfl w.heap.size 84 i0 (.agg #[.int .i64 0, .int .i64 0]) 2 16 Tryz.underlying24 hi0 hz0 hz1 hz2 rfl (by decide) _ _ _ rfl ((HR.out.1.alloc (.cells #[.int .i64 lo, .int .i64 hi] 84)).alloc (.cells #[.int .i64 f, .int .i64 (lo - 1)] 84)) ⟨wr.heap.size + 1, 0, none⟩ 1 1 [.int .i64 f, .int .i64 (lo - 1)] rfl rfl (cells_new (wr.alloc (.cells #[.int .i64 lo, .int .i64 hi] 84)) #[.int .i64 f, .int .i64 (lo - 1)] _ _ (by simp)) (by intro u hu; simp at hu; rcases hu with rfl | rfl <;> rfl) (by unfold maxLen; omega) (by omega) (by simp; omega) ?_; intro v' w1 hown' hgrow _;
                                        have c4 : w1.cell? ⟨wr.heap.size, 1, none⟩ = some (.int .i64 hi) := box_kept HR.out.1 hgrow;
                                        have HB := Lib.hid (show Below w.heap.size w w1 from app_end (HR.out.1.alloc _) (hb.alloc hbs _) (by simp; omega) hgrow);
                                        clear hgrow)
        go_roundw
        case rel => exact ⟨k + 1, by omega, by go_num, by rw [HR.out.2]; rfl, by rw [HR.out.2]; simp only [Rs.gstep, if_pos hc, List.length_append, List.length_singleton, rFlat_append]; exact hown', HB.out⟩
        case measure => simp [intOf]; omega
      · have HB := Lib.hid (show Below w.heap.size w (wr.alloc (.cells #[.int .i64 lo, .int .i64 hi] 84)) from hb.alloc hbs _)
        go_wp2
        go_roundw
        case rel => exact ⟨k + 1, by omega, by go_num, by rw [HR.out.2]; rfl, by rw [HR.out.2]; simp only [Rs.gstep, if_neg hc]; exact HR.out.1.alloc _, HB.out⟩
        case measure => simp [intOf]; omega
    · have hkk : l.take k = l := List.take_of_length_le (by omega)
      rw [hkk] at hrow hf hlen ⊢
      have hfin := Rs.gaps_fold0 l
      obtain ⟨out, f, hof⟩ : ∃ out f, l.foldl Rs.gstep ([], 0) = (out, f) := ⟨_, _, rfl⟩
      rw [hof] at hrow hf hlen hfin ⊢
      dsimp only at hrow hf hlen ⊢
      obtain ⟨f1, f2⟩ := hf
      by_cases hc : f ≤ 1114111
      · simp only [Rs.gend, if_pos hc] at hfin
        have HR := Lib.hid (show _ ∧ _ from ⟨hrow, hfin⟩)
        clear hrow hfin hof hkk
        go_wp2_with (first
          | (at_builtin; refine wpList_append_own _ rfl _ _ 24 rfl w.heap.size 84 i0 (.agg #[.int .i64 0, .int .i64 0]) 2 16 Tryz.underlying24 hi0 hz0 hz1 hz2 rfl (by decide) _ _ _ rfl (HR.out.1.alloc (.cells #[.int .i64 f, .int .i64 1114111] 84)) ⟨wr.heap.size, 0, none⟩ 1 1 [.int .i64 f, .int .i64 1114111] rfl rfl (cells_new wr #[.int .i64 f, .int .i64 1114111] _ _ (by simp)) (by intro u hu; simp at hu; rcases hu with rfl | rfl <;> rfl) (by unfold maxLen; omega) (by omega) (by simp; omega) ?_; intro v' w1 hown' hgrow _;
                                        have HB := Lib.hid (show Below w.heap.size w w1 from app_end HR.out.1 hb hbs hgrow);
                                        clear hgrow;
                                        have ho2 : w1.ownsRow w.heap.size 84 2 v' (out.length + 1) (rFlat (Rs.gaps 0 l)) := (by rw [← HR.out.2, rFlat_append]; exact hown');
                                        have hln : out.length + 1 = (Rs.gaps 0 l).length := (by rw [← HR.out.2]; simp);
                                        obtain ⟨a3, cap3, rfl, _, hs3⟩ := Sl.of_own ho2;
                                        have hof := of_calls' a3 cap3 (Rs.gaps 0 l) w1 hs3 (by omega) HGR.out;
                                        clear hown' ho2 hs3 hln)
          | (go_at_call 169; refine hof.mono ?_; clear hof; rintro e w2 ⟨v2, rfl, hown2, hb2⟩))
        go_ret
        exact ⟨_, rfl, ownsRow_base hown2 HB.out.size, HB.out.trans (hb2.mono HB.out.size)⟩
      · simp only [Rs.gend, if_neg hc] at hfin
        rw [hfin] at hrow hlen
        obtain ⟨a3, cap3, rfl, _, hs3⟩ := Sl.of_own hrow
        have hof' := of_calls' a3 cap3 (Rs.gaps 0 l) wr hs3 (by omega) HGR.out
        have HB := Lib.hid hb
        clear hrow hfin hof hkk hs3
        go_wp2_with (go_at_call 169; refine hof'.mono ?_; clear hof'; rintro e w2 ⟨v2, rfl, hown2, hb2⟩)
        go_ret
        exact ⟨_, rfl, ownsRow_base hown2 HB.out.size, HB.out.trans (hb2.mono HB.out.size)⟩
end Go.Proofs.YtimahlimmblgkaaGreatDoor
namespace Go.Proofs.YtimahlimmblgkaaGreatDoor
open Go.RowKit Go.Shelf
theorem grownBy_refl (w : World) (row : Option Nat) : w.grownBy w row := ⟨rfl, rfl, rfl, Nat.le_refl _, fun _ _ _ => rfl⟩
theorem wpList_append_R {P : Program} {W : World} {ops : Array Oper} {rest : List Oper} {o : Oper} {a : Act} {Q : Exit → Act → World → Prop} (hg : o.guard = none) (s x : Operand) (ST T : TypeId)
    (hop : o.op = Op.call { callee := Callee.builtin Builtin.append, args := #[s, x], argTypes := #[ST, ST] }) (hu : P.underlying ST = some (.slice T)) (hinfo : (P.info? T).map (fun i => (i.zero, i.size, i.bytes)) = some (some (.agg #[.int .i64 0, .int .i64 0]), 2, 16))
    (base : Nat) (v : Value) (k : Nat) (xs : List Value) (hs : a.eval s = v) (hown : W.ownsRow base T 2 v k xs) (ad : Option Addr) (m : Rs.S) (c : Nat) (hx : a.eval x = .slice ad m.length c) (hsl : Sl W ad c m) (hk : k + m.length ≤ 2000000000000) (hbase : base ≤ W.heap.size)
    (hK : ∀ v' w', w'.ownsRow base T 2 v' (k + m.length) (xs ++ rFlat m) → W.grownBy w' v.ownBlock → (∀ w0, Below base w0 W → Below base w0 w') → wpList P ops Q rest (a.put o.dst v') w') : wpList P ops Q (o :: rest) a W := by
  obtain ⟨i0, hi0, hz0, hz1, hz2⟩ := info_parts hinfo
  have hbel : ∀ w', W.grownBy w' v.ownBlock → ∀ w0, Below base w0 W → Below base w0 w' := fun w' hgr w0 hb => hb.grown hgr hbase fun j e => by
    rcases hown.2 with ⟨rfl, _⟩ | ⟨g, cap, cur, rfl, hg, _⟩
    · simp [Value.ownBlock] at e
    · obtain rfl : g = j := by simpa [Value.ownBlock] using e
      exact hg
  cases ad with
  | none =>
    obtain ⟨rfl, rfl⟩ := hsl.nil rfl
    refine wpList_append_own_none hg s x ST hop base T i0 2 hu hi0 v k xs hs hown hx (hK v W ?_ (grownBy_refl _ _) (hbel _ (grownBy_refl _ _)))
    simpa [rFlat] using hown
  | some q =>
    obtain ⟨b, off, sp⟩ := q
    obtain rfl : sp = none := (hsl.sp _ rfl).1
    exact wpList_append_own W hg s x ST hop base T i0 _ 2 16 hu hi0 hz0 hz1 hz2 rfl (by decide) v k xs hs hown ⟨b, off, none⟩ m.length c (rFlat m) hx (rFlat_length m) hsl.rd.news (rFlat_oneCell m) (by unfold maxLen; omega) (by omega) hbase
      (fun v' w' h1 h2 _ => hK v' w' h1 h2 (hbel _ h2))
/-- A new block that holds just these ranges. -/
theorem Sl.alloc_new (W : World) (l : Rs.S) (T : TypeId) : Sl (W.alloc (.cells (rFlat l).toArray T)) (some ⟨W.heap.size, 0, none⟩) l.length l := by
  refine ⟨fun _ => ⟨W.heap.size, 0, rfl, by simp, fun i r hr => ?_⟩, (fun e => by cases e), (fun ad e => by cases e; exact ⟨rfl, by simp⟩)⟩
  have := rFlat_get l i r hr
  constructor
  · simp only [World.cell?, World.alloc_heap_new, Nat.zero_add]; simpa using this.1
  · simp only [World.cell?, World.alloc_heap_new, Nat.zero_add]; simpa using this.2
theorem Sl.alloc {w : World} {a : Option Addr} {cap : Nat} {l : Rs.S} (h : Sl w a cap l) (o : Obj) : Sl (w.alloc o) a cap l := h.below ((Below.refl _ _).alloc (Nat.le_refl _) o)
theorem Sl.drew {w : World} {a : Option Addr} {cap : Nat} {l : Rs.S} (h : Sl w a cap l) : Sl w.drew a cap l := h.below (Below.refl _ _).drew
end Go.Proofs.YtimahlimmblgkaaGreatDoor
namespace Go.Proofs.YtimahlimmblgkaaGreatDoor
open Go.RowKit Go.Shelf
/-- Slices of ranges that lie side by side. -/
def LsR (w : World) (B off : Nat) (Ls : List (Option Addr × Nat × Rs.S)) : Prop :=
  B < w.heap.size ∧ ∀ (i : Nat) x, Ls[i]? = some x → w.cell? ⟨B, off + i, none⟩ = some (.slice x.1 x.2.2.length x.2.1) ∧ Sl w x.1 x.2.1 x.2.2
theorem LsR.below {w w1 : World} {B off : Nat} {Ls : List (Option Addr × Nat × Rs.S)} (h : LsR w B off Ls) (hb : Below w.heap.size w w1) : LsR w1 B off Ls :=
  ⟨Nat.lt_of_lt_of_le h.1 hb.size, fun i x hx => ⟨(hb.cell (p := ⟨B, off + i, none⟩) h.1).trans (h.2 i x hx).1, (h.2 i x hx).2.below hb⟩⟩
end Go.Proofs.YtimahlimmblgkaaGreatDoor
