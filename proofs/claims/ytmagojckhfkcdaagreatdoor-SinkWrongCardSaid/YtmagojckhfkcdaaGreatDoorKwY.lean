/- Chapter 38, for the law SinkWrong: a region that copies a row and appends two items to it, whatever its order. -/
import Derived.Test.YtmagojckhfkcdaaGreatDoorKwX
import Derived.Test.YtmagojckhfkcdaaGreatDoorKwW
namespace Go.Proofs.YtmagojckhfkcdaaGreatDoor.Sk
open Go Go.RowKit
set_option maxRecDepth 100000 in
theorem bs2_wp {o : Oper} {p q : Nat} (h : o.op = .buildSlice 28 2 #[(0, .tmp p), (1, .tmp q)]) {a : Act} {w : World} {K : Act → World → Prop} {Q : Exit → Act → World → Prop} {x y : SI} (hp : tm a p = .agg (iB x).toArray) (hq : tm a q = .agg (iB y).toArray)
    (hK : K (a.put o.dst (.slice (some ⟨w.heap.size, 0, none⟩) 2 2)) (w.alloc (.cells (iB x ++ iB y).toArray 40))) : o.wp Tryz.prog a w K Q := by
  obtain ⟨dst, op, ty, pos, af, gd⟩ := o
  dsimp only at h hK
  subst h
  unfold iB at hK hq hp
  unfold tm at hq hp
  go_simp
  exact hK
set_option maxRecDepth 100000 in
theorem bd_item {o : Oper} {p q : Nat} (h : o.op = .build 40 #[(0, .tmp p), (1, .tmp q)]) {a : Act} {w : World} {k : ByteArray} {la : Option Addr} {n lc : Nat} {m st : Bool} {b t sp : Int} (hp : tm a p = .string k) (hq : tm a q = .agg #[.slice la n lc, .bool m, .int .u64 b, .bool st, .int .i64 t, .int .i64 sp]) :
    (execOp a.eval o).run Tryz.prog w = .ok (.value (.agg #[.string k, .slice la n lc, .bool m, .int .u64 b, .bool st, .int .i64 t, .int .i64 sp])) w := by
  obtain ⟨dst, op, ty, pos, af, gd⟩ := o
  dsimp only at h
  subst h
  unfold tm at hq hp
  go_simp
set_option maxRecDepth 100000 in
theorem bd_ent {o : Oper} {p : Nat} (h : o.op = .build 34 #[(0, .tmp p), (1, .const (.bool true)), (5, .const (.int .i64 2001))]) {a : Act} {w : World} {la : Option Addr} {n lc : Nat} (hp : tm a p = .slice la n lc) :
    (execOp a.eval o).run Tryz.prog w = .ok (.value (.agg #[.slice la n lc, .bool true, .int .u64 0, .bool false, .int .i64 0, .int .i64 2001])) w := by
  obtain ⟨dst, op, ty, pos, af, gd⟩ := o
  dsimp only at h
  subst h
  unfold tm at hp
  go_simp
def Bs2I (ops : Array Oper) (i : Nat) (p q t : Tmp) : Prop := ∃ o : Oper, ops[i]? = some o ∧ o.op = Op.buildSlice 28 2 #[(0, Operand.tmp p), (1, Operand.tmp q)] ∧ o.dst = some t ∧ o.guard = none
def LB31 (c b p : Bool) : Array Bool := #[true, c, true, true, true, true, true, true, true, true, b, p, false]
def rdy31 (j : Nat) (c b p : Bool) : Bool := (decide (j = 1) && !c) || (decide (j = 10) && !b) || (decide (j = 11) && !p && c && b) || p
def slg2 (u : Value) : Option Nat → Value
  | none => u
  | some g => .slice (some ⟨g, 0, none⟩) 2 2
def Bk31 (w0 : World) (xs : List Value) (w : World) (g : Nat) : Prop := w0.heap.size ≤ g ∧ w.heap[g]? = some (.cells xs.toArray 40 (0, 0))
inductive Inv31 (w0 : World) (nw : List Value) (n : Nat) (r0 : List Value) (F : Value → Value → Value → Act) (u0 u1 u2 : Value) : Array Bool → Act → World → Prop
  | p1 (oc : Option (Option Addr × Nat)) (ob : Option Nat) (w : World) (hb : Below w0.heap.size w0 w) (hb2 : ∀ g, ob = some g → Bk31 w0 nw w g) (hc : ∀ a c, oc = some (a, c) → w.ownsRow w0.heap.size 40 7 (.slice a n c) n r0) :
      Inv31 w0 nw n r0 F u0 u1 u2 (LB31 oc.isSome ob.isSome false) (F (slc u0 n oc) (slg2 u1 ob) u2) w
  | p2 (v0 v1 : Value) (g c : Nat) (w : World) (hb : Below w0.heap.size w0 w) (ho : w.ownsRow w0.heap.size 40 7 (.slice (some ⟨g, 0, none⟩) (n + 2) c) (n + 2) (r0 ++ nw)) :
      Inv31 w0 nw n r0 F u0 u1 u2 (LB31 true true true) (F v0 v1 (.slice (some ⟨g, 0, none⟩) (n + 2) c)) w
theorem Bk31.bel {w0 w w' : World} {xs : List Value} {g : Nat} (h : Bk31 w0 xs w g) (hb : Below w.heap.size w w') : Bk31 w0 xs w' g := ⟨h.1, (hb.block g (Array.getElem?_eq_some_iff.1 h.2).1).trans h.2⟩
set_option maxHeartbeats 8000000 in
theorem region31 {ops : Array Oper} {Q : Exit → Act → World → Prop} {S : World → Prop} {w0 : World} {x y : SI} {n : Nat} {r0 : List Value} {F : Value → Value → Value → Act} {u0 u1 u2 : Value} {fC : FuncId} {aO : Option Addr} {cO : Nat} {i0 : TypeInfo}
    (hR : ∀ c b p : Bool, (Region.ready .any ops (LB31 c b p)).all (fun j => rdy31 j c b p) = true)
    (hN : ∀ c b p : Bool, p = false → (Region.ready .any ops (LB31 c b p)).isEmpty = false)
    (eC : ∀ args w, (callFunc fC args).run Tryz.prog w = .ok (.enter fC args) w)
    (o1 : CaI ops 1 fC #[.tmp 150] 151) (o4 : Bs2I ops 10 154 159 160) (o8 : ApI ops 11 151 160 161)
    (f151 : ∀ x151 x160 x161 v, (F x151 x160 x161).put (some 151) v = F v x160 x161)
    (f160 : ∀ x151 x160 x161 v, (F x151 x160 x161).put (some 160) v = F x151 v x161)
    (f161 : ∀ x151 x160 x161 v, (F x151 x160 x161).put (some 161) v = F x151 x160 v)
    (e151 : ∀ x151 x160 x161, tm (F x151 x160 x161) 151 = x151)
    (e160 : ∀ x151 x160 x161, tm (F x151 x160 x161) 160 = x160)
    (e150 : ∀ x151 x160 x161, tm (F x151 x160 x161) 150 = .slice aO n cO) (e154 : ∀ x151 x160 x161, tm (F x151 x160 x161) 154 = .agg (iB x).toArray) (e159 : ∀ x151 x160 x161, tm (F x151 x160 x161) 159 = .agg (iB y).toArray)
    (hS : ∀ w, Below w0.heap.size w0 w → S w)
    (hi : Tryz.prog.info? 40 = some i0 ∧ i0.zero = some (.agg #[.string ⟨#[]⟩, .slice none 0 0, .bool false, .int .u64 0, .bool false, .int .i64 0, .int .i64 0]) ∧ i0.size = 7 ∧ i0.bytes = 80) (hn : n ≤ 1000000)
    (hC : ∀ W, Below w0.heap.size w0 W → Calls Tryz.prog fC #[.slice aO n cO] W fun e W' => ∃ a c, e = .returned (.slice a n c) ∧ W'.ownsRow W.heap.size 40 7 (.slice a n c) n r0 ∧ Below W.heap.size W W')
    (hQ : ∀ v0 v1 g c w, Below w0.heap.size w0 w → w.ownsRow w0.heap.size 40 7 (.slice (some ⟨g, 0, none⟩) (n + 2) c) (n + 2) (r0 ++ (iB x ++ iB y)) → wpAnyH Tryz.prog .any ops Q S 1 (LB31 true true true) (F v0 v1 (.slice (some ⟨g, 0, none⟩) (n + 2) c)) w)
    {w : World} (hw : Below w0.heap.size w0 w) : wpAnyH Tryz.prog .any ops Q S 4 (LB31 false false false) (F u0 u1 u2) w := by
  refine wpAnyH_inv2 (lend := LB31 true true true) (m := 1) (by unfold LB31; simp [remL]) (Inv31 w0 (iB x ++ iB y) n r0 F u0 u1 u2) ?_ 4 _ _ w (by unfold LB31; simp [remL]) (.p1 none none w hw (fun g e => by cases e) (fun a c e => by cases e))
  intro l a w h
  cases h with
  | p2 v0 v1 g c w hb ho => exact .inl ⟨rfl, hQ v0 v1 g c w hb ho⟩
  | p1 oc ob w hb hb2 hc =>
    refine .inr ⟨fun e => ?_, fun i hi' => ?_⟩
    · have h1 := hN oc.isSome ob.isSome false rfl
      rw [e] at h1
      cases h1
    have h1 := List.all_eq_true.1 (hR oc.isSome ob.isSome false) i hi'
    have hba : Below w.heap.size w (w.alloc (.cells (iB x ++ iB y).toArray 40)) := (Below.refl _ _).alloc (Nat.le_refl _) _
    rcases (show ((i = 1 ∧ oc.isSome = false) ∨ (i = 10 ∧ ob.isSome = false)) ∨ ((i = 11 ∧ oc.isSome = true) ∧ ob.isSome = true) by simpa [rdy31] using h1) with (⟨rfl, e⟩ | ⟨rfl, e⟩) | ⟨⟨rfl, e⟩, e'⟩
    · obtain rfl : oc = none := by cases oc; rfl; cases e
      obtain ⟨o, ho', ⟨ty, hop⟩, hod, hog⟩ := o1
      unfold wpOp
      simp only [ho']
      rw [if_pos (by unfold Region.wanted; rw [hog])]
      refine .inl (call_wp1 eC hop (e150 _ _ _) ((hC w hb).mono ?_))
      rintro e w' ⟨a, c, rfl, how, hb'⟩
      refine ⟨_, rfl, ?_⟩
      rw [hod, f151]
      exact ⟨hS _ (hb.trans (hb'.mono hb.size)), .p1 (some (a, c)) ob w' (hb.trans (hb'.mono hb.size)) (fun g e => (hb2 g e).bel hb') (fun a' c' e => by cases e; exact own_weak how hb.size)⟩
    · obtain rfl : ob = none := by cases ob; rfl; cases e
      obtain ⟨o, ho', hop, hod, hog⟩ := o4
      unfold wpOp
      simp only [ho']
      rw [if_pos (by unfold Region.wanted; rw [hog])]
      refine .inl (bs2_wp hop (e154 _ _ _) (e159 _ _ _) ?_)
      rw [hod, f160]
      exact ⟨hS _ (hb.alloc hb.size _), .p1 oc (some w.heap.size) _ (hb.alloc hb.size _) (fun g e => by cases e; exact ⟨hb.size, heap_alloc_new w _⟩) (fun a' c' e => own_bel (hc a' c' e) hba)⟩
    · obtain ⟨⟨a, c⟩, rfl⟩ := Option.isSome_iff_exists.1 e
      obtain ⟨g, rfl⟩ := Option.isSome_iff_exists.1 e'
      obtain ⟨o, ho', hop, hod, hog⟩ := o8
      unfold wpOp
      simp only [ho']
      rw [if_pos (by unfold Region.wanted; rw [hog])]
      have hg := hb2 g rfl
      have ho := hc a c rfl
      refine .inl (wp_append_lies w (.tmp 151) (.tmp 160) _ hop w0.heap.size 40 i0 (.agg #[.string ⟨#[]⟩, .slice none 0 0, .bool false, .int .u64 0, .bool false, .int .i64 0, .int .i64 0]) 7 80 Tryz.underlying28 hi.1 hi.2.1 hi.2.2.1 hi.2.2.2 rfl (by decide) _ n r0 ((tm_eval _ _).trans (e151 _ _ _)) ho ⟨g, 0, none⟩ 2 2 (iB x ++ iB y) ((tm_eval _ _).trans (e160 _ _ _)) rfl
        (fun j u hu => (by rw [Addr.add_lit, Nat.zero_add]; exact block_cell hg.2 j u (by rw [List.getElem?_toArray]; exact hu))) (by intro u hu; rcases List.mem_append.1 hu with h | h; exact iB_one6 u h; exact iB_one6 u h) (by decide) (by unfold maxLen; omega) (by omega) hb.size _ rfl ?_)
      intro g' c' w' h1 h2 h3 h4
      rw [hod, f161]
      have hb' : Below w0.heap.size w0 w' := below_own hb hb.size ho h2
      exact ⟨hS _ hb', .p2 _ _ g' c' w' hb' h1⟩
def putF31 (A : Act) (x0 x1 x2 : Value) : Act := ((A.put (some 151) x0).put (some 160) x1).put (some 161) x2
theorem putF31_151 (A : Act) : ∀ x0 x1 x2 v, (putF31 A x0 x1 x2).put (some 151) v = putF31 A v x1 x2 := fun x0 x1 x2 v => by
  unfold putF31
  rw [put_swap (t := 161) (q := 151) (by decide), put_swap (t := 160) (q := 151) (by decide), put_same]
theorem putF31_160 (A : Act) : ∀ x0 x1 x2 v, (putF31 A x0 x1 x2).put (some 160) v = putF31 A x0 v x2 := fun x0 x1 x2 v => by
  unfold putF31
  rw [put_swap (t := 161) (q := 160) (by decide), put_same]
theorem putF31_161 (A : Act) : ∀ x0 x1 x2 v, (putF31 A x0 x1 x2).put (some 161) v = putF31 A x0 x1 v := fun x0 x1 x2 v => by
  unfold putF31
  rw [put_same]
theorem tmF31_151 {A : Act} (h : 200 ≤ A.tmps.size) : ∀ x0 x1 x2, tm (putF31 A x0 x1 x2) 151 = x0 := fun x0 x1 x2 => by
  unfold putF31
  rw [tm_ne (t := 161) (p := 151) (by decide), tm_ne (t := 160) (p := 151) (by decide), tm_same]
  (try simp only [size_put])
  exact Nat.lt_of_lt_of_le (by decide) h
theorem tmF31_160 {A : Act} (h : 200 ≤ A.tmps.size) : ∀ x0 x1 x2, tm (putF31 A x0 x1 x2) 160 = x1 := fun x0 x1 x2 => by
  unfold putF31
  rw [tm_ne (t := 161) (p := 160) (by decide), tm_same]
  (try simp only [size_put])
  exact Nat.lt_of_lt_of_le (by decide) h
theorem tmF31_161 {A : Act} (h : 200 ≤ A.tmps.size) : ∀ x0 x1 x2, tm (putF31 A x0 x1 x2) 161 = x2 := fun x0 x1 x2 => by
  unfold putF31
  rw [tm_same]
  (try simp only [size_put])
  exact Nat.lt_of_lt_of_le (by decide) h
theorem tmF31_no {A : Act} {p : Tmp} (h : p ≠ 151 ∧ p ≠ 160 ∧ p ≠ 161) : ∀ x0 x1 x2, tm (putF31 A x0 x1 x2) p = tm A p := fun x0 x1 x2 => by
  unfold putF31
  rw [tm_ne (Ne.symm h.2.2), tm_ne (Ne.symm h.2.1), tm_ne (Ne.symm h.1)]
theorem late_right : itemRight (d kJ) (entS ⟨0, 0, 0, 0⟩ 2000) = true := by kernel_rfl
theorem late_right2 : itemRight (d kJ) ⟨(entS ⟨0, 0, 0, 0⟩ 2000).lab, true, 0, false, 0, 2001⟩ = true := by kernel_rfl
theorem late_mark : (entS ⟨0, 0, 0, 0⟩ 2000).mark = true := by kernel_rfl
theorem late_stamp : (entS ⟨0, 0, 0, 0⟩ 2000).stamp = 2000 := rfl
theorem late_chk {l : List It} (h : Sound l) (hs : ∀ y ∈ l, y.e.stamp < 2000) {k : ByteArray} {e : Ent} (hk : k = kJ) (he : e = entS ⟨0, 0, 0, 0⟩ 2000) : ∃ ps : Int, (ps = (l.length : Int) ∨ ps = (l.length : Int) + 1) ∧ check (l ++ [⟨k, e⟩, ⟨k, ⟨e.lab, true, 0, false, 0, 2001⟩⟩]) = (ps, 382) := by
  subst hk
  subst he
  have hl : lineOf (⟨kJ, ⟨(entS ⟨0, 0, 0, 0⟩ 2000).lab, true, 0, false, 0, 2001⟩⟩ : It) = lineOf ⟨kJ, entS ⟨0, 0, 0, 0⟩ 2000⟩ := by unfold lineOf; rfl
  rcases chk_late h hs (a := ⟨kJ, entS ⟨0, 0, 0, 0⟩ 2000⟩) (b := ⟨kJ, ⟨(entS ⟨0, 0, 0, 0⟩ 2000).lab, true, 0, false, 0, 2001⟩⟩) late_right late_right2 hl late_mark rfl late_stamp rfl with h1 | h1
  · exact ⟨_, .inl rfl, h1⟩
  · exact ⟨_, .inr rfl, h1⟩
end Go.Proofs.YtmagojckhfkcdaaGreatDoor.Sk
