/- Chapter 38, for the law SinkWrong: a region that copies a row, puts an item into it, another behind it, and checks it, whatever its order. -/
import Derived.Test.YtmagojckhfkcdaaGreatDoorKyP
import Derived.Test.YtmagojckhfkcdaaGreatDoorKSr
import Derived.Deep.AppendLies
namespace Go.Proofs.YtmagojckhfkcdaaGreatDoor.Sk
open Go Go.RowKit
theorem wpAnyH_inv2 {P : Program} {md : Region.Mode} {ops : Array Oper} {Q : Exit → Act → World → Prop} {S : World → Prop} {lend : Array Bool} {m : Nat} (hm : remL lend.toList = m) (Inv : Array Bool → Act → World → Prop)
    (hs : ∀ l a w, Inv l a w → (l = lend ∧ wpAnyH P md ops Q S m l a w) ∨ (Region.ready md ops l ≠ [] ∧ ∀ i ∈ Region.ready md ops l, wpOp P ops Q i (fun a' w' => S w' ∧ Inv (l.setIfInBounds i true) a' w') a w)) :
    ∀ n l a w, remL l.toList = n → Inv l a w → wpAnyH P md ops Q S n l a w
  | 0, l, a, w, hn, h => by
    rcases hs l a w h with ⟨rfl, h1⟩ | ⟨h1, _⟩
    · rw [← hm, hn] at h1
      exact h1
    · refine absurd (List.eq_nil_iff_forall_not_mem.2 fun i hi => ?_) h1
      have h1 := (mem_ready.1 hi).1
      rcases Nat.lt_or_ge i l.size with h' | h'
      · have h2 := remL_zero l.toList hn i l[i] (by simp [h'])
        simp [h'] at h1
        rw [h1] at h2
        cases h2
      · simp [Array.getElem?_eq_none h'] at h1
  | n + 1, l, a, w, hn, h => by
    rcases hs l a w h with ⟨rfl, h1⟩ | ⟨h0, h1⟩
    · rw [← hm, hn] at h1
      exact h1
    · exact ⟨fun e => absurd e h0, fun i hi => wpOp_mono (fun a' w' h' => ⟨h'.1, wpAnyH_inv2 hm Inv hs n _ a' w' (by
        have h1 := (mem_ready.1 hi).1
        have h' : i < l.size := by
          rcases Nat.lt_or_ge i l.size with h' | h'
          · exact h'
          · simp [Array.getElem?_eq_none h'] at h1
        have h2 := remL_set l.toList i (by simp [h'] at h1 ⊢; exact h1)
        rw [Array.toList_setIfInBounds]
        omega) h'.2⟩) (h1 i hi)⟩
def tm (a : Act) (p : Nat) : Value := a.tmps[p]?.getD undef
theorem tm_eval (a : Act) (p : Nat) : a.eval (.tmp p) = tm a p := by simp [Act.eval, tm]
theorem iB_one6 {x : SI} : ∀ u ∈ iB x, u.oneCell' = true := by
  intro u hu
  unfold iB at hu
  simp only [List.mem_cons, List.not_mem_nil, or_false] at hu
  rcases hu with rfl | rfl | rfl | rfl | rfl | rfl | rfl <;> rfl
set_option maxRecDepth 100000 in
theorem bs_wp {o : Oper} {q : Nat} (h : o.op = .buildSlice 28 1 #[(0, .tmp q)]) {a : Act} {w : World} {K : Act → World → Prop} {Q : Exit → Act → World → Prop} {x : SI} (hq : tm a q = .agg (iB x).toArray)
    (hK : K (a.put o.dst (.slice (some ⟨w.heap.size, 0, none⟩) 1 1)) (w.alloc (.cells (iB x).toArray 40))) : o.wp Tryz.prog a w K Q := by
  obtain ⟨dst, op, ty, pos, af, gd⟩ := o
  dsimp only at h hK
  subst h
  unfold iB at hK hq
  unfold tm at hq
  go_simp
  exact hK
set_option maxRecDepth 100000 in
theorem call_wp1 {o : Oper} {f : FuncId} (he : ∀ args w, (callFunc f args).run Tryz.prog w = .ok (.enter f args) w) {p : Nat} {ty : Array TypeId} (h : o.op = .call { callee := .value (.func f), args := #[.tmp p], argTypes := ty }) {a : Act} {w : World} {K : Act → World → Prop} {Q : Exit → Act → World → Prop} {v : Value} (hp : tm a p = v)
    (H : Calls Tryz.prog f #[v] w fun e w' => ∃ u, e = .returned u ∧ K (a.put o.dst u) w') : o.wp Tryz.prog a w K Q := by
  obtain ⟨dst, op, t, pos, af, gd⟩ := o
  dsimp only at h H
  subst h
  unfold tm at hp
  subst hp
  go_simp
  refine Calls.mono H ?_
  rintro e w' ⟨u, rfl, hk⟩
  exact hk
set_option maxRecDepth 100000 in
theorem call_wp3 {o : Oper} {f : FuncId} (he : ∀ args w, (callFunc f args).run Tryz.prog w = .ok (.enter f args) w) {p q r : Nat} {ty : Array TypeId} (h : o.op = .call { callee := .value (.func f), args := #[.tmp p, .tmp q, .tmp r], argTypes := ty }) {a : Act} {w : World} {K : Act → World → Prop} {Q : Exit → Act → World → Prop} {v u s : Value} (hp : tm a p = v) (hq : tm a q = u) (hr : tm a r = s)
    (H : Calls Tryz.prog f #[v, u, s] w fun e w' => ∃ u, e = .returned u ∧ K (a.put o.dst u) w') : o.wp Tryz.prog a w K Q := by
  obtain ⟨dst, op, t, pos, af, gd⟩ := o
  dsimp only at h H
  subst h
  unfold tm at hp hq hr
  subst hp
  subst hq
  subst hr
  go_simp
  refine Calls.mono H ?_
  rintro e w' ⟨u, rfl, hk⟩
  exact hk
def CaI (ops : Array Oper) (i : Nat) (f : FuncId) (ag : Array Operand) (t : Tmp) : Prop := ∃ o : Oper, ops[i]? = some o ∧ (∃ ty, o.op = Op.call { callee := .value (.func f), args := ag, argTypes := ty }) ∧ o.dst = some t ∧ o.guard = none
def BsI (ops : Array Oper) (i : Nat) (q t : Tmp) : Prop := ∃ o : Oper, ops[i]? = some o ∧ o.op = Op.buildSlice 28 1 #[(0, Operand.tmp q)] ∧ o.dst = some t ∧ o.guard = none
def ApI (ops : Array Oper) (i : Nat) (p q t : Tmp) : Prop := ∃ o : Oper, ops[i]? = some o ∧ o.op = Op.call { callee := .builtin .append, args := #[.tmp p, .tmp q], argTypes := #[28, 28] } ∧ o.dst = some t ∧ o.guard = none
def LB28 (c a i b p k : Bool) : Array Bool := #[true, c, true, true, a, i, true, b, p, k, false, false, false, false, false]
def rdy28 (j : Nat) (c a i b p k : Bool) : Bool := (decide (j = 1) && !c) || (decide (j = 4) && !a) || (decide (j = 5) && !i && c && a) || (decide (j = 7) && !b) || (decide (j = 8) && !p && i && b) || (decide (j = 9) && !k && p) || k
def Bk28 (w0 : World) (x : SI) (w : World) (g : Nat) : Prop := w0.heap.size ≤ g ∧ w.heap[g]? = some (.cells (iB x).toArray 40 (0, 0))
def slc (u : Value) (n : Nat) : Option (Option Addr × Nat) → Value
  | none => u
  | some p => .slice p.1 n p.2
def slg (u : Value) : Option Nat → Value
  | none => u
  | some g => .slice (some ⟨g, 0, none⟩) 1 1
inductive Inv28 (w0 : World) (x : SI) (n : Nat) (r0 r1 r2 : List Value) (F : Value → Value → Value → Value → Value → Value → Act) (uN : Fin 6 → Value) (fin : Value) : Array Bool → Act → World → Prop
  | p1 (oc : Option (Option Addr × Nat)) (oa ob : Option Nat) (w : World) (hb : Below w0.heap.size w0 w) (ha : ∀ g, oa = some g → Bk28 w0 x w g) (hb2 : ∀ g, ob = some g → Bk28 w0 x w g)
      (hc : ∀ a c, oc = some (a, c) → w.ownsRow w0.heap.size 40 7 (.slice a n c) n r0 ∧ ∀ g, (oa = some g ∨ ob = some g) → a ≠ some ⟨g, 0, none⟩) :
      Inv28 w0 x n r0 r1 r2 F uN fin (LB28 oc.isSome oa.isSome false ob.isSome false false) (F (slc (uN 0) n oc) (slg (uN 1) oa) (uN 2) (slg (uN 3) ob) (uN 4) (uN 5)) w
  | p2 (v0 v1 : Value) (a : Option Addr) (c : Nat) (ob : Option Nat) (w : World) (hb : Below w0.heap.size w0 w) (hb2 : ∀ g, ob = some g → Bk28 w0 x w g) (ho : w.ownsRow w0.heap.size 40 7 (.slice a (n + 1) c) (n + 1) r1) :
      Inv28 w0 x n r0 r1 r2 F uN fin (LB28 true true true ob.isSome false false) (F v0 v1 (.slice a (n + 1) c) (slg (uN 3) ob) (uN 4) (uN 5)) w
  | p3 (v0 v1 v2 v3 : Value) (g c : Nat) (w : World) (hb : Below w0.heap.size w0 w) (ho : w.ownsRow w0.heap.size 40 7 (.slice (some ⟨g, 0, none⟩) (n + 1 + 1) c) (n + 1 + 1) r2) :
      Inv28 w0 x n r0 r1 r2 F uN fin (LB28 true true true true true false) (F v0 v1 v2 v3 (.slice (some ⟨g, 0, none⟩) (n + 1 + 1) c) (uN 5)) w
  | p4 (v0 v1 v2 v3 v4 : Value) (w : World) (hb : Below w0.heap.size w0 w) : Inv28 w0 x n r0 r1 r2 F uN fin (LB28 true true true true true true) (F v0 v1 v2 v3 v4 fin) w
theorem Bk28.bel {w0 w w' : World} {x : SI} {g : Nat} (h : Bk28 w0 x w g) (hb : Below w.heap.size w w') : Bk28 w0 x w' g := ⟨h.1, (hb.block g (Array.getElem?_eq_some_iff.1 h.2).1).trans h.2⟩
theorem own_bel {w w' : World} {base n k : Nat} {T : TypeId} {v : Value} {xs : List Value} (h : w.ownsRow base T k v n xs) (hb : Below w.heap.size w w') : w'.ownsRow base T k v n xs :=
  own_fr h (Fr.of_below hb) (fun b hv hx => by have h1 := (own_isT h hv).lt; have hx : w.heap.size ≤ b := hx; omega)
set_option maxHeartbeats 8000000 in
theorem region28 {ops : Array Oper} {Q : Exit → Act → World → Prop} {S : World → Prop} {w0 : World} {x : SI} {n : Nat} {r0 r1 r2 : List Value} {F : Value → Value → Value → Value → Value → Value → Act} {uN : Fin 6 → Value} {fin : Value} {fC fI fK : FuncId} {aO : Option Addr} {cO : Nat} {kk : Value} {i0 : TypeInfo}
    (hR : ∀ c a i b p k : Bool, (Region.ready .any ops (LB28 c a i b p k)).all (fun j => rdy28 j c a i b p k) = true)
    (hN : ∀ c a i b p k : Bool, (i = true → c = true ∧ a = true) → (p = true → i = true ∧ b = true) → (k = true → p = true) → k = false → (Region.ready .any ops (LB28 c a i b p k)).isEmpty = false)
    (eC : ∀ args w, (callFunc fC args).run Tryz.prog w = .ok (.enter fC args) w) (eI : ∀ args w, (callFunc fI args).run Tryz.prog w = .ok (.enter fI args) w) (eK : ∀ args w, (callFunc fK args).run Tryz.prog w = .ok (.enter fK args) w)
    (o1 : CaI ops 1 fC #[.tmp 128] 129) (o4 : BsI ops 4 131 132) (o5 : CaI ops 5 fI #[.tmp 129, .tmp 130, .tmp 132] 133) (o7 : BsI ops 7 134 135) (o8 : ApI ops 8 133 135 136) (o9 : CaI ops 9 fK #[.tmp 136] 137)
    (f129 : ∀ x129 x132 x133 x135 x136 x137 v, (F x129 x132 x133 x135 x136 x137).put (some 129) v = F v x132 x133 x135 x136 x137)
    (f132 : ∀ x129 x132 x133 x135 x136 x137 v, (F x129 x132 x133 x135 x136 x137).put (some 132) v = F x129 v x133 x135 x136 x137)
    (f133 : ∀ x129 x132 x133 x135 x136 x137 v, (F x129 x132 x133 x135 x136 x137).put (some 133) v = F x129 x132 v x135 x136 x137)
    (f135 : ∀ x129 x132 x133 x135 x136 x137 v, (F x129 x132 x133 x135 x136 x137).put (some 135) v = F x129 x132 x133 v x136 x137)
    (f136 : ∀ x129 x132 x133 x135 x136 x137 v, (F x129 x132 x133 x135 x136 x137).put (some 136) v = F x129 x132 x133 x135 v x137)
    (f137 : ∀ x129 x132 x133 x135 x136 x137 v, (F x129 x132 x133 x135 x136 x137).put (some 137) v = F x129 x132 x133 x135 x136 v)
    (e129 : ∀ x129 x132 x133 x135 x136 x137, tm (F x129 x132 x133 x135 x136 x137) 129 = x129)
    (e132 : ∀ x129 x132 x133 x135 x136 x137, tm (F x129 x132 x133 x135 x136 x137) 132 = x132)
    (e133 : ∀ x129 x132 x133 x135 x136 x137, tm (F x129 x132 x133 x135 x136 x137) 133 = x133)
    (e135 : ∀ x129 x132 x133 x135 x136 x137, tm (F x129 x132 x133 x135 x136 x137) 135 = x135)
    (e136 : ∀ x129 x132 x133 x135 x136 x137, tm (F x129 x132 x133 x135 x136 x137) 136 = x136)
    (e128 : ∀ x129 x132 x133 x135 x136 x137, tm (F x129 x132 x133 x135 x136 x137) 128 = .slice aO n cO) (e130 : ∀ x129 x132 x133 x135 x136 x137, tm (F x129 x132 x133 x135 x136 x137) 130 = kk) (e131 : ∀ x129 x132 x133 x135 x136 x137, tm (F x129 x132 x133 x135 x136 x137) 131 = .agg (iB x).toArray) (e134 : ∀ x129 x132 x133 x135 x136 x137, tm (F x129 x132 x133 x135 x136 x137) 134 = .agg (iB x).toArray)
    (hS : ∀ w, Below w0.heap.size w0 w → S w)
    (hi : Tryz.prog.info? 40 = some i0 ∧ i0.zero = some (.agg #[.string ⟨#[]⟩, .slice none 0 0, .bool false, .int .u64 0, .bool false, .int .i64 0, .int .i64 0]) ∧ i0.size = 7 ∧ i0.bytes = 80) (hn : n ≤ 1000000) (hr2 : r2 = r1 ++ iB x)
    (hC : ∀ W, Below w0.heap.size w0 W → Calls Tryz.prog fC #[.slice aO n cO] W fun e W' => ∃ a c, e = .returned (.slice a n c) ∧ W'.ownsRow W.heap.size 40 7 (.slice a n c) n r0 ∧ Below W.heap.size W W')
    (hI : ∀ W a c vb, Below w0.heap.size w0 W → W.ownsRow w0.heap.size 40 7 (.slice a n c) n r0 → a ≠ some ⟨vb, 0, none⟩ → W.heap[vb]? = some (.cells (iB x).toArray 40 (0, 0)) → Calls Tryz.prog fI #[.slice a n c, kk, .slice (some ⟨vb, 0, none⟩) 1 1] W fun e W' =>
      ∃ a' c', e = .returned (.slice a' (n + 1) c') ∧ W'.ownsRow w0.heap.size 40 7 (.slice a' (n + 1) c') (n + 1) r1 ∧ Below w0.heap.size w0 W' ∧ ∀ j, j < W.heap.size → a ≠ some ⟨j, 0, none⟩ → W'.heap[j]? = W.heap[j]?)
    (hK : ∀ W g c, Below w0.heap.size w0 W → W.ownsRow w0.heap.size 40 7 (.slice (some ⟨g, 0, none⟩) (n + 1 + 1) c) (n + 1 + 1) r2 → Calls Tryz.prog fK #[.slice (some ⟨g, 0, none⟩) (n + 1 + 1) c] W fun e W' => e = .returned fin ∧ Below W.heap.size W W')
    (hQ : ∀ v0 v1 v2 v3 v4 w, Below w0.heap.size w0 w → wpAnyH Tryz.prog .any ops Q S 5 (LB28 true true true true true true) (F v0 v1 v2 v3 v4 fin) w)
    {w : World} (hw : Below w0.heap.size w0 w) : wpAnyH Tryz.prog .any ops Q S 11 (LB28 false false false false false false) (F (uN 0) (uN 1) (uN 2) (uN 3) (uN 4) (uN 5)) w := by
  refine wpAnyH_inv2 (lend := LB28 true true true true true true) (m := 5) (by unfold LB28; simp [remL]) (Inv28 w0 x n r0 r1 r2 F uN fin) ?_ 11 _ _ w (by unfold LB28; simp [remL]) (.p1 none none none w hw (fun g e => by cases e) (fun g e => by cases e) (fun a c e => by cases e))
  intro l a w h
  cases h with
  | p4 v0 v1 v2 v3 v4 w hb => exact .inl ⟨rfl, hQ v0 v1 v2 v3 v4 w hb⟩
  | p3 v0 v1 v2 v3 g c w hb ho =>
    refine .inr ⟨fun e => ?_, fun i hi' => ?_⟩
    · have h1 := hN true true true true true false (fun _ => ⟨rfl, rfl⟩) (fun _ => ⟨rfl, rfl⟩) (fun h => by cases h) rfl
      rw [e] at h1
      cases h1
    have h1 := List.all_eq_true.1 (hR true true true true true false) i hi'
    obtain rfl : i = 9 := by simpa [rdy28] using h1
    obtain ⟨o, ho', ⟨ty, hop⟩, hod, hog⟩ := o9
    unfold wpOp
    simp only [ho']
    rw [if_pos (by unfold Region.wanted; rw [hog])]
    refine .inl (call_wp1 eK hop (e136 _ _ _ _ _ _) ((hK w g c hb ho).mono ?_))
    rintro e w' ⟨rfl, hb'⟩
    refine ⟨_, rfl, ?_⟩
    rw [hod, f137]
    exact ⟨hS _ (hb.trans (hb'.mono hb.size)), .p4 _ _ _ _ _ w' (hb.trans (hb'.mono hb.size))⟩
  | p2 v0 v1 a c ob w hb hb2 ho =>
    refine .inr ⟨fun e => ?_, fun i hi' => ?_⟩
    · have h1 := hN true true true ob.isSome false false (fun _ => ⟨rfl, rfl⟩) (fun h => by cases h) (fun h => by cases h) rfl
      rw [e] at h1
      cases h1
    have h1 := List.all_eq_true.1 (hR true true true ob.isSome false false) i hi'
    rcases (show (i = 7 ∧ ob.isSome = false) ∨ (i = 8 ∧ ob.isSome = true) by simpa [rdy28] using h1) with ⟨rfl, e⟩ | ⟨rfl, e⟩
    · obtain rfl : ob = none := by cases ob; rfl; cases e
      obtain ⟨o, ho', hop, hod, hog⟩ := o7
      unfold wpOp
      simp only [ho']
      rw [if_pos (by unfold Region.wanted; rw [hog])]
      refine .inl (bs_wp hop (e134 _ _ _ _ _ _) ?_)
      rw [hod, f135]
      have hba : Below w.heap.size w (w.alloc (.cells (iB x).toArray 40)) := (Below.refl _ _).alloc (Nat.le_refl _) _
      exact ⟨hS _ (hb.alloc hb.size _), .p2 _ _ a c (some w.heap.size) _ (hb.alloc hb.size _) (fun g e => by cases e; exact ⟨hb.size, heap_alloc_new w _⟩) (own_bel ho hba)⟩
    · obtain ⟨g, rfl⟩ := Option.isSome_iff_exists.1 e
      obtain ⟨o, ho', hop, hod, hog⟩ := o8
      unfold wpOp
      simp only [ho']
      rw [if_pos (by unfold Region.wanted; rw [hog])]
      have hg := hb2 g rfl
      refine .inl (wp_append_lies w (.tmp 133) (.tmp 135) _ hop w0.heap.size 40 i0 (.agg #[.string ⟨#[]⟩, .slice none 0 0, .bool false, .int .u64 0, .bool false, .int .i64 0, .int .i64 0]) 7 80 Tryz.underlying28 hi.1 hi.2.1 hi.2.2.1 hi.2.2.2 rfl (by decide) _ (n + 1) r1 ((tm_eval _ _).trans (e133 _ _ _ _ _ _)) ho ⟨g, 0, none⟩ 1 1 (iB x) ((tm_eval _ _).trans (e135 _ _ _ _ _ _)) rfl
        (fun j u hu => (by rw [Addr.add_lit, Nat.zero_add]; exact block_cell hg.2 j u (by rw [List.getElem?_toArray]; exact hu))) iB_one6 (by decide) (by unfold maxLen; omega) (by omega) hb.size _ rfl ?_)
      intro g' c' w' h1 h2 h3 h4
      rw [hod, f136]
      have hb' : Below w0.heap.size w0 w' := below_own hb hb.size ho h2
      exact ⟨hS _ hb', .p3 _ _ _ _ g' c' w' hb' (by rw [hr2]; exact h1)⟩
  | p1 oc oa ob w hb ha hb2 hc =>
    refine .inr ⟨fun e => ?_, fun i hi' => ?_⟩
    · have h1 := hN oc.isSome oa.isSome false ob.isSome false false (fun h => by cases h) (fun h => by cases h) (fun h => by cases h) rfl
      rw [e] at h1
      cases h1
    have h1 := List.all_eq_true.1 (hR oc.isSome oa.isSome false ob.isSome false false) i hi'
    have hba : Below w.heap.size w (w.alloc (.cells (iB x).toArray 40)) := (Below.refl _ _).alloc (Nat.le_refl _) _
    rcases (show (((i = 1 ∧ oc.isSome = false) ∨ (i = 4 ∧ oa.isSome = false)) ∨ ((i = 5 ∧ oc.isSome = true) ∧ oa.isSome = true)) ∨ (i = 7 ∧ ob.isSome = false) by simpa [rdy28] using h1) with ((⟨rfl, e⟩ | ⟨rfl, e⟩) | ⟨⟨rfl, e⟩, e'⟩) | ⟨rfl, e⟩
    · obtain rfl : oc = none := by cases oc; rfl; cases e
      obtain ⟨o, ho', ⟨ty, hop⟩, hod, hog⟩ := o1
      unfold wpOp
      simp only [ho']
      rw [if_pos (by unfold Region.wanted; rw [hog])]
      refine .inl (call_wp1 eC hop (e128 _ _ _ _ _ _) ((hC w hb).mono ?_))
      rintro e w' ⟨a, c, rfl, how, hb'⟩
      refine ⟨_, rfl, ?_⟩
      rw [hod, f129]
      refine ⟨hS _ (hb.trans (hb'.mono hb.size)), .p1 (some (a, c)) oa ob w' (hb.trans (hb'.mono hb.size)) (fun g e => (ha g e).bel hb') (fun g e => (hb2 g e).bel hb') (fun a' c' e => ?_)⟩
      cases e
      refine ⟨own_weak how hb.size, fun g hg e => ?_⟩
      have h2 := own_base how (k := g) (by rw [e]; rfl)
      have h3 : g < w.heap.size := by
        rcases hg with hg | hg
        · exact (Array.getElem?_eq_some_iff.1 (ha g hg).2).1
        · exact (Array.getElem?_eq_some_iff.1 (hb2 g hg).2).1
      omega
    · obtain rfl : oa = none := by cases oa; rfl; cases e
      obtain ⟨o, ho', hop, hod, hog⟩ := o4
      unfold wpOp
      simp only [ho']
      rw [if_pos (by unfold Region.wanted; rw [hog])]
      refine .inl (bs_wp hop (e131 _ _ _ _ _ _) ?_)
      rw [hod, f132]
      refine ⟨hS _ (hb.alloc hb.size _), .p1 oc (some w.heap.size) ob _ (hb.alloc hb.size _) (fun g e => by cases e; exact ⟨hb.size, heap_alloc_new w _⟩) (fun g e => (hb2 g e).bel hba) (fun a' c' e => ?_)⟩
      obtain ⟨h2, h3⟩ := hc a' c' e
      refine ⟨own_bel h2 hba, fun g hg e2 => ?_⟩
      rcases hg with hg | hg
      · cases hg
        have := (own_isT h2 (k := w.heap.size) (by rw [e2]; rfl)).lt
        omega
      · exact h3 g (.inr hg) e2
    · obtain ⟨⟨a, c⟩, rfl⟩ := Option.isSome_iff_exists.1 e
      obtain ⟨g, rfl⟩ := Option.isSome_iff_exists.1 e'
      obtain ⟨o, ho', ⟨ty, hop⟩, hod, hog⟩ := o5
      obtain ⟨h2, h3⟩ := hc a c rfl
      unfold wpOp
      simp only [ho']
      rw [if_pos (by unfold Region.wanted; rw [hog])]
      refine .inl (call_wp3 eI hop (e129 _ _ _ _ _ _) (e130 _ _ _ _ _ _) (e132 _ _ _ _ _ _) ((hI w a c g hb h2 (h3 g (.inl rfl)) (ha g rfl).2).mono ?_))
      rintro e w' ⟨a', c', rfl, how, hb', hkp⟩
      refine ⟨_, rfl, ?_⟩
      rw [hod, f133]
      exact ⟨hS _ hb', .p2 _ _ a' c' ob w' hb' (fun k e => ⟨(hb2 k e).1, (hkp k (Array.getElem?_eq_some_iff.1 (hb2 k e).2).1 (h3 k (.inr e))).trans (hb2 k e).2⟩) how⟩
    · obtain rfl : ob = none := by cases ob; rfl; cases e
      obtain ⟨o, ho', hop, hod, hog⟩ := o7
      unfold wpOp
      simp only [ho']
      rw [if_pos (by unfold Region.wanted; rw [hog])]
      refine .inl (bs_wp hop (e134 _ _ _ _ _ _) ?_)
      rw [hod, f135]
      refine ⟨hS _ (hb.alloc hb.size _), .p1 oc oa (some w.heap.size) _ (hb.alloc hb.size _) (fun g e => (ha g e).bel hba) (fun g e => by cases e; exact ⟨hb.size, heap_alloc_new w _⟩) (fun a' c' e => ?_)⟩
      obtain ⟨h2, h3⟩ := hc a' c' e
      refine ⟨own_bel h2 hba, fun g hg e2 => ?_⟩
      rcases hg with hg | hg
      · exact h3 g (.inl hg) e2
      · cases hg
        have := (own_isT h2 (k := w.heap.size) (by rw [e2]; rfl)).lt
        omega
theorem put_same (A : Act) (t : Tmp) (v u : Value) : (A.put (some t) v).put (some t) u = A.put (some t) u := by simp [Act.put]
theorem put_swap {t q : Tmp} (h : t ≠ q) (A : Act) (v u : Value) : (A.put (some t) v).put (some q) u = (A.put (some q) u).put (some t) v := Act.put_comm A v u (fun d e1 e2 => by cases e1; cases e2; exact h rfl)
theorem tm_same {A : Act} {t : Tmp} (h : t < A.tmps.size) (v : Value) : tm (A.put (some t) v) t = v := by simp [tm, Act.put, h]
theorem tm_ne {A : Act} {t p : Tmp} (h : t ≠ p) (v : Value) : tm (A.put (some t) v) p = tm A p := by simp [tm, Act.put, h]
theorem size_put (A : Act) (t : Tmp) (v : Value) : (A.put (some t) v).tmps.size = A.tmps.size := by simp [Act.put]
def putF28 (A : Act) (x0 x1 x2 x3 x4 x5 : Value) : Act := (((((A.put (some 129) x0).put (some 132) x1).put (some 133) x2).put (some 135) x3).put (some 136) x4).put (some 137) x5
theorem putF28_129 (A : Act) : ∀ x0 x1 x2 x3 x4 x5 v, (putF28 A x0 x1 x2 x3 x4 x5).put (some 129) v = putF28 A v x1 x2 x3 x4 x5 := fun x0 x1 x2 x3 x4 x5 v => by
  unfold putF28
  rw [put_swap (t := 137) (q := 129) (by decide), put_swap (t := 136) (q := 129) (by decide), put_swap (t := 135) (q := 129) (by decide), put_swap (t := 133) (q := 129) (by decide), put_swap (t := 132) (q := 129) (by decide), put_same]
theorem putF28_132 (A : Act) : ∀ x0 x1 x2 x3 x4 x5 v, (putF28 A x0 x1 x2 x3 x4 x5).put (some 132) v = putF28 A x0 v x2 x3 x4 x5 := fun x0 x1 x2 x3 x4 x5 v => by
  unfold putF28
  rw [put_swap (t := 137) (q := 132) (by decide), put_swap (t := 136) (q := 132) (by decide), put_swap (t := 135) (q := 132) (by decide), put_swap (t := 133) (q := 132) (by decide), put_same]
theorem putF28_133 (A : Act) : ∀ x0 x1 x2 x3 x4 x5 v, (putF28 A x0 x1 x2 x3 x4 x5).put (some 133) v = putF28 A x0 x1 v x3 x4 x5 := fun x0 x1 x2 x3 x4 x5 v => by
  unfold putF28
  rw [put_swap (t := 137) (q := 133) (by decide), put_swap (t := 136) (q := 133) (by decide), put_swap (t := 135) (q := 133) (by decide), put_same]
theorem putF28_135 (A : Act) : ∀ x0 x1 x2 x3 x4 x5 v, (putF28 A x0 x1 x2 x3 x4 x5).put (some 135) v = putF28 A x0 x1 x2 v x4 x5 := fun x0 x1 x2 x3 x4 x5 v => by
  unfold putF28
  rw [put_swap (t := 137) (q := 135) (by decide), put_swap (t := 136) (q := 135) (by decide), put_same]
theorem putF28_136 (A : Act) : ∀ x0 x1 x2 x3 x4 x5 v, (putF28 A x0 x1 x2 x3 x4 x5).put (some 136) v = putF28 A x0 x1 x2 x3 v x5 := fun x0 x1 x2 x3 x4 x5 v => by
  unfold putF28
  rw [put_swap (t := 137) (q := 136) (by decide), put_same]
theorem putF28_137 (A : Act) : ∀ x0 x1 x2 x3 x4 x5 v, (putF28 A x0 x1 x2 x3 x4 x5).put (some 137) v = putF28 A x0 x1 x2 x3 x4 v := fun x0 x1 x2 x3 x4 x5 v => by
  unfold putF28
  rw [put_same]
theorem tmF28_129 {A : Act} (h : 200 ≤ A.tmps.size) : ∀ x0 x1 x2 x3 x4 x5, tm (putF28 A x0 x1 x2 x3 x4 x5) 129 = x0 := fun x0 x1 x2 x3 x4 x5 => by
  unfold putF28
  rw [tm_ne (t := 137) (p := 129) (by decide), tm_ne (t := 136) (p := 129) (by decide), tm_ne (t := 135) (p := 129) (by decide), tm_ne (t := 133) (p := 129) (by decide), tm_ne (t := 132) (p := 129) (by decide), tm_same]
  (try simp only [size_put])
  exact Nat.lt_of_lt_of_le (by decide) h
theorem tmF28_132 {A : Act} (h : 200 ≤ A.tmps.size) : ∀ x0 x1 x2 x3 x4 x5, tm (putF28 A x0 x1 x2 x3 x4 x5) 132 = x1 := fun x0 x1 x2 x3 x4 x5 => by
  unfold putF28
  rw [tm_ne (t := 137) (p := 132) (by decide), tm_ne (t := 136) (p := 132) (by decide), tm_ne (t := 135) (p := 132) (by decide), tm_ne (t := 133) (p := 132) (by decide), tm_same]
  (try simp only [size_put])
  exact Nat.lt_of_lt_of_le (by decide) h
theorem tmF28_133 {A : Act} (h : 200 ≤ A.tmps.size) : ∀ x0 x1 x2 x3 x4 x5, tm (putF28 A x0 x1 x2 x3 x4 x5) 133 = x2 := fun x0 x1 x2 x3 x4 x5 => by
  unfold putF28
  rw [tm_ne (t := 137) (p := 133) (by decide), tm_ne (t := 136) (p := 133) (by decide), tm_ne (t := 135) (p := 133) (by decide), tm_same]
  (try simp only [size_put])
  exact Nat.lt_of_lt_of_le (by decide) h
theorem tmF28_135 {A : Act} (h : 200 ≤ A.tmps.size) : ∀ x0 x1 x2 x3 x4 x5, tm (putF28 A x0 x1 x2 x3 x4 x5) 135 = x3 := fun x0 x1 x2 x3 x4 x5 => by
  unfold putF28
  rw [tm_ne (t := 137) (p := 135) (by decide), tm_ne (t := 136) (p := 135) (by decide), tm_same]
  (try simp only [size_put])
  exact Nat.lt_of_lt_of_le (by decide) h
theorem tmF28_136 {A : Act} (h : 200 ≤ A.tmps.size) : ∀ x0 x1 x2 x3 x4 x5, tm (putF28 A x0 x1 x2 x3 x4 x5) 136 = x4 := fun x0 x1 x2 x3 x4 x5 => by
  unfold putF28
  rw [tm_ne (t := 137) (p := 136) (by decide), tm_same]
  (try simp only [size_put])
  exact Nat.lt_of_lt_of_le (by decide) h
theorem tmF28_137 {A : Act} (h : 200 ≤ A.tmps.size) : ∀ x0 x1 x2 x3 x4 x5, tm (putF28 A x0 x1 x2 x3 x4 x5) 137 = x5 := fun x0 x1 x2 x3 x4 x5 => by
  unfold putF28
  rw [tm_same]
  (try simp only [size_put])
  exact Nat.lt_of_lt_of_le (by decide) h
theorem tmF28_no {A : Act} {p : Tmp} (h : p ≠ 129 ∧ p ≠ 132 ∧ p ≠ 133 ∧ p ≠ 135 ∧ p ≠ 136 ∧ p ≠ 137) : ∀ x0 x1 x2 x3 x4 x5, tm (putF28 A x0 x1 x2 x3 x4 x5) p = tm A p := fun x0 x1 x2 x3 x4 x5 => by
  unfold putF28
  rw [tm_ne (Ne.symm h.2.2.2.2.2), tm_ne (Ne.symm h.2.2.2.2.1), tm_ne (Ne.symm h.2.2.2.1), tm_ne (Ne.symm h.2.2.1), tm_ne (Ne.symm h.2.1), tm_ne (Ne.symm h.1)]
end Go.Proofs.YtmagojckhfkcdaaGreatDoor.Sk
