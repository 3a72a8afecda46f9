/- Texts of the claim, put together: KTw. -/
import Derived.Test.YtdgfldeeflmnmaaGreatDoorSKTr
import Derived.Test.YtdgfldeeflmnmaaGreatDoorSKqT
import Derived.Deep.RegionHeldLaw
import Derived.Deep.AppendLies
import Derived.Maps.AppendAt
import Derived.Laws.AppendOwnNone
namespace Go.Proofs.YtdgfldeeflmnmaaGreatDoor.Sk
open Go Go.RowKit
/-- append at a step of a region that draws its order: any source, none too -/
theorem step_app {P : Program} {ops : Array Oper} {o : Oper} {a : Act} {w : World} {K : Act → World → Prop} {Q : Exit → Act → World → Prop} {E : Prop} (hgd : o.guard = none) (s x : Operand) (t : TypeId)
    (ho : o.op = .call { callee := .builtin .append, args := #[s, x], argTypes := #[t, t] })
    (base : Nat) (e : TypeId) (i : TypeInfo) (z : Value) (size bytes : Nat) (ht : P.underlying t = some (.slice e)) (hi : P.info? e = some i) (hz : i.zero = some z)
    (hsize : i.size = size) (hby : i.bytes = bytes) (hzs : z.cells.size = size) (hsz : 0 < size)
    (v : Value) (n : Nat) (xs : List Value) (hs : a.eval s = v) (hown : w.ownsRow base e size v n xs)
    (xv : Value) (m : Nat) (news : List Value) (hx : a.eval x = xv)
    (hsrc : (xv = .slice none 0 0 ∧ news = [] ∧ m = 0) ∨ ∃ ad c, xv = .slice (some ad) m c ∧ news.length = m * size ∧ ∀ j u, news[j]? = some u → w.cell? (ad.add j) = some u) (h1 : ∀ u ∈ news, u.oneCell' = true)
    (h63 : n + m ≤ maxLen) (hbytes : (n + m) * bytes ≤ 140737488355328) (hbase : base ≤ w.heap.size)
    (h : ∀ v' w', w'.ownsRow base e size v' (n + m) (xs ++ news) → w.grownBy w' v.ownBlock → (v'.ownBlock = v.ownBlock ∨ v'.ownBlock = some w.heap.size) → K (a.put o.dst v') w') :
    if Region.wanted o (yielded ops a.tmps) = true then Oper.wp P o a w K Q else E := by
  have hw : Region.wanted o (yielded ops a.tmps) = true := by simp [Region.wanted, hgd]
  rw [if_pos hw]
  have hr : ∃ v' w', (Builtin.append_ #[t, t] o.type #[v, xv]).run P w = .ok v' w' ∧ w'.ownsRow base e size v' (n + m) (xs ++ news) ∧ w.grownBy w' v.ownBlock ∧ (v'.ownBlock = v.ownBlock ∨ v'.ownBlock = some w.heap.size) := by
    rcases hsrc with ⟨rfl, rfl, rfl⟩ | ⟨ad, c, rfl, hl, hnews⟩
    · refine ⟨v, w, run_append_owned_none (P := P) (w := w) base t o.type e i size ht hi v n xs hown, by rw [List.append_nil, Nat.add_zero]; exact hown, ⟨rfl, rfl, rfl, Nat.le_refl _, fun _ _ _ => rfl⟩, .inl rfl⟩
    · obtain ⟨v', w', h2, h3, h4, _, h5⟩ := run_append_own_at (P := P) w base t o.type e i z size bytes ht hi hz hsize hby hzs hsz v n xs hown ad m c news hl hnews h1 h63 hbytes hbase
      exact ⟨v', w', h2, h3, h4, h5⟩
  obtain ⟨v', w', hr, h2, h3, h4⟩ := hr
  unfold Oper.wp execOp
  simp only [ho, resolve, invoke, builtin, Sem.run_bind, Sem.run_pure, Result.andThen_ok, List.map_toArray, List.map_cons, List.map_nil, hs, hx, hr]
  exact h v' w' h2 h3 h4
theorem at_opW {P : Program} {ops : Array Oper} {o : Oper} {a : Act} {w : World} {K : Act → World → Prop} {Q : Exit → Act → World → Prop} {E : Prop}
    (h : ∀ W, W = w → (if Region.wanted o (yielded ops a.tmps) = true then Oper.wp P o a W K Q else E)) : if Region.wanted o (yielded ops a.tmps) = true then Oper.wp P o a w K Q else E := h w rfl
theorem new_at {W : World} {n : Nat} {o : Obj} (h : W.heap.size = n) : (W.alloc o).heap[n]? = some o := by subst h; exact heap_alloc_new W o
theorem old_at {W : World} {n : Nat} {o o' : Obj} (h : W.heap[n]? = some o') : (W.alloc o).heap[n]? = some o' := (Below.heap_alloc _ _ _ (Array.getElem?_eq_some_iff.1 h).1).trans h
theorem own_zero {W : World} {base g : Nat} {T : TypeId} (h : W.heap[g]? = some (.cells #[] T (0, 0))) (hb : base ≤ g) : W.ownsRow base T 1 (.slice (some ⟨g, 0, none⟩) 0 0) 0 [] :=
  ⟨rfl, .inr ⟨g, 0, #[], rfl, hb, h, Nat.le_refl _, Nat.zero_le _, rfl, rfl⟩⟩
theorem one_cell {W : World} {g : Nat} {v : Value} {T : TypeId} (h : W.heap[g]? = some (.cells #[v] T (0, 0))) : ∀ j u, [v][j]? = some u → W.cell? ((⟨g, 0, none⟩ : Addr).add j) = some u := fun j u hu => by
  rw [Addr.add_lit, Nat.zero_add]
  simp only [World.cell?, h]
  simpa using hu
theorem take_cells {W : World} {b off : Nat} {l : List B} (h : RdF W (some ⟨b, off, none⟩) (strF l)) (k : Nat) : ∀ j u, (strF (l.take k))[j]? = some u → W.cell? ((⟨b, off, none⟩ : Addr).add j) = some u := fun j u hu => by
  have hu' : (strF l)[j]? = some u := by
    unfold strF at hu ⊢
    rw [List.map_take, List.getElem?_take] at hu
    split at hu
    · exact hu
    · cases hu
  obtain ⟨b', off', e, _, hc⟩ := h (by intro e; rw [e] at hu'; cases hu')
  cases e
  rw [Addr.add_lit]
  exact hc j u hu'
theorem drop_cells {W : World} {b off : Nat} {l : List B} (h : RdF W (some ⟨b, off, none⟩) (strF l)) (k : Nat) : ∀ j u, (strF (l.drop k))[j]? = some u → W.cell? ((⟨b, off + k, none⟩ : Addr).add j) = some u := fun j u hu => by
  have hu' : (strF l)[k + j]? = some u := by
    unfold strF at hu ⊢
    rw [List.map_drop, List.getElem?_drop] at hu
    exact hu
  obtain ⟨b', off', e, _, hc⟩ := h (by intro e; rw [e] at hu'; cases hu')
  cases e
  rw [Addr.add_lit, Nat.add_assoc]
  exact hc _ u hu'
/-- the list with one more string -/
def insS (l : List B) (s : B) (k : Nat) : List B := l.take k ++ ([s] ++ l.drop k)
structure InsOk (l : List B) (s : B) (k : Nat) : Prop where
  so : (insS l s k).Pairwise (· < ·)
  mem : ∀ x, x ∈ insS l s k ↔ x ∈ l ∨ x = s
  le : k ≤ l.length
theorem ins_ok {l : List B} {s : B} {k : Nat} (hso : l.Pairwise (· < ·)) (hk : k ≤ l.length) (h1 : ∀ y ∈ l.take k, y < s) (h2 : ∀ y ∈ l.drop k, s < y) : InsOk l s k := by
  have hl : l = l.take k ++ l.drop k := (List.take_append_drop k l).symm
  refine ⟨?_, fun x => ?_, hk⟩
  · unfold insS
    rw [hl, List.pairwise_append] at hso
    rw [List.pairwise_append]
    refine ⟨hso.1, ?_, fun a ha b hb => ?_⟩
    · rw [List.singleton_append, List.pairwise_cons]
      exact ⟨h2, hso.2.1⟩
    · rw [List.singleton_append] at hb
      rcases List.mem_cons.1 hb with rfl | hb
      · exact h1 a ha
      · exact hso.2.2 a ha b hb
  · unfold insS
    rw [List.mem_append, List.mem_append, List.mem_singleton]
    constructor
    · rintro (h | h | h)
      · exact .inl (List.mem_of_mem_take h)
      · exact .inr h
      · exact .inl (List.mem_of_mem_drop h)
    · rintro (h | h)
      · rw [hl] at h
        rcases List.mem_append.1 h with h | h
        · exact .inl h
        · exact .inr (.inr h)
      · exact .inr (.inl h)
theorem drop_gt {l : List B} {s y : B} {k : Nat} (hso : l.Pairwise (· < ·)) (hy : l[k]? = some y) (hn : ¬ y < s) (hne : y ≠ s) : ∀ z ∈ l.drop k, s < z := by
  have hk := (List.getElem?_eq_some_iff.1 hy).1
  have hd : l.drop k = y :: l.drop (k + 1) := by rw [List.drop_eq_getElem_cons hk, (List.getElem?_eq_some_iff.1 hy).2]
  have hlt : s < y := lt_of_le_ne' (List.not_lt.1 hn) (fun e => hne e.symm)
  have hp : (y :: l.drop (k + 1)).Pairwise (· < ·) := by rw [← hd]; exact hso.drop
  intro z hz
  rw [hd] at hz
  rcases List.mem_cons.1 hz with rfl | hz
  · exact hlt
  · exact List.lt_trans hlt ((List.pairwise_cons.1 hp).1 z hz)
/-- a sorted list in memory, as with and Keys have it -/
structure SoAt (w : World) (a : Option Addr) (c : Nat) (l : List B) : Prop where
  rd : RdF w a (strF l)
  nil : a = none → l = [] ∧ c = 0
  fm : ∀ q, a = some q → ∃ b, q = ⟨b, 0, none⟩
  cap : l.length ≤ c
  cm : c ≤ 9223372036854775807
  so : l.Pairwise (· < ·)
theorem SoAt.below {w w' : World} {a : Option Addr} {c : Nat} {l : List B} (h : SoAt w a c l) (hb : Below w.heap.size w w') : SoAt w' a c l := ⟨h.rd.below hb, h.nil, h.fm, h.cap, h.cm, h.so⟩
/-- what with gives -/
def WiPost (l : List B) (s : B) (w : World) (e : Ending) (w' : World) : Prop :=
  ∃ (a : Option Addr) (c : Nat) (r : List B), e = .returned (.slice a r.length c) ∧ SoAt w' a c r ∧ (∀ x, x ∈ r ↔ x ∈ l ∨ x = s) ∧ r.length ≤ l.length + 1 ∧ Below w.heap.size w w'
theorem with_post {l : List B} {s : ByteArray} {k : Nat} {w w1 w6 : World} {v : Value} (hown : w6.ownsRow w1.heap.size 9 1 v (0 + k + 1 + (l.length - k)) ([] ++ strF (l.take k) ++ [.string s] ++ strF (l.drop k))) (hb : Below w.heap.size w w6) (_hk : k ≤ l.length) (hi : InsOk l (d s) k) {e : Ending} (he : e = .returned v) : WiPost l (d s) w e w6 := by
  subst he
  have hlen : (insS l (d s) k).length = 0 + k + 1 + (l.length - k) := by
    unfold insS
    rw [List.length_append, List.length_take, List.length_append, List.length_singleton, List.length_drop]
    have := hi.le
    omega
  have hfl : [] ++ strF (l.take k) ++ [.string s] ++ strF (l.drop k) = strF (insS l (d s) k) := by
    unfold insS
    rw [strF_append, strF_append, List.nil_append, List.append_assoc]
    rfl
  rw [hfl, ← hlen] at hown
  obtain ⟨a, c, rfl⟩ := own_form hown
  refine ⟨a, c, insS l (d s) k, rfl, ⟨RdF.of_own hown, fun e => ?_, fun q e => ?_, own_cap hown, ?_, hi.so⟩, hi.mem, by rw [hlen]; have := hi.le; omega, hb⟩
  · rcases hown.2 with ⟨hv, h0⟩ | ⟨g, cap', cur, hv, _⟩
    · omega
    · rw [e] at hv; cases hv
  · rcases hown.2 with ⟨hv, h0⟩ | ⟨g, cap', cur, hv, _⟩
    · rw [e] at hv; cases hv
    · rw [e] at hv; cases hv
      exact ⟨g, rfl⟩
  · rcases hown.2 with ⟨hv, h0⟩ | ⟨g, cap', cur, hv, _, _, _, h2, _⟩
    · omega
    · cases hv
      exact h2
theorem with_same {l : List B} {s : B} {w w' : World} {a : Option Addr} {c : Nat} (h : SoAt w' a c l) (hs : s ∈ l) (hb : Below w.heap.size w w') : WiPost l s w (.returned (.slice a l.length c)) w' :=
  ⟨a, c, l, rfl, h, fun x => ⟨.inl, fun hx => hx.elim id (fun e => e ▸ hs)⟩, by omega, hb⟩
set_option maxRecDepth 100000 in
set_option maxHeartbeats 8000000 in
theorem rwith_calls (a : Option Addr) (c : Nat) (l : List B) (s : ByteArray) (w : World) (hl : SoAt w a c l) (hz : ∀ y ∈ l, y.length ≤ 4611686018427387904) (hs : s.size ≤ 4611686018427387904) (hn : l.length ≤ 1000000) :
    Calls Tryz.prog 157 #[.slice a l.length c, .string s] w (WiPost l (d s) w) := by
  have HL := Lib.hid (And.intro hl hz)
  have hlc := hl.cap
  have hcm := hl.cm
  obtain ⟨i0, hi0, hz0, hz1, hz2⟩ := info_parts Tryz.info9
  have HI0 := Lib.hid (And.intro hi0 (And.intro hz0 (And.intro hz1 hz2)))
  clear hl hz hi0 hz0 hz1 hz2
  go_enter Tryz.func157, Tryz.ntmps157
  go_wp2_with fail
  go_loopw [5] (fun i wr => ∃ k n : Nat, k ≤ l.length ∧ i = .int .i64 k ∧ (∀ y ∈ l.take k, y < d s) ∧ wr = w.drewN n) (fun i _ => l.length - (intOf i).toNat)
  case atStart => exact ⟨0, 0, Nat.zero_le _, rfl, (fun y hy => by cases hy), rfl⟩
  case round =>
    obtain ⟨k, n, hk, rfl, hall, hw⟩ := hrel
    obtain ⟨w1, hw1⟩ : ∃ q, q = wr := ⟨_, rfl⟩
    subst hw1
    have hb1 : Below w.heap.size w w1 := by rw [hw]; exact below_drewN (Below.refl _ _) n
    have HA := Lib.hid (And.intro hall hw)
    have HW := Lib.hid hb1
    clear hall hw
    by_cases hlt : k < l.length
    · obtain ⟨y, hy⟩ : ∃ y, l[k]? = some y := ⟨_, List.getElem?_eq_getElem hlt⟩
      have hrd := (HL.out.1.below hb1).rd
      obtain ⟨b, off, rfl, hbl, hc⟩ := hrd (by intro e; have := strF_length l; rw [e] at this; simp at this; omega)
      obtain ⟨ys, hys⟩ : ∃ q : ByteArray, q = ⟨y.toArray⟩ := ⟨_, rfl⟩
      have hyd : d ys = y := by rw [hys]
      have c0 := hc k (encStr y) (by unfold strF; rw [List.getElem?_map, hy]; rfl)
      rw [show encStr y = Value.string ys by rw [hys]] at c0
      have hyz : ys.size ≤ 4611686018427387904 := by
        have h1 := HL.out.2 y (List.mem_of_getElem? hy)
        rw [← hyd] at h1
        simpa [d] using h1
      have HRD : Hid (RdF w1 (some ⟨b, off, none⟩) (strF l)) := Lib.hid hrd
      have HY := Lib.hid (And.intro hy hyd)
      clear hc hy hys hyd hrd hb1
      go_wp2_with fail
      go_at_call 181
      refine (rless_calls ys s w1 hyz hs).mono ?_
      rintro e w2 ⟨rfl, m, hm⟩
      rw [HY.out.2]
      have c0' : w2.cell? ⟨b, off + k, none⟩ = some (.string ys) := by rw [hm]; exact c0
      have hbl' : b < w2.heap.size := by rw [hm]; exact hbl
      have HM := Lib.hid hm
      clear hm c0 hbl
      cases hq : decide (y < d s) with
      | true =>
        have HQ := Lib.hid (of_decide_eq_true hq)
        clear hq
        go_wp2_with fail
        go_roundw
        case rel =>
          refine ⟨k + 1, n + m, by omega, by go_num, fun z hz => ?_, by rw [HM.out, HA.out.2, World.drewN_drewN]⟩
          rw [List.take_add_one, HY.out.1] at hz
          rcases List.mem_append.1 hz with h | h
          · exact HA.out.1 z h
          · rw [List.mem_singleton.1 h]; exact HQ.out
        case measure => simp [intOf]; omega
      | false =>
        have hnl := of_decide_eq_false hq
        have hb2 : Below w1.heap.size w1 w2 := by rw [HM.out]; exact below_drewN (Below.refl _ _) m
        by_cases hye : y = d s
        · have hq2 : (ys.toList == s.toList) = true := by
            have : ys = s := ByteArray.ext (Array.toList_inj.1 (HY.out.2.trans hye))
            rw [this]
            simp
          have HE : Hid (d s ∈ l) := Lib.hid (by rw [← hye]; exact List.mem_of_getElem? HY.out.1)
          have HB2 := Lib.hid (Bthen HW.out hb2)
          clear hq hnl hye hb2
          go_wp2_with fail
          go_ret
          exact with_same (HL.out.1.below HB2.out) HE.out HB2.out
        · have hq2 : (ys.toList == s.toList) = false := ba_ne (fun e => hye (by rw [← HY.out.2, e]))
          have HINS : Hid (InsOk l (d s) k) := Lib.hid (ins_ok HL.out.1.so hk HA.out.1 (drop_gt HL.out.1.so HY.out.1 hnl hye))
          have HB2 := Lib.hid (And.intro (Bthen HW.out hb2) (HRD.out.below hb2))
          clear hq hnl hye hb2 HW HRD HM HA
          obtain ⟨w1, hw1⟩ : ∃ q, q = w2 := ⟨_, rfl⟩
          subst hw1
          have HW := Lib.hid HB2.out.1
          have HRD := Lib.hid HB2.out.2
          have hkc : ¬ (c = k) := by omega
          clear HB2
          go_upto_region 6 with fail
          go_region_held_law (fun _ => True) (trivial)
            (first
              | (refine at_opW ?_; intro W hW; have hz := congrArg (fun q : World => q.heap.size) hW; simp at hz; have hbW : Below w1.heap.size w1 W := (by rw [hW]; first | exact Below.refl _ _ | exact (Below.refl _ _).drew | exact (Below.refl _ _).drew.drew | exact (Below.refl _ _).alloc (Nat.le_refl _) _ | exact ((Below.refl _ _).alloc (Nat.le_refl _) _).drew | exact ((Below.refl _ _).drew).alloc (Nat.le_refl _) _ | exact (((Below.refl _ _).drew).alloc (Nat.le_refl _) _).drew | exact ((Below.refl _ _).alloc (Nat.le_refl _) _).alloc (by simp) _ | exact (((Below.refl _ _).alloc (Nat.le_refl _) _).alloc (by simp) _).drew | exact (((Below.refl _ _).alloc (Nat.le_refl _) _).drew).alloc (by simp) _ | exact ((((Below.refl _ _).alloc (Nat.le_refl _) _).drew).alloc (by simp) _).drew | exact ((((Below.refl _ _).drew).alloc (Nat.le_refl _) _).drew).alloc (by simp) _ | exact (((((Below.refl _ _).drew).alloc (Nat.le_refl _) _).drew).alloc (by simp) _).drew | exact (((Below.refl _ _).drew).alloc (Nat.le_refl _) _).alloc (by simp) _); have hE : W.heap[w1.heap.size]? = some (.cells #[] 9 (0, 0)) := (by rw [hW]; first | (refine new_at ?_; simp; done) | (refine old_at (new_at ?_); simp; done) | exact new_at rfl | exact old_at (new_at rfl)); have hS0 : W.heap.size = w1.heap.size + 1 ∨ W.heap[w1.heap.size + 1]? = some (.cells #[.string s] 9 (0, 0)) := (by rw [hW]; first | (refine .inl ?_; simp; done) | (refine .inr ?_; first | (refine new_at ?_; simp; done) | (refine old_at (new_at ?_); simp; done) | exact new_at rfl | exact old_at (new_at rfl))); clear hW; refine step_app rfl _ _ 65 (by rfl) w1.heap.size 9 i0 (.string ⟨#[]⟩) 1 16 Tryz.underlying65 HI0.out.1 HI0.out.2.1 HI0.out.2.2.1 HI0.out.2.2.2 rfl (by decide) (.slice (some ⟨w1.heap.size, 0, none⟩) 0 0) 0 [] (by rfl) (own_zero hE (by omega)) _ (k) (strF (l.take (k))) (by rfl) (.inr ⟨_, _, rfl, by rw [strF_length, List.length_take]; omega, take_cells (HRD.out.below hbW) _⟩) strF_one (by unfold maxLen; omega) (by omega) (by omega) ?_; intro v4 w4 hown4 hgrow4 hblk4; have hA4 : Below w1.heap.size w1 w4 := below_own hbW (by omega) (own_zero hE (by omega)) hgrow4; have hS4 : W.heap.size = w1.heap.size + 1 ∨ w4.heap[w1.heap.size + 1]? = some (.cells #[.string s] 9 (0, 0)) := hS0.imp id (fun h => (hgrow4.block _ (isT_of h).lt (fun e => by injection e with e; simp at e)).trans h); have H4 := Lib.hid (And.intro hown4 (And.intro hA4 (And.intro hS4 hz))); clear hown4 hgrow4 hblk4 hA4 hS4 hS0 hE hbW hz)
              | (refine at_opW ?_; intro W hW; have hz := congrArg (fun q : World => q.heap.size) hW; simp at hz; have hbW : Below w1.heap.size w1 W := (by rw [hW]; first | exact Below.refl _ _ | exact (Below.refl _ _).drew | exact (Below.refl _ _).drew.drew | exact (Below.refl _ _).alloc (Nat.le_refl _) _ | exact ((Below.refl _ _).alloc (Nat.le_refl _) _).drew | exact ((Below.refl _ _).drew).alloc (Nat.le_refl _) _ | exact (((Below.refl _ _).drew).alloc (Nat.le_refl _) _).drew | exact ((Below.refl _ _).alloc (Nat.le_refl _) _).alloc (by simp) _ | exact (((Below.refl _ _).alloc (Nat.le_refl _) _).alloc (by simp) _).drew | exact (((Below.refl _ _).alloc (Nat.le_refl _) _).drew).alloc (by simp) _ | exact ((((Below.refl _ _).alloc (Nat.le_refl _) _).drew).alloc (by simp) _).drew | exact ((((Below.refl _ _).drew).alloc (Nat.le_refl _) _).drew).alloc (by simp) _ | exact (((((Below.refl _ _).drew).alloc (Nat.le_refl _) _).drew).alloc (by simp) _).drew | exact (((Below.refl _ _).drew).alloc (Nat.le_refl _) _).alloc (by simp) _); have hE : W.heap[w1.heap.size + 1]? = some (.cells #[] 9 (0, 0)) := (by rw [hW]; first | (refine new_at ?_; simp; done) | (refine old_at (new_at ?_); simp; done) | exact new_at rfl | exact old_at (new_at rfl)); have hS0 : W.heap[w1.heap.size]? = some (.cells #[.string s] 9 (0, 0)) := (by rw [hW]; first | (refine new_at ?_; simp; done) | (refine old_at (new_at ?_); simp; done) | exact new_at rfl | exact old_at (new_at rfl)); clear hW; refine step_app rfl _ _ 65 (by rfl) w1.heap.size 9 i0 (.string ⟨#[]⟩) 1 16 Tryz.underlying65 HI0.out.1 HI0.out.2.1 HI0.out.2.2.1 HI0.out.2.2.2 rfl (by decide) (.slice (some ⟨w1.heap.size + 1, 0, none⟩) 0 0) 0 [] (by rfl) (own_zero hE (by omega)) _ (k) (strF (l.take (k))) (by rfl) (.inr ⟨_, _, rfl, by rw [strF_length, List.length_take]; omega, take_cells (HRD.out.below hbW) _⟩) strF_one (by unfold maxLen; omega) (by omega) (by omega) ?_; intro v4 w4 hown4 hgrow4 hblk4; have hA4 : Below w1.heap.size w1 w4 := below_own hbW (by omega) (own_zero hE (by omega)) hgrow4; have hS4 : w4.heap[w1.heap.size]? = some (.cells #[.string s] 9 (0, 0)) := (hgrow4.block _ (isT_of hS0).lt (fun e => by injection e with e; simp at e)).trans hS0; have H4 := Lib.hid (And.intro hown4 (And.intro hA4 (And.intro hS4 hz))); clear hown4 hgrow4 hblk4 hA4 hS4 hS0 hE hbW hz)
              | (refine at_opW ?_; intro W hW; have hbW : Below w1.heap.size w1 W := (by rw [hW]; first | exact H4.out.2.1 | exact H4.out.2.1.drew | exact H4.out.2.1.alloc H4.out.2.1.size _ | exact (H4.out.2.1.alloc H4.out.2.1.size _).drew | exact (H4.out.2.1.drew).alloc H4.out.2.1.size _ | exact ((H4.out.2.1.drew).alloc H4.out.2.1.size _).drew); have hbs := hbW.size; have hoW : W.ownsRow w1.heap.size 9 1 v4 (0 + (k)) ([] ++ strF (l.take (k))) := (by rw [hW]; first | exact H4.out.1 | exact H4.out.1.alloc _); have hS : W.heap[w4.heap.size]? = some (.cells #[.string s] 9 (0, 0)) := (by rw [hW]; first | (refine new_at ?_; simp; done) | (refine old_at (new_at ?_); simp; done) | exact new_at rfl | exact old_at (new_at rfl)); clear hW; refine step_app rfl _ _ 65 (by rfl) w1.heap.size 9 i0 (.string ⟨#[]⟩) 1 16 Tryz.underlying65 HI0.out.1 HI0.out.2.1 HI0.out.2.2.1 HI0.out.2.2.2 rfl (by decide) v4 (0 + (k)) ([] ++ strF (l.take (k))) (by rfl) hoW (.slice (some ⟨w4.heap.size, 0, none⟩) 1 1) 1 [.string s] (by rfl) (.inr ⟨_, _, rfl, rfl, one_cell hS⟩) (by intro u hu; rw [List.mem_singleton.1 hu]; rfl) (by unfold maxLen; omega) (by omega) (by omega) ?_; intro v5 w5 hown5 hgrow5 hblk5; have hA5 : Below w1.heap.size w1 w5 := below_own hbW hbs hoW hgrow5; have H5 := Lib.hid (And.intro hown5 hA5); clear hown5 hgrow5 hblk5 hA5 hS hoW hbs hbW)
              | (refine at_opW ?_; intro W hW; have hbW : Below w1.heap.size w1 W := (by rw [hW]; first | exact H4.out.2.1 | exact H4.out.2.1.drew | exact H4.out.2.1.alloc H4.out.2.1.size _ | exact (H4.out.2.1.alloc H4.out.2.1.size _).drew | exact (H4.out.2.1.drew).alloc H4.out.2.1.size _ | exact ((H4.out.2.1.drew).alloc H4.out.2.1.size _).drew); have hbs := hbW.size; have hoW : W.ownsRow w1.heap.size 9 1 v4 (0 + (k)) ([] ++ strF (l.take (k))) := (by rw [hW]; first | exact H4.out.1 | exact H4.out.1.alloc _); have hS : W.heap[w1.heap.size + 1]? = some (.cells #[.string s] 9 (0, 0)) := (by rw [hW]; first | exact H4.out.2.2.1.resolve_left (by have := H4.out.2.2.2; omega)); clear hW; refine step_app rfl _ _ 65 (by rfl) w1.heap.size 9 i0 (.string ⟨#[]⟩) 1 16 Tryz.underlying65 HI0.out.1 HI0.out.2.1 HI0.out.2.2.1 HI0.out.2.2.2 rfl (by decide) v4 (0 + (k)) ([] ++ strF (l.take (k))) (by rfl) hoW (.slice (some ⟨w1.heap.size + 1, 0, none⟩) 1 1) 1 [.string s] (by rfl) (.inr ⟨_, _, rfl, rfl, one_cell hS⟩) (by intro u hu; rw [List.mem_singleton.1 hu]; rfl) (by unfold maxLen; omega) (by omega) (by omega) ?_; intro v5 w5 hown5 hgrow5 hblk5; have hA5 : Below w1.heap.size w1 w5 := below_own hbW hbs hoW hgrow5; have H5 := Lib.hid (And.intro hown5 hA5); clear hown5 hgrow5 hblk5 hA5 hS hoW hbs hbW)
              | (refine at_opW ?_; intro W hW; have hbW : Below w1.heap.size w1 W := (by rw [hW]; first | exact H4.out.2.1 | exact H4.out.2.1.drew | exact H4.out.2.1.alloc H4.out.2.1.size _ | exact (H4.out.2.1.alloc H4.out.2.1.size _).drew | exact (H4.out.2.1.drew).alloc H4.out.2.1.size _ | exact ((H4.out.2.1.drew).alloc H4.out.2.1.size _).drew); have hbs := hbW.size; have hoW : W.ownsRow w1.heap.size 9 1 v4 (0 + (k)) ([] ++ strF (l.take (k))) := (by rw [hW]; first | exact H4.out.1 | exact H4.out.1.alloc _); have hS : W.heap[w1.heap.size]? = some (.cells #[.string s] 9 (0, 0)) := (by rw [hW]; first | exact H4.out.2.2.1); clear hW; refine step_app rfl _ _ 65 (by rfl) w1.heap.size 9 i0 (.string ⟨#[]⟩) 1 16 Tryz.underlying65 HI0.out.1 HI0.out.2.1 HI0.out.2.2.1 HI0.out.2.2.2 rfl (by decide) v4 (0 + (k)) ([] ++ strF (l.take (k))) (by rfl) hoW (.slice (some ⟨w1.heap.size, 0, none⟩) 1 1) 1 [.string s] (by rfl) (.inr ⟨_, _, rfl, rfl, one_cell hS⟩) (by intro u hu; rw [List.mem_singleton.1 hu]; rfl) (by unfold maxLen; omega) (by omega) (by omega) ?_; intro v5 w5 hown5 hgrow5 hblk5; have hA5 : Below w1.heap.size w1 w5 := below_own hbW hbs hoW hgrow5; have H5 := Lib.hid (And.intro hown5 hA5); clear hown5 hgrow5 hblk5 hA5 hS hoW hbs hbW)
              | (refine at_opW ?_; intro W hW; have hbW : Below w1.heap.size w1 W := (by rw [hW]; first | exact H5.out.2 | exact H5.out.2.drew); have hbs := hbW.size; have hoW : W.ownsRow w1.heap.size 9 1 v5 (0 + (k) + 1) ([] ++ strF (l.take (k)) ++ [.string s]) := (by rw [hW]; exact H5.out.1); clear hW; refine step_app rfl _ _ 65 (by rfl) w1.heap.size 9 i0 (.string ⟨#[]⟩) 1 16 Tryz.underlying65 HI0.out.1 HI0.out.2.1 HI0.out.2.2.1 HI0.out.2.2.2 rfl (by decide) v5 (0 + (k) + 1) ([] ++ strF (l.take (k)) ++ [.string s]) (by rfl) hoW _ (l.length - (k)) (strF (l.drop (k))) (by rfl) (.inr ⟨_, _, rfl, by rw [strF_length, List.length_drop]; omega, drop_cells (HRD.out.below hbW) _⟩) strF_one (by unfold maxLen; omega) (by omega) (by omega) ?_; intro v6 w6 hown6 hgrow6 hblk6; have hA6 : Below w1.heap.size w1 w6 := below_own hbW hbs hoW hgrow6; clear hgrow6 hblk6 hoW hbs hbW))
          all_goals
            have HF := Lib.hid (And.intro hown6 (HW.out.trans (hA6.mono HW.out.size)))
            clear hown6 hA6
            go_wp2_with fail
            go_ret
            first | exact with_post (v := v6) (w1 := w1) HF.out.1 HF.out.2 (by omega) HINS.out (by simp) | exact with_post (v := v6) (w1 := w1) (by simpa using HF.out.1) HF.out.2 (by omega) HINS.out (by simp)
    · obtain rfl : k = l.length := by omega
      have HINS : Hid (InsOk l (d s) l.length) := Lib.hid (ins_ok HL.out.1.so (Nat.le_refl _) HA.out.1 (fun z hz => by rw [List.drop_length] at hz; cases hz))
      cases a with
      | none =>
        obtain ⟨h0, hc0⟩ := HL.out.1.nil rfl
        subst h0
        subst hc0
        clear hb1 HA
        simp only [List.length_nil] at *
        go_upto_region 6 with fail
        go_region_held_law (fun _ => True) (trivial)
          (first
            | (refine at_opW ?_; intro W hW; have hz := congrArg (fun q : World => q.heap.size) hW; simp at hz; have hbW : Below w1.heap.size w1 W := (by rw [hW]; first | exact Below.refl _ _ | exact (Below.refl _ _).drew | exact (Below.refl _ _).drew.drew | exact (Below.refl _ _).alloc (Nat.le_refl _) _ | exact ((Below.refl _ _).alloc (Nat.le_refl _) _).drew | exact ((Below.refl _ _).drew).alloc (Nat.le_refl _) _ | exact (((Below.refl _ _).drew).alloc (Nat.le_refl _) _).drew | exact ((Below.refl _ _).alloc (Nat.le_refl _) _).alloc (by simp) _ | exact (((Below.refl _ _).alloc (Nat.le_refl _) _).alloc (by simp) _).drew | exact (((Below.refl _ _).alloc (Nat.le_refl _) _).drew).alloc (by simp) _ | exact ((((Below.refl _ _).alloc (Nat.le_refl _) _).drew).alloc (by simp) _).drew | exact ((((Below.refl _ _).drew).alloc (Nat.le_refl _) _).drew).alloc (by simp) _ | exact (((((Below.refl _ _).drew).alloc (Nat.le_refl _) _).drew).alloc (by simp) _).drew | exact (((Below.refl _ _).drew).alloc (Nat.le_refl _) _).alloc (by simp) _); have hE : W.heap[w1.heap.size]? = some (.cells #[] 9 (0, 0)) := (by rw [hW]; first | (refine new_at ?_; simp; done) | (refine old_at (new_at ?_); simp; done) | exact new_at rfl | exact old_at (new_at rfl)); have hS0 : W.heap.size = w1.heap.size + 1 ∨ W.heap[w1.heap.size + 1]? = some (.cells #[.string s] 9 (0, 0)) := (by rw [hW]; first | (refine .inl ?_; simp; done) | (refine .inr ?_; first | (refine new_at ?_; simp; done) | (refine old_at (new_at ?_); simp; done) | exact new_at rfl | exact old_at (new_at rfl))); clear hW; refine step_app rfl _ _ 65 (by rfl) w1.heap.size 9 i0 (.string ⟨#[]⟩) 1 16 Tryz.underlying65 HI0.out.1 HI0.out.2.1 HI0.out.2.2.1 HI0.out.2.2.2 rfl (by decide) (.slice (some ⟨w1.heap.size, 0, none⟩) 0 0) 0 [] (by rfl) (own_zero hE (by omega)) _ (0) (strF ([] : List B)) (by rfl) (.inl ⟨rfl, rfl, rfl⟩) strF_one (by unfold maxLen; omega) (by omega) (by omega) ?_; intro v4 w4 hown4 hgrow4 hblk4; have hA4 : Below w1.heap.size w1 w4 := below_own hbW (by omega) (own_zero hE (by omega)) hgrow4; have hS4 : W.heap.size = w1.heap.size + 1 ∨ w4.heap[w1.heap.size + 1]? = some (.cells #[.string s] 9 (0, 0)) := hS0.imp id (fun h => (hgrow4.block _ (isT_of h).lt (fun e => by injection e with e; simp at e)).trans h); have H4 := Lib.hid (And.intro hown4 (And.intro hA4 (And.intro hS4 hz))); clear hown4 hgrow4 hblk4 hA4 hS4 hS0 hE hbW hz)
            | (refine at_opW ?_; intro W hW; have hz := congrArg (fun q : World => q.heap.size) hW; simp at hz; have hbW : Below w1.heap.size w1 W := (by rw [hW]; first | exact Below.refl _ _ | exact (Below.refl _ _).drew | exact (Below.refl _ _).drew.drew | exact (Below.refl _ _).alloc (Nat.le_refl _) _ | exact ((Below.refl _ _).alloc (Nat.le_refl _) _).drew | exact ((Below.refl _ _).drew).alloc (Nat.le_refl _) _ | exact (((Below.refl _ _).drew).alloc (Nat.le_refl _) _).drew | exact ((Below.refl _ _).alloc (Nat.le_refl _) _).alloc (by simp) _ | exact (((Below.refl _ _).alloc (Nat.le_refl _) _).alloc (by simp) _).drew | exact (((Below.refl _ _).alloc (Nat.le_refl _) _).drew).alloc (by simp) _ | exact ((((Below.refl _ _).alloc (Nat.le_refl _) _).drew).alloc (by simp) _).drew | exact ((((Below.refl _ _).drew).alloc (Nat.le_refl _) _).drew).alloc (by simp) _ | exact (((((Below.refl _ _).drew).alloc (Nat.le_refl _) _).drew).alloc (by simp) _).drew | exact (((Below.refl _ _).drew).alloc (Nat.le_refl _) _).alloc (by simp) _); have hE : W.heap[w1.heap.size + 1]? = some (.cells #[] 9 (0, 0)) := (by rw [hW]; first | (refine new_at ?_; simp; done) | (refine old_at (new_at ?_); simp; done) | exact new_at rfl | exact old_at (new_at rfl)); have hS0 : W.heap[w1.heap.size]? = some (.cells #[.string s] 9 (0, 0)) := (by rw [hW]; first | (refine new_at ?_; simp; done) | (refine old_at (new_at ?_); simp; done) | exact new_at rfl | exact old_at (new_at rfl)); clear hW; refine step_app rfl _ _ 65 (by rfl) w1.heap.size 9 i0 (.string ⟨#[]⟩) 1 16 Tryz.underlying65 HI0.out.1 HI0.out.2.1 HI0.out.2.2.1 HI0.out.2.2.2 rfl (by decide) (.slice (some ⟨w1.heap.size + 1, 0, none⟩) 0 0) 0 [] (by rfl) (own_zero hE (by omega)) _ (0) (strF ([] : List B)) (by rfl) (.inl ⟨rfl, rfl, rfl⟩) strF_one (by unfold maxLen; omega) (by omega) (by omega) ?_; intro v4 w4 hown4 hgrow4 hblk4; have hA4 : Below w1.heap.size w1 w4 := below_own hbW (by omega) (own_zero hE (by omega)) hgrow4; have hS4 : w4.heap[w1.heap.size]? = some (.cells #[.string s] 9 (0, 0)) := (hgrow4.block _ (isT_of hS0).lt (fun e => by injection e with e; simp at e)).trans hS0; have H4 := Lib.hid (And.intro hown4 (And.intro hA4 (And.intro hS4 hz))); clear hown4 hgrow4 hblk4 hA4 hS4 hS0 hE hbW hz)
            | (refine at_opW ?_; intro W hW; have hbW : Below w1.heap.size w1 W := (by rw [hW]; first | exact H4.out.2.1 | exact H4.out.2.1.drew | exact H4.out.2.1.alloc H4.out.2.1.size _ | exact (H4.out.2.1.alloc H4.out.2.1.size _).drew | exact (H4.out.2.1.drew).alloc H4.out.2.1.size _ | exact ((H4.out.2.1.drew).alloc H4.out.2.1.size _).drew); have hbs := hbW.size; have hoW : W.ownsRow w1.heap.size 9 1 v4 (0 + (0)) ([] ++ strF ([] : List B)) := (by rw [hW]; first | exact H4.out.1 | exact H4.out.1.alloc _); have hS : W.heap[w4.heap.size]? = some (.cells #[.string s] 9 (0, 0)) := (by rw [hW]; first | (refine new_at ?_; simp; done) | (refine old_at (new_at ?_); simp; done) | exact new_at rfl | exact old_at (new_at rfl)); clear hW; refine step_app rfl _ _ 65 (by rfl) w1.heap.size 9 i0 (.string ⟨#[]⟩) 1 16 Tryz.underlying65 HI0.out.1 HI0.out.2.1 HI0.out.2.2.1 HI0.out.2.2.2 rfl (by decide) v4 (0 + (0)) ([] ++ strF ([] : List B)) (by rfl) hoW (.slice (some ⟨w4.heap.size, 0, none⟩) 1 1) 1 [.string s] (by rfl) (.inr ⟨_, _, rfl, rfl, one_cell hS⟩) (by intro u hu; rw [List.mem_singleton.1 hu]; rfl) (by unfold maxLen; omega) (by omega) (by omega) ?_; intro v5 w5 hown5 hgrow5 hblk5; have hA5 : Below w1.heap.size w1 w5 := below_own hbW hbs hoW hgrow5; have H5 := Lib.hid (And.intro hown5 hA5); clear hown5 hgrow5 hblk5 hA5 hS hoW hbs hbW)
            | (refine at_opW ?_; intro W hW; have hbW : Below w1.heap.size w1 W := (by rw [hW]; first | exact H4.out.2.1 | exact H4.out.2.1.drew | exact H4.out.2.1.alloc H4.out.2.1.size _ | exact (H4.out.2.1.alloc H4.out.2.1.size _).drew | exact (H4.out.2.1.drew).alloc H4.out.2.1.size _ | exact ((H4.out.2.1.drew).alloc H4.out.2.1.size _).drew); have hbs := hbW.size; have hoW : W.ownsRow w1.heap.size 9 1 v4 (0 + (0)) ([] ++ strF ([] : List B)) := (by rw [hW]; first | exact H4.out.1 | exact H4.out.1.alloc _); have hS : W.heap[w1.heap.size + 1]? = some (.cells #[.string s] 9 (0, 0)) := (by rw [hW]; first | exact H4.out.2.2.1.resolve_left (by have := H4.out.2.2.2; omega)); clear hW; refine step_app rfl _ _ 65 (by rfl) w1.heap.size 9 i0 (.string ⟨#[]⟩) 1 16 Tryz.underlying65 HI0.out.1 HI0.out.2.1 HI0.out.2.2.1 HI0.out.2.2.2 rfl (by decide) v4 (0 + (0)) ([] ++ strF ([] : List B)) (by rfl) hoW (.slice (some ⟨w1.heap.size + 1, 0, none⟩) 1 1) 1 [.string s] (by rfl) (.inr ⟨_, _, rfl, rfl, one_cell hS⟩) (by intro u hu; rw [List.mem_singleton.1 hu]; rfl) (by unfold maxLen; omega) (by omega) (by omega) ?_; intro v5 w5 hown5 hgrow5 hblk5; have hA5 : Below w1.heap.size w1 w5 := below_own hbW hbs hoW hgrow5; have H5 := Lib.hid (And.intro hown5 hA5); clear hown5 hgrow5 hblk5 hA5 hS hoW hbs hbW)
            | (refine at_opW ?_; intro W hW; have hbW : Below w1.heap.size w1 W := (by rw [hW]; first | exact H4.out.2.1 | exact H4.out.2.1.drew | exact H4.out.2.1.alloc H4.out.2.1.size _ | exact (H4.out.2.1.alloc H4.out.2.1.size _).drew | exact (H4.out.2.1.drew).alloc H4.out.2.1.size _ | exact ((H4.out.2.1.drew).alloc H4.out.2.1.size _).drew); have hbs := hbW.size; have hoW : W.ownsRow w1.heap.size 9 1 v4 (0 + (0)) ([] ++ strF ([] : List B)) := (by rw [hW]; first | exact H4.out.1 | exact H4.out.1.alloc _); have hS : W.heap[w1.heap.size]? = some (.cells #[.string s] 9 (0, 0)) := (by rw [hW]; first | exact H4.out.2.2.1); clear hW; refine step_app rfl _ _ 65 (by rfl) w1.heap.size 9 i0 (.string ⟨#[]⟩) 1 16 Tryz.underlying65 HI0.out.1 HI0.out.2.1 HI0.out.2.2.1 HI0.out.2.2.2 rfl (by decide) v4 (0 + (0)) ([] ++ strF ([] : List B)) (by rfl) hoW (.slice (some ⟨w1.heap.size, 0, none⟩) 1 1) 1 [.string s] (by rfl) (.inr ⟨_, _, rfl, rfl, one_cell hS⟩) (by intro u hu; rw [List.mem_singleton.1 hu]; rfl) (by unfold maxLen; omega) (by omega) (by omega) ?_; intro v5 w5 hown5 hgrow5 hblk5; have hA5 : Below w1.heap.size w1 w5 := below_own hbW hbs hoW hgrow5; have H5 := Lib.hid (And.intro hown5 hA5); clear hown5 hgrow5 hblk5 hA5 hS hoW hbs hbW)
            | (refine at_opW ?_; intro W hW; have hbW : Below w1.heap.size w1 W := (by rw [hW]; first | exact H5.out.2 | exact H5.out.2.drew); have hbs := hbW.size; have hoW : W.ownsRow w1.heap.size 9 1 v5 (0 + (0) + 1) ([] ++ strF ([] : List B) ++ [.string s]) := (by rw [hW]; exact H5.out.1); clear hW; refine step_app rfl _ _ 65 (by rfl) w1.heap.size 9 i0 (.string ⟨#[]⟩) 1 16 Tryz.underlying65 HI0.out.1 HI0.out.2.1 HI0.out.2.2.1 HI0.out.2.2.2 rfl (by decide) v5 (0 + (0) + 1) ([] ++ strF ([] : List B) ++ [.string s]) (by rfl) hoW _ 0 (strF ([] : List B)) (by rfl) (.inl ⟨rfl, rfl, rfl⟩) strF_one (by unfold maxLen; omega) (by omega) (by omega) ?_; intro v6 w6 hown6 hgrow6 hblk6; have hA6 : Below w1.heap.size w1 w6 := below_own hbW hbs hoW hgrow6; clear hgrow6 hblk6 hoW hbs hbW))
        all_goals
          have HF := Lib.hid (And.intro hown6 (HW.out.trans (hA6.mono HW.out.size)))
          clear hown6 hA6
          go_wp2_with fail
          go_ret
          first | exact with_post (l := []) (k := 0) (v := v6) (w1 := w1) HF.out.1 HF.out.2 (by omega) HINS.out (by simp) | exact with_post (l := []) (k := 0) (v := v6) (w1 := w1) (by simpa using HF.out.1) HF.out.2 (by omega) HINS.out (by simp)
      | some ad =>
        obtain ⟨b, rfl⟩ := HL.out.1.fm ad rfl
        have HRD : Hid (RdF w1 (some ⟨b, 0, none⟩) (strF l)) := Lib.hid (HL.out.1.below hb1).rd
        clear hb1 HA
        by_cases hkc : c = l.length
        · subst hkc
          go_upto_region 6 with fail
          go_region_held_law (fun _ => True) (trivial)
            (first
              | (refine at_opW ?_; intro W hW; have hz := congrArg (fun q : World => q.heap.size) hW; simp at hz; have hbW : Below w1.heap.size w1 W := (by rw [hW]; first | exact Below.refl _ _ | exact (Below.refl _ _).drew | exact (Below.refl _ _).drew.drew | exact (Below.refl _ _).alloc (Nat.le_refl _) _ | exact ((Below.refl _ _).alloc (Nat.le_refl _) _).drew | exact ((Below.refl _ _).drew).alloc (Nat.le_refl _) _ | exact (((Below.refl _ _).drew).alloc (Nat.le_refl _) _).drew | exact ((Below.refl _ _).alloc (Nat.le_refl _) _).alloc (by simp) _ | exact (((Below.refl _ _).alloc (Nat.le_refl _) _).alloc (by simp) _).drew | exact (((Below.refl _ _).alloc (Nat.le_refl _) _).drew).alloc (by simp) _ | exact ((((Below.refl _ _).alloc (Nat.le_refl _) _).drew).alloc (by simp) _).drew | exact ((((Below.refl _ _).drew).alloc (Nat.le_refl _) _).drew).alloc (by simp) _ | exact (((((Below.refl _ _).drew).alloc (Nat.le_refl _) _).drew).alloc (by simp) _).drew | exact (((Below.refl _ _).drew).alloc (Nat.le_refl _) _).alloc (by simp) _); have hE : W.heap[w1.heap.size]? = some (.cells #[] 9 (0, 0)) := (by rw [hW]; first | (refine new_at ?_; simp; done) | (refine old_at (new_at ?_); simp; done) | exact new_at rfl | exact old_at (new_at rfl)); have hS0 : W.heap.size = w1.heap.size + 1 ∨ W.heap[w1.heap.size + 1]? = some (.cells #[.string s] 9 (0, 0)) := (by rw [hW]; first | (refine .inl ?_; simp; done) | (refine .inr ?_; first | (refine new_at ?_; simp; done) | (refine old_at (new_at ?_); simp; done) | exact new_at rfl | exact old_at (new_at rfl))); clear hW; refine step_app rfl _ _ 65 (by rfl) w1.heap.size 9 i0 (.string ⟨#[]⟩) 1 16 Tryz.underlying65 HI0.out.1 HI0.out.2.1 HI0.out.2.2.1 HI0.out.2.2.2 rfl (by decide) (.slice (some ⟨w1.heap.size, 0, none⟩) 0 0) 0 [] (by rfl) (own_zero hE (by omega)) _ (l.length) (strF (l.take (l.length))) (by rfl) (.inr ⟨_, _, rfl, by rw [strF_length, List.length_take]; omega, take_cells (HRD.out.below hbW) _⟩) strF_one (by unfold maxLen; omega) (by omega) (by omega) ?_; intro v4 w4 hown4 hgrow4 hblk4; have hA4 : Below w1.heap.size w1 w4 := below_own hbW (by omega) (own_zero hE (by omega)) hgrow4; have hS4 : W.heap.size = w1.heap.size + 1 ∨ w4.heap[w1.heap.size + 1]? = some (.cells #[.string s] 9 (0, 0)) := hS0.imp id (fun h => (hgrow4.block _ (isT_of h).lt (fun e => by injection e with e; simp at e)).trans h); have H4 := Lib.hid (And.intro hown4 (And.intro hA4 (And.intro hS4 hz))); clear hown4 hgrow4 hblk4 hA4 hS4 hS0 hE hbW hz)
              | (refine at_opW ?_; intro W hW; have hz := congrArg (fun q : World => q.heap.size) hW; simp at hz; have hbW : Below w1.heap.size w1 W := (by rw [hW]; first | exact Below.refl _ _ | exact (Below.refl _ _).drew | exact (Below.refl _ _).drew.drew | exact (Below.refl _ _).alloc (Nat.le_refl _) _ | exact ((Below.refl _ _).alloc (Nat.le_refl _) _).drew | exact ((Below.refl _ _).drew).alloc (Nat.le_refl _) _ | exact (((Below.refl _ _).drew).alloc (Nat.le_refl _) _).drew | exact ((Below.refl _ _).alloc (Nat.le_refl _) _).alloc (by simp) _ | exact (((Below.refl _ _).alloc (Nat.le_refl _) _).alloc (by simp) _).drew | exact (((Below.refl _ _).alloc (Nat.le_refl _) _).drew).alloc (by simp) _ | exact ((((Below.refl _ _).alloc (Nat.le_refl _) _).drew).alloc (by simp) _).drew | exact ((((Below.refl _ _).drew).alloc (Nat.le_refl _) _).drew).alloc (by simp) _ | exact (((((Below.refl _ _).drew).alloc (Nat.le_refl _) _).drew).alloc (by simp) _).drew | exact (((Below.refl _ _).drew).alloc (Nat.le_refl _) _).alloc (by simp) _); have hE : W.heap[w1.heap.size + 1]? = some (.cells #[] 9 (0, 0)) := (by rw [hW]; first | (refine new_at ?_; simp; done) | (refine old_at (new_at ?_); simp; done) | exact new_at rfl | exact old_at (new_at rfl)); have hS0 : W.heap[w1.heap.size]? = some (.cells #[.string s] 9 (0, 0)) := (by rw [hW]; first | (refine new_at ?_; simp; done) | (refine old_at (new_at ?_); simp; done) | exact new_at rfl | exact old_at (new_at rfl)); clear hW; refine step_app rfl _ _ 65 (by rfl) w1.heap.size 9 i0 (.string ⟨#[]⟩) 1 16 Tryz.underlying65 HI0.out.1 HI0.out.2.1 HI0.out.2.2.1 HI0.out.2.2.2 rfl (by decide) (.slice (some ⟨w1.heap.size + 1, 0, none⟩) 0 0) 0 [] (by rfl) (own_zero hE (by omega)) _ (l.length) (strF (l.take (l.length))) (by rfl) (.inr ⟨_, _, rfl, by rw [strF_length, List.length_take]; omega, take_cells (HRD.out.below hbW) _⟩) strF_one (by unfold maxLen; omega) (by omega) (by omega) ?_; intro v4 w4 hown4 hgrow4 hblk4; have hA4 : Below w1.heap.size w1 w4 := below_own hbW (by omega) (own_zero hE (by omega)) hgrow4; have hS4 : w4.heap[w1.heap.size]? = some (.cells #[.string s] 9 (0, 0)) := (hgrow4.block _ (isT_of hS0).lt (fun e => by injection e with e; simp at e)).trans hS0; have H4 := Lib.hid (And.intro hown4 (And.intro hA4 (And.intro hS4 hz))); clear hown4 hgrow4 hblk4 hA4 hS4 hS0 hE hbW hz)
              | (refine at_opW ?_; intro W hW; have hbW : Below w1.heap.size w1 W := (by rw [hW]; first | exact H4.out.2.1 | exact H4.out.2.1.drew | exact H4.out.2.1.alloc H4.out.2.1.size _ | exact (H4.out.2.1.alloc H4.out.2.1.size _).drew | exact (H4.out.2.1.drew).alloc H4.out.2.1.size _ | exact ((H4.out.2.1.drew).alloc H4.out.2.1.size _).drew); have hbs := hbW.size; have hoW : W.ownsRow w1.heap.size 9 1 v4 (0 + (l.length)) ([] ++ strF (l.take (l.length))) := (by rw [hW]; first | exact H4.out.1 | exact H4.out.1.alloc _); have hS : W.heap[w4.heap.size]? = some (.cells #[.string s] 9 (0, 0)) := (by rw [hW]; first | (refine new_at ?_; simp; done) | (refine old_at (new_at ?_); simp; done) | exact new_at rfl | exact old_at (new_at rfl)); clear hW; refine step_app rfl _ _ 65 (by rfl) w1.heap.size 9 i0 (.string ⟨#[]⟩) 1 16 Tryz.underlying65 HI0.out.1 HI0.out.2.1 HI0.out.2.2.1 HI0.out.2.2.2 rfl (by decide) v4 (0 + (l.length)) ([] ++ strF (l.take (l.length))) (by rfl) hoW (.slice (some ⟨w4.heap.size, 0, none⟩) 1 1) 1 [.string s] (by rfl) (.inr ⟨_, _, rfl, rfl, one_cell hS⟩) (by intro u hu; rw [List.mem_singleton.1 hu]; rfl) (by unfold maxLen; omega) (by omega) (by omega) ?_; intro v5 w5 hown5 hgrow5 hblk5; have hA5 : Below w1.heap.size w1 w5 := below_own hbW hbs hoW hgrow5; have H5 := Lib.hid (And.intro hown5 hA5); clear hown5 hgrow5 hblk5 hA5 hS hoW hbs hbW)
              | (refine at_opW ?_; intro W hW; have hbW : Below w1.heap.size w1 W := (by rw [hW]; first | exact H4.out.2.1 | exact H4.out.2.1.drew | exact H4.out.2.1.alloc H4.out.2.1.size _ | exact (H4.out.2.1.alloc H4.out.2.1.size _).drew | exact (H4.out.2.1.drew).alloc H4.out.2.1.size _ | exact ((H4.out.2.1.drew).alloc H4.out.2.1.size _).drew); have hbs := hbW.size; have hoW : W.ownsRow w1.heap.size 9 1 v4 (0 + (l.length)) ([] ++ strF (l.take (l.length))) := (by rw [hW]; first | exact H4.out.1 | exact H4.out.1.alloc _); have hS : W.heap[w1.heap.size + 1]? = some (.cells #[.string s] 9 (0, 0)) := (by rw [hW]; first | exact H4.out.2.2.1.resolve_left (by have := H4.out.2.2.2; omega)); clear hW; refine step_app rfl _ _ 65 (by rfl) w1.heap.size 9 i0 (.string ⟨#[]⟩) 1 16 Tryz.underlying65 HI0.out.1 HI0.out.2.1 HI0.out.2.2.1 HI0.out.2.2.2 rfl (by decide) v4 (0 + (l.length)) ([] ++ strF (l.take (l.length))) (by rfl) hoW (.slice (some ⟨w1.heap.size + 1, 0, none⟩) 1 1) 1 [.string s] (by rfl) (.inr ⟨_, _, rfl, rfl, one_cell hS⟩) (by intro u hu; rw [List.mem_singleton.1 hu]; rfl) (by unfold maxLen; omega) (by omega) (by omega) ?_; intro v5 w5 hown5 hgrow5 hblk5; have hA5 : Below w1.heap.size w1 w5 := below_own hbW hbs hoW hgrow5; have H5 := Lib.hid (And.intro hown5 hA5); clear hown5 hgrow5 hblk5 hA5 hS hoW hbs hbW)
              | (refine at_opW ?_; intro W hW; have hbW : Below w1.heap.size w1 W := (by rw [hW]; first | exact H4.out.2.1 | exact H4.out.2.1.drew | exact H4.out.2.1.alloc H4.out.2.1.size _ | exact (H4.out.2.1.alloc H4.out.2.1.size _).drew | exact (H4.out.2.1.drew).alloc H4.out.2.1.size _ | exact ((H4.out.2.1.drew).alloc H4.out.2.1.size _).drew); have hbs := hbW.size; have hoW : W.ownsRow w1.heap.size 9 1 v4 (0 + (l.length)) ([] ++ strF (l.take (l.length))) := (by rw [hW]; first | exact H4.out.1 | exact H4.out.1.alloc _); have hS : W.heap[w1.heap.size]? = some (.cells #[.string s] 9 (0, 0)) := (by rw [hW]; first | exact H4.out.2.2.1); clear hW; refine step_app rfl _ _ 65 (by rfl) w1.heap.size 9 i0 (.string ⟨#[]⟩) 1 16 Tryz.underlying65 HI0.out.1 HI0.out.2.1 HI0.out.2.2.1 HI0.out.2.2.2 rfl (by decide) v4 (0 + (l.length)) ([] ++ strF (l.take (l.length))) (by rfl) hoW (.slice (some ⟨w1.heap.size, 0, none⟩) 1 1) 1 [.string s] (by rfl) (.inr ⟨_, _, rfl, rfl, one_cell hS⟩) (by intro u hu; rw [List.mem_singleton.1 hu]; rfl) (by unfold maxLen; omega) (by omega) (by omega) ?_; intro v5 w5 hown5 hgrow5 hblk5; have hA5 : Below w1.heap.size w1 w5 := below_own hbW hbs hoW hgrow5; have H5 := Lib.hid (And.intro hown5 hA5); clear hown5 hgrow5 hblk5 hA5 hS hoW hbs hbW)
              | (refine at_opW ?_; intro W hW; have hbW : Below w1.heap.size w1 W := (by rw [hW]; first | exact H5.out.2 | exact H5.out.2.drew); have hbs := hbW.size; have hoW : W.ownsRow w1.heap.size 9 1 v5 (0 + (l.length) + 1) ([] ++ strF (l.take (l.length)) ++ [.string s]) := (by rw [hW]; exact H5.out.1); clear hW; refine step_app rfl _ _ 65 (by rfl) w1.heap.size 9 i0 (.string ⟨#[]⟩) 1 16 Tryz.underlying65 HI0.out.1 HI0.out.2.1 HI0.out.2.2.1 HI0.out.2.2.2 rfl (by decide) v5 (0 + (l.length) + 1) ([] ++ strF (l.take (l.length)) ++ [.string s]) (by rfl) hoW _ _ (strF (l.drop (l.length))) (by rfl) (.inr ⟨_, _, rfl, by simp [strF], fun j u hu => by simp [strF] at hu⟩) strF_one (by unfold maxLen; omega) (by omega) (by omega) ?_; intro v6 w6 hown6 hgrow6 hblk6; have hA6 : Below w1.heap.size w1 w6 := below_own hbW hbs hoW hgrow6; clear hgrow6 hblk6 hoW hbs hbW))
          all_goals
            have HF := Lib.hid (And.intro hown6 (HW.out.trans (hA6.mono HW.out.size)))
            clear hown6 hA6
            go_wp2_with fail
            go_ret
            first | exact with_post (v := v6) (w1 := w1) HF.out.1 HF.out.2 (by omega) HINS.out (by simp) | exact with_post (v := v6) (w1 := w1) (by simpa using HF.out.1) HF.out.2 (by omega) HINS.out (by simp)
        · have hkc2 : ¬ (l.length = c) := fun e => hkc e.symm
          go_upto_region 6 with fail
          go_region_held_law (fun _ => True) (trivial)
            (first
              | (refine at_opW ?_; intro W hW; have hz := congrArg (fun q : World => q.heap.size) hW; simp at hz; have hbW : Below w1.heap.size w1 W := (by rw [hW]; first | exact Below.refl _ _ | exact (Below.refl _ _).drew | exact (Below.refl _ _).drew.drew | exact (Below.refl _ _).alloc (Nat.le_refl _) _ | exact ((Below.refl _ _).alloc (Nat.le_refl _) _).drew | exact ((Below.refl _ _).drew).alloc (Nat.le_refl _) _ | exact (((Below.refl _ _).drew).alloc (Nat.le_refl _) _).drew | exact ((Below.refl _ _).alloc (Nat.le_refl _) _).alloc (by simp) _ | exact (((Below.refl _ _).alloc (Nat.le_refl _) _).alloc (by simp) _).drew | exact (((Below.refl _ _).alloc (Nat.le_refl _) _).drew).alloc (by simp) _ | exact ((((Below.refl _ _).alloc (Nat.le_refl _) _).drew).alloc (by simp) _).drew | exact ((((Below.refl _ _).drew).alloc (Nat.le_refl _) _).drew).alloc (by simp) _ | exact (((((Below.refl _ _).drew).alloc (Nat.le_refl _) _).drew).alloc (by simp) _).drew | exact (((Below.refl _ _).drew).alloc (Nat.le_refl _) _).alloc (by simp) _); have hE : W.heap[w1.heap.size]? = some (.cells #[] 9 (0, 0)) := (by rw [hW]; first | (refine new_at ?_; simp; done) | (refine old_at (new_at ?_); simp; done) | exact new_at rfl | exact old_at (new_at rfl)); have hS0 : W.heap.size = w1.heap.size + 1 ∨ W.heap[w1.heap.size + 1]? = some (.cells #[.string s] 9 (0, 0)) := (by rw [hW]; first | (refine .inl ?_; simp; done) | (refine .inr ?_; first | (refine new_at ?_; simp; done) | (refine old_at (new_at ?_); simp; done) | exact new_at rfl | exact old_at (new_at rfl))); clear hW; refine step_app rfl _ _ 65 (by rfl) w1.heap.size 9 i0 (.string ⟨#[]⟩) 1 16 Tryz.underlying65 HI0.out.1 HI0.out.2.1 HI0.out.2.2.1 HI0.out.2.2.2 rfl (by decide) (.slice (some ⟨w1.heap.size, 0, none⟩) 0 0) 0 [] (by rfl) (own_zero hE (by omega)) _ (l.length) (strF (l.take (l.length))) (by rfl) (.inr ⟨_, _, rfl, by rw [strF_length, List.length_take]; omega, take_cells (HRD.out.below hbW) _⟩) strF_one (by unfold maxLen; omega) (by omega) (by omega) ?_; intro v4 w4 hown4 hgrow4 hblk4; have hA4 : Below w1.heap.size w1 w4 := below_own hbW (by omega) (own_zero hE (by omega)) hgrow4; have hS4 : W.heap.size = w1.heap.size + 1 ∨ w4.heap[w1.heap.size + 1]? = some (.cells #[.string s] 9 (0, 0)) := hS0.imp id (fun h => (hgrow4.block _ (isT_of h).lt (fun e => by injection e with e; simp at e)).trans h); have H4 := Lib.hid (And.intro hown4 (And.intro hA4 (And.intro hS4 hz))); clear hown4 hgrow4 hblk4 hA4 hS4 hS0 hE hbW hz)
              | (refine at_opW ?_; intro W hW; have hz := congrArg (fun q : World => q.heap.size) hW; simp at hz; have hbW : Below w1.heap.size w1 W := (by rw [hW]; first | exact Below.refl _ _ | exact (Below.refl _ _).drew | exact (Below.refl _ _).drew.drew | exact (Below.refl _ _).alloc (Nat.le_refl _) _ | exact ((Below.refl _ _).alloc (Nat.le_refl _) _).drew | exact ((Below.refl _ _).drew).alloc (Nat.le_refl _) _ | exact (((Below.refl _ _).drew).alloc (Nat.le_refl _) _).drew | exact ((Below.refl _ _).alloc (Nat.le_refl _) _).alloc (by simp) _ | exact (((Below.refl _ _).alloc (Nat.le_refl _) _).alloc (by simp) _).drew | exact (((Below.refl _ _).alloc (Nat.le_refl _) _).drew).alloc (by simp) _ | exact ((((Below.refl _ _).alloc (Nat.le_refl _) _).drew).alloc (by simp) _).drew | exact ((((Below.refl _ _).drew).alloc (Nat.le_refl _) _).drew).alloc (by simp) _ | exact (((((Below.refl _ _).drew).alloc (Nat.le_refl _) _).drew).alloc (by simp) _).drew | exact (((Below.refl _ _).drew).alloc (Nat.le_refl _) _).alloc (by simp) _); have hE : W.heap[w1.heap.size + 1]? = some (.cells #[] 9 (0, 0)) := (by rw [hW]; first | (refine new_at ?_; simp; done) | (refine old_at (new_at ?_); simp; done) | exact new_at rfl | exact old_at (new_at rfl)); have hS0 : W.heap[w1.heap.size]? = some (.cells #[.string s] 9 (0, 0)) := (by rw [hW]; first | (refine new_at ?_; simp; done) | (refine old_at (new_at ?_); simp; done) | exact new_at rfl | exact old_at (new_at rfl)); clear hW; refine step_app rfl _ _ 65 (by rfl) w1.heap.size 9 i0 (.string ⟨#[]⟩) 1 16 Tryz.underlying65 HI0.out.1 HI0.out.2.1 HI0.out.2.2.1 HI0.out.2.2.2 rfl (by decide) (.slice (some ⟨w1.heap.size + 1, 0, none⟩) 0 0) 0 [] (by rfl) (own_zero hE (by omega)) _ (l.length) (strF (l.take (l.length))) (by rfl) (.inr ⟨_, _, rfl, by rw [strF_length, List.length_take]; omega, take_cells (HRD.out.below hbW) _⟩) strF_one (by unfold maxLen; omega) (by omega) (by omega) ?_; intro v4 w4 hown4 hgrow4 hblk4; have hA4 : Below w1.heap.size w1 w4 := below_own hbW (by omega) (own_zero hE (by omega)) hgrow4; have hS4 : w4.heap[w1.heap.size]? = some (.cells #[.string s] 9 (0, 0)) := (hgrow4.block _ (isT_of hS0).lt (fun e => by injection e with e; simp at e)).trans hS0; have H4 := Lib.hid (And.intro hown4 (And.intro hA4 (And.intro hS4 hz))); clear hown4 hgrow4 hblk4 hA4 hS4 hS0 hE hbW hz)
              | (refine at_opW ?_; intro W hW; have hbW : Below w1.heap.size w1 W := (by rw [hW]; first | exact H4.out.2.1 | exact H4.out.2.1.drew | exact H4.out.2.1.alloc H4.out.2.1.size _ | exact (H4.out.2.1.alloc H4.out.2.1.size _).drew | exact (H4.out.2.1.drew).alloc H4.out.2.1.size _ | exact ((H4.out.2.1.drew).alloc H4.out.2.1.size _).drew); have hbs := hbW.size; have hoW : W.ownsRow w1.heap.size 9 1 v4 (0 + (l.length)) ([] ++ strF (l.take (l.length))) := (by rw [hW]; first | exact H4.out.1 | exact H4.out.1.alloc _); have hS : W.heap[w4.heap.size]? = some (.cells #[.string s] 9 (0, 0)) := (by rw [hW]; first | (refine new_at ?_; simp; done) | (refine old_at (new_at ?_); simp; done) | exact new_at rfl | exact old_at (new_at rfl)); clear hW; refine step_app rfl _ _ 65 (by rfl) w1.heap.size 9 i0 (.string ⟨#[]⟩) 1 16 Tryz.underlying65 HI0.out.1 HI0.out.2.1 HI0.out.2.2.1 HI0.out.2.2.2 rfl (by decide) v4 (0 + (l.length)) ([] ++ strF (l.take (l.length))) (by rfl) hoW (.slice (some ⟨w4.heap.size, 0, none⟩) 1 1) 1 [.string s] (by rfl) (.inr ⟨_, _, rfl, rfl, one_cell hS⟩) (by intro u hu; rw [List.mem_singleton.1 hu]; rfl) (by unfold maxLen; omega) (by omega) (by omega) ?_; intro v5 w5 hown5 hgrow5 hblk5; have hA5 : Below w1.heap.size w1 w5 := below_own hbW hbs hoW hgrow5; have H5 := Lib.hid (And.intro hown5 hA5); clear hown5 hgrow5 hblk5 hA5 hS hoW hbs hbW)
              | (refine at_opW ?_; intro W hW; have hbW : Below w1.heap.size w1 W := (by rw [hW]; first | exact H4.out.2.1 | exact H4.out.2.1.drew | exact H4.out.2.1.alloc H4.out.2.1.size _ | exact (H4.out.2.1.alloc H4.out.2.1.size _).drew | exact (H4.out.2.1.drew).alloc H4.out.2.1.size _ | exact ((H4.out.2.1.drew).alloc H4.out.2.1.size _).drew); have hbs := hbW.size; have hoW : W.ownsRow w1.heap.size 9 1 v4 (0 + (l.length)) ([] ++ strF (l.take (l.length))) := (by rw [hW]; first | exact H4.out.1 | exact H4.out.1.alloc _); have hS : W.heap[w1.heap.size + 1]? = some (.cells #[.string s] 9 (0, 0)) := (by rw [hW]; first | exact H4.out.2.2.1.resolve_left (by have := H4.out.2.2.2; omega)); clear hW; refine step_app rfl _ _ 65 (by rfl) w1.heap.size 9 i0 (.string ⟨#[]⟩) 1 16 Tryz.underlying65 HI0.out.1 HI0.out.2.1 HI0.out.2.2.1 HI0.out.2.2.2 rfl (by decide) v4 (0 + (l.length)) ([] ++ strF (l.take (l.length))) (by rfl) hoW (.slice (some ⟨w1.heap.size + 1, 0, none⟩) 1 1) 1 [.string s] (by rfl) (.inr ⟨_, _, rfl, rfl, one_cell hS⟩) (by intro u hu; rw [List.mem_singleton.1 hu]; rfl) (by unfold maxLen; omega) (by omega) (by omega) ?_; intro v5 w5 hown5 hgrow5 hblk5; have hA5 : Below w1.heap.size w1 w5 := below_own hbW hbs hoW hgrow5; have H5 := Lib.hid (And.intro hown5 hA5); clear hown5 hgrow5 hblk5 hA5 hS hoW hbs hbW)
              | (refine at_opW ?_; intro W hW; have hbW : Below w1.heap.size w1 W := (by rw [hW]; first | exact H4.out.2.1 | exact H4.out.2.1.drew | exact H4.out.2.1.alloc H4.out.2.1.size _ | exact (H4.out.2.1.alloc H4.out.2.1.size _).drew | exact (H4.out.2.1.drew).alloc H4.out.2.1.size _ | exact ((H4.out.2.1.drew).alloc H4.out.2.1.size _).drew); have hbs := hbW.size; have hoW : W.ownsRow w1.heap.size 9 1 v4 (0 + (l.length)) ([] ++ strF (l.take (l.length))) := (by rw [hW]; first | exact H4.out.1 | exact H4.out.1.alloc _); have hS : W.heap[w1.heap.size]? = some (.cells #[.string s] 9 (0, 0)) := (by rw [hW]; first | exact H4.out.2.2.1); clear hW; refine step_app rfl _ _ 65 (by rfl) w1.heap.size 9 i0 (.string ⟨#[]⟩) 1 16 Tryz.underlying65 HI0.out.1 HI0.out.2.1 HI0.out.2.2.1 HI0.out.2.2.2 rfl (by decide) v4 (0 + (l.length)) ([] ++ strF (l.take (l.length))) (by rfl) hoW (.slice (some ⟨w1.heap.size, 0, none⟩) 1 1) 1 [.string s] (by rfl) (.inr ⟨_, _, rfl, rfl, one_cell hS⟩) (by intro u hu; rw [List.mem_singleton.1 hu]; rfl) (by unfold maxLen; omega) (by omega) (by omega) ?_; intro v5 w5 hown5 hgrow5 hblk5; have hA5 : Below w1.heap.size w1 w5 := below_own hbW hbs hoW hgrow5; have H5 := Lib.hid (And.intro hown5 hA5); clear hown5 hgrow5 hblk5 hA5 hS hoW hbs hbW)
              | (refine at_opW ?_; intro W hW; have hbW : Below w1.heap.size w1 W := (by rw [hW]; first | exact H5.out.2 | exact H5.out.2.drew); have hbs := hbW.size; have hoW : W.ownsRow w1.heap.size 9 1 v5 (0 + (l.length) + 1) ([] ++ strF (l.take (l.length)) ++ [.string s]) := (by rw [hW]; exact H5.out.1); clear hW; refine step_app rfl _ _ 65 (by rfl) w1.heap.size 9 i0 (.string ⟨#[]⟩) 1 16 Tryz.underlying65 HI0.out.1 HI0.out.2.1 HI0.out.2.2.1 HI0.out.2.2.2 rfl (by decide) v5 (0 + (l.length) + 1) ([] ++ strF (l.take (l.length)) ++ [.string s]) (by rfl) hoW _ _ (strF (l.drop (l.length))) (by rfl) (.inr ⟨_, _, rfl, by simp [strF], fun j u hu => by simp [strF] at hu⟩) strF_one (by unfold maxLen; omega) (by omega) (by omega) ?_; intro v6 w6 hown6 hgrow6 hblk6; have hA6 : Below w1.heap.size w1 w6 := below_own hbW hbs hoW hgrow6; clear hgrow6 hblk6 hoW hbs hbW))
          all_goals
            have HF := Lib.hid (And.intro hown6 (HW.out.trans (hA6.mono HW.out.size)))
            clear hown6 hA6
            go_wp2_with fail
            go_ret
            first | exact with_post (v := v6) (w1 := w1) HF.out.1 HF.out.2 (by omega) HINS.out (by simp) | exact with_post (v := v6) (w1 := w1) (by simpa using HF.out.1) HF.out.2 (by omega) HINS.out (by simp)
end Go.Proofs.YtdgfldeeflmnmaaGreatDoor.Sk
