/- Texts of the claim, put together: KqB. -/
import Derived.Test.YtdgfldeeflmnmaaGreatDoorSKpA
import Derived.Test.YtdgfldeeflmnmaaGreatDoorSKsE
import Derived.Test.YtdgfldeeflmnmaaGreatDoorSLaid
import Derived.Maps.RangeWalk
namespace Go.Proofs.YtdgfldeeflmnmaaGreatDoor.Sk
open Go Go.RowKit
def strF (l : List B) : List Value := l.map encStr
theorem strF_length (l : List B) : (strF l).length = l.length := List.length_map _
theorem strF_append (l m : List B) : strF (l ++ m) = strF l ++ strF m := List.map_append ..
theorem strF_one {l : List B} : ∀ u ∈ strF l, u.oneCell' = true := by
  intro u hu
  obtain ⟨x, _, rfl⟩ := List.mem_map.1 hu
  rfl
theorem row_put {w : World} {base g n cap : Nat} {T : TypeId} {xs : List Value} (h : w.ownsRow base T 1 (.slice (some ⟨g, 0, none⟩) n cap) n xs) (zs : List B) (hz : zs.length = n) (q m : Nat) (hm : m ≤ n) (os : Array Obj) :
    (Sort.grow (Sort.putRow encStr (Sort.ahead w q) g 0 zs.toArray) os).ownsRow base T 1 (.slice (some ⟨g, 0, none⟩) m cap) m (strF (zs.take m)) ∧ Fr (fun k => k = g) w (Sort.grow (Sort.putRow encStr (Sort.ahead w q) g 0 zs.toArray) os) := by
  rcases h.2 with ⟨e, _⟩ | ⟨g', cap', cur, e, hb, hg, h1, h2, h3, h4⟩
  · cases e
  · cases e
    have hlt := (Array.getElem?_eq_some_iff.1 hg).1
    have hp : (Sort.putRow encStr (Sort.ahead w q) g 0 zs.toArray).heap[g]? = some (.cells (Sort.putCells encStr 0 zs.toArray cur) T (0, 0)) := by
      simp only [Sort.putRow, Sort.mapBlock, Sort.ahead, Array.getElem?_modify, hg]
      rfl
    have hsz : (Sort.putRow encStr (Sort.ahead w q) g 0 zs.toArray).heap.size = w.heap.size := by simp [Sort.putRow, Sort.mapBlock, Sort.ahead]
    refine ⟨⟨by rw [strF_length, List.length_take]; omega, .inr ⟨g, cap, Sort.putCells encStr 0 zs.toArray cur, rfl, hb, ?_, by omega, h2, by simp [Sort.putCells, h3], ?_⟩⟩, ⟨rfl, rfl, rfl, by simp [Sort.grow, hsz], fun k hk hx => ?_⟩⟩
    · unfold Sort.grow
      rw [Array.getElem?_append_left (by rw [hsz]; exact hlt)]
      exact hp
    · apply List.ext_getElem?
      intro i
      rw [List.getElem?_take]
      by_cases hi : i < m
      · have hic : i < cur.size := by omega
        have hiz : i < zs.length := by omega
        rw [if_pos (by omega)]
        unfold strF
        rw [List.getElem?_map, List.getElem?_take, if_pos hi, List.getElem?_eq_getElem hiz]
        rw [Array.getElem?_toList]
        simp only [Sort.putCells, Array.getElem?_mapIdx, Array.getElem?_eq_getElem hic]
        simp [hiz]
      · rw [if_neg (by omega), List.getElem?_eq_none (by rw [strF_length, List.length_take]; omega)]
    · unfold Sort.grow
      rw [Array.getElem?_append_left (by rw [hsz]; exact hk)]
      simp only [Sort.putRow, Sort.mapBlock, Sort.ahead, Array.getElem?_modify]
      rw [if_neg (fun e => hx e.symm)]
theorem row_holds {w : World} {base g n cap : Nat} {T : TypeId} {l : List B} (h : w.ownsRow base T 1 (.slice (some ⟨g, 0, none⟩) n cap) n (strF l)) : l.length = n ∧ n ≤ cap ∧ cap ≤ maxLen ∧ g < w.heap.size ∧ Sort.Holds encStr w g 0 l.toArray := by
  rcases h.2 with ⟨e, _⟩ | ⟨g', cap', cur, e, hb, hg, h1, h2, h3, h4⟩
  · cases e
  · cases e
    have hn := h.1
    rw [strF_length] at hn
    refine ⟨by omega, h1, h2, (Array.getElem?_eq_some_iff.1 hg).1, fun j hj => ?_⟩
    have hjl : j < l.length := by simpa using hj
    have h5 : (strF l)[j]? = some (encStr l[j]) := by unfold strF; rw [List.getElem?_map, List.getElem?_eq_getElem hjl]; rfl
    rw [← h4, List.getElem?_take] at h5
    split at h5
    · refine ⟨?_, ?_⟩
      · simp only [World.cell?, hg, Nat.zero_add]
        rw [getElem!_pos l.toArray j hj]
        simpa using h5
      · simp [World.frozen?, hg]
    · cases h5
def SortPost (base cap : Nat) (T : TypeId) (a : Option Addr) (l : List B) (w : World) (e : Ending) (w' : World) : Prop :=
  e = .returned (.tuple #[]) ∧ w'.ownsRow base T 1 (.slice a l.length cap) l.length (strF (l.mergeSort leS)) ∧ Fr (fun k => (Value.slice a l.length cap).ownBlock = some k) w w'
theorem sortS_calls (base cap : Nat) (T : TypeId) (a : Option Addr) (l : List B) (w : World) (h : w.ownsRow base T 1 (.slice a l.length cap) l.length (strF l)) (hn : l.length ≤ 1000000000) :
    Calls Tryz.prog 126 #[.slice a l.length cap] w (SortPost base cap T a l w) := by
  by_cases h0 : l.length = 0
  · have hl : l = [] := List.eq_nil_of_length_eq_zero h0
    subst hl
    refine (Tryz.slices_Sort_string_none a cap w).mono ?_
    rintro e w' ⟨rfl, rfl⟩
    exact ⟨rfl, by simpa using h, Fr.refl _ _⟩
  · rcases h.2 with ⟨e, h1⟩ | ⟨g, cap', cur, e, _⟩
    · exact absurd h1 h0
    · cases e
      obtain ⟨_, h1, h2, h3, h4⟩ := row_holds h
      refine (Tryz.slices_Sort_string g 0 cap l w h4 h3 (by omega)).mono ?_
      rintro e w' ⟨rfl, n, os, rfl⟩
      have hr := row_put h (l.mergeSort leS) (sortS_len l) n l.length (Nat.le_refl _) os
      rw [List.take_of_length_le (by rw [sortS_len]; exact Nat.le_refl _)] at hr
      exact ⟨rfl, hr.1, hr.2.mono (fun k _ e => by rw [e]; rfl)⟩
def CompPost (base cap : Nat) (T : TypeId) (a : Option Addr) (l : List B) (w : World) (e : Ending) (w' : World) : Prop :=
  e = .returned (.slice a (Lib.compact l).length cap) ∧ w'.ownsRow base T 1 (.slice a (Lib.compact l).length cap) (Lib.compact l).length (strF (Lib.compact l)) ∧ Fr (fun k => (Value.slice a l.length cap).ownBlock = some k) w w'
theorem compS_calls (base cap : Nat) (T : TypeId) (a : Option Addr) (l : List B) (w : World) (h : w.ownsRow base T 1 (.slice a l.length cap) l.length (strF l)) (hn : l.length ≤ 1000000000) :
    Calls Tryz.prog 128 #[.slice a l.length cap] w (CompPost base cap T a l w) := by
  by_cases h0 : l.length = 0
  · have hl : l = [] := List.eq_nil_of_length_eq_zero h0
    subst hl
    refine (Tryz.slices_Compact_string_empty a cap w).mono ?_
    rintro e w' ⟨rfl, rfl⟩
    exact ⟨rfl, h, Fr.refl _ _⟩
  · rcases h.2 with ⟨e, h1⟩ | ⟨g, cap', cur, e, _⟩
    · exact absurd h1 h0
    · cases e
      obtain ⟨_, h1, h2, h3, h4⟩ := row_holds h
      refine (Tryz.slices_Compact_string g 0 cap l w h4 (by omega) h1).mono ?_
      rintro e w' ⟨rfl, q, rfl⟩
      have hc := compact_len l
      have hr := row_put h (Lib.compact l ++ List.replicate (l.length - (Lib.compact l).length) []) (by rw [List.length_append, List.length_replicate]; omega) q (Lib.compact l).length hc #[]
      rw [List.take_left, Sort.grow_empty] at hr
      exact ⟨rfl, hr.1, hr.2.mono (fun k _ e => by rw [e]; rfl)⟩
end Go.Proofs.YtdgfldeeflmnmaaGreatDoor.Sk
namespace Go.Proofs.YtdgfldeeflmnmaaGreatDoor.Sk
open Go Go.RowKit Go.ChangeShapes Go.WideShapes Go.ChangeMaps Go.MapKept
theorem infoSt : (Tryz.prog.info? 9).map (fun i => (i.zero, i.size, i.bytes)) = some (some (.string ⟨#[]⟩), 1, 16) := by kernel_rfl
def KeysPost (f : Line → Last) (w : World) (e : Ending) (w' : World) : Prop :=
  ∃ a c ks, e = .returned (.slice a (List.length ks) c) ∧ KeysAre f ks ∧ ks.length ≤ 131072 ∧ w'.ownsRow w.heap.size 9 1 (.slice a ks.length c) ks.length (strF ks) ∧ Below w.heap.size w w'
def KInv (b n : Nat) (f : Line → Last) (D : DataW Unit) (w : World) (out : Value) (wr : World) : Prop :=
  ∃ (left : Lit → Bool) (cnt : Nat) (ss : List B), wr.ranges Tryz.prog 96 lastOfV b w.heap.size n D left cnt ∧ ss.length + cnt ≤ Maps.size D ∧ wr.ownsRow (w.heap.size + 1) 9 1 out ss.length (strF ss) ∧ (∀ x, x ∈ ss ↔ ∃ b', fits (x, b') ∧ (f (x, b')).isSome = true ∧ left (kl (x, b')) = false) ∧ Below w.heap.size w wr
theorem mem_snoc_keys {f : Line → Last} {left : Lit → Bool} {ss : List B} {a b : B} (h : ∀ x, x ∈ ss ↔ ∃ b', fits (x, b') ∧ (f (x, b')).isSome = true ∧ left (kl (x, b')) = false) (hf : fits (a, b)) (hs : (f (a, b)).isSome = true) (left' : Lit → Bool)
    (h1 : left' (kl (a, b)) = false) (h2 : ∀ q, fits q → q ≠ (a, b) → left' (kl q) = left (kl q)) : ∀ x, x ∈ ss ++ [a] ↔ ∃ b', fits (x, b') ∧ (f (x, b')).isSome = true ∧ left' (kl (x, b')) = false := by
  intro x
  rw [List.mem_append, h x, List.mem_singleton]
  constructor
  · rintro (⟨b', e1, e2, e3⟩ | rfl)
    · by_cases e : (x, b') = (a, b)
      · exact ⟨b', e1, e2, by rw [e]; exact h1⟩
      · exact ⟨b', e1, e2, by rw [h2 _ e1 e]; exact e3⟩
    · exact ⟨b, hf, hs, h1⟩
  · rintro ⟨b', e1, e2, e3⟩
    by_cases e : (x, b') = (a, b)
    · exact .inr (by injection e)
    · exact .inl ⟨b', e1, e2, by rw [← h2 _ e1 e]; exact e3⟩
set_option maxRecDepth 100000 in
set_option maxHeartbeats 4000000 in
theorem keys_calls (w : World) {p base mb n : Nat} {v : Value} {l : List SI} (h : SinkAt w p base mb n v l) :
    Calls Tryz.prog 81 #[.pointer (some ⟨p, 0, none⟩)] w (KeysPost (lastOf (l.map SI.it)) w) := by
  have c1 : w.cell? ⟨p, 1, none⟩ = some (.map (some mb)) := by simp [World.cell?, h.cells]
  have hle := h.le
  have hlen := h.len
  obtain ⟨f, hf⟩ : ∃ f, f = lastOf (l.map SI.it) := ⟨_, rfl⟩
  obtain ⟨D, hown, ht⟩ := h.map
  rw [← hf] at ht ⊢
  have hsz := hown.size_le
  have hlt := hown.lt
  have HT : Hid (Tells D f) := Lib.hid ht
  clear ht hf h
  go_enter Tryz.func81, Tryz.ntmps81
  go_wp2_with fail
  go_at_call 39
  refine (none_cell _ (mb := mb) c1).mono ?_
  rintro e w1 ⟨rfl, rfl⟩
  go_wp2_with (at_range; refine wpList_range_own _ rfl _ 74 rfl 96 93 lineLaw Tryz.underlying74 _ mb n D rfl hown ?_; intro w0 hrg0 hg0 hs0)
  have hbl0 : Below w.heap.size w w0 := (fr_grown (X := fun _ => False) hg0 (fun k hk => by cases hk)).below (fun _ _ h => h) (Nat.le_refl _)
  go_frame
  go_loopw [3] (fun out wr => KInv mb n f D w out wr) (fun _ wr => wr.rangeLeft mb w.heap.size)
  case atStart =>
    refine ⟨_, _, [], hrg0, by simp, World.ownsRow_nil _ _ _ _, fun x => ⟨(fun h => by cases h), ?_⟩, hbl0⟩
    rintro ⟨b', h1, h2, h3⟩
    rw [(HT.out _ h1).1, h2] at h3
    cases h3
  case round =>
    obtain ⟨left, cnt, ss, hrg, hcs, hown, hmem, hb⟩ := hrel
    have hbs := hb.size
    have hssl : ss.length ≤ 131072 := by omega
    have HB := Lib.hid (And.intro hb (And.intro hown hmem))
    clear hb hown hmem hbl0
    go_wp2_with (at_next; refine wpList_next_ranges _ rfl _ rfl 96 lineLaw lastOfV (fun p : Ln => .agg #[.string p.a, .string p.b]) (fun c : Ls => .agg #[.int .i64 c.s, .bool c.m]) (fun key kl hk => by obtain ⟨a, b, rfl, _⟩ := keyOf_line_inv hk; exact ⟨⟨a, b⟩, rfl⟩) (fun v y hv => by obtain ⟨s, m, rfl, _⟩ := lastOfV_some hv; exact ⟨⟨s, m⟩, rfl⟩) mb w.heap.size n D left cnt rfl hrg ?_ ?_)
    · intro hc0 hl0
      obtain ⟨aS, cS, rfl⟩ := own_form HB.out.2.1
      have hmem2 : ∀ x, x ∈ ss ↔ ∃ b', fits (x, b') ∧ (f (x, b')).isSome = true := fun x => by
        rw [HB.out.2.2 x]
        constructor
        · rintro ⟨b', h1, h2, _⟩; exact ⟨b', h1, h2⟩
        · rintro ⟨b', h1, h2⟩; exact ⟨b', h1, h2, hl0 _⟩
      have HM := Lib.hid hmem2
      obtain ⟨w3, hw3⟩ : ∃ q, q = wr := ⟨_, rfl⟩
      subst hw3
      clear hmem2 hl0 hc0 hrg
      go_wp2_with fail
      go_at_call 126
      refine (sortS_calls (w.heap.size + 1) cS 9 aS ss w3 HB.out.2.1 (by omega)).mono ?_
      rintro e w4 ⟨rfl, hown4, hf4⟩
      have hb4 : Below w.heap.size w w4 := HB.out.1.trans (hf4.below (B := w.heap.size) (fun k hk e => by have := own_base HB.out.2.1 e; omega) hbs)
      have hsl := sortS_len ss
      have HO4 := Lib.hid (And.intro hown4 hb4)
      obtain ⟨ts, hts⟩ : ∃ ts, ts = ss.mergeSort leS := ⟨_, rfl⟩
      have HTS := Lib.hid hts
      rw [← hts] at hsl
      have hcall := compS_calls (w.heap.size + 1) cS 9 aS ts w4 (by rw [hts, sortS_len]; exact hown4) (by omega)
      rw [hsl] at hcall
      have HC := Lib.hid hcall
      clear hown4 hf4 hb4 hts hcall
      go_wp2_with fail
      go_at_call 128
      refine HC.out.mono ?_
      rintro e w5 ⟨rfl, hown5, hf5⟩
      have hb5 : Below w.heap.size w w5 := HO4.out.2.trans (hf5.below (B := w.heap.size) (fun k hk e => by have := own_base HB.out.2.1 (k := k) (by rw [← e, hsl]); omega) HO4.out.2.size)
      have hka : KeysAre f (Lib.compact ts) := by
        obtain ⟨h1, h2⟩ := compactS_ok ss
        rw [HTS.out]
        refine ⟨h1, fun k => ?_⟩
        rw [h2 k, HM.out k]
        rfl
      have H5 := Lib.hid (And.intro hka (And.intro (show (Lib.compact ts).length ≤ 131072 by have := compact_len ts; omega) (And.intro (own_weak hown5 (Nat.le_succ _)) hb5)))
      clear hka hown5 hb5 hf5
      go_wp2_with fail
      go_ret
      exact ⟨aS, cS, _, rfl, H5.out⟩
    · intro x c kl' yd yp w1 cnt1 hkey hlk hv hat hrg1 hlt1 hg1 hs1 hen
      obtain ⟨a, b⟩ := x
      obtain ⟨s, m⟩ := c
      dsimp only at hkey hv hen ⊢
      obtain ⟨a', b', hab, ha, hbb, rfl⟩ := keyOf_line_inv hkey
      injection hab with hab
      simp only [Array.mk.injEq, List.cons.injEq, Value.string.injEq, and_true] at hab
      obtain ⟨rfl, rfl⟩ := hab
      have hfit : fits (d a, d b) := ⟨by simpa using ha, by simpa using hbb⟩
      have hsome : (f (d a, d b)).isSome = true := by
        obtain ⟨t1, _⟩ := HT.out _ hfit
        rw [← t1]
        exact Go.Maps.has_true_of_atKey hat
      have hfr1 : Fr (fun k => k = w.heap.size) wr w1 := fr_grown hg1 (fun k e => by cases e; rfl)
      have hown1 : w1.ownsRow (w.heap.size + 1) 9 1 u3 ss.length (strF ss) := own_fr HB.out.2.1 hfr1 (fun k hk e => by have := own_base HB.out.2.1 hk; omega)
      have hb1 : Below w.heap.size w w1 := HB.out.1.trans (hfr1.below (B := w.heap.size) (fun k hk e => by omega) hbs)
      have hmem1 := mem_snoc_keys HB.out.2.2 hfit hsome (fun z => left z && !z.sameKey (kl (d a, d b))) (by simp [WideAt.sameKey_self (kl_key (d a, d b))]) (fun q hq hne => by
        have e1 := Go.Maps.sameKey_ne (fun e => hne (kl_inj hq hfit e))
        simp [e1])
      have H1 := Lib.hid (And.intro hown1 (And.intro hb1 hmem1))
      have hs1' : w.heap.size + 1 ≤ w1.heap.size := by
        have := hrg.lt
        omega
      have HRG := Lib.hid hrg1
      clear hkey hlk hv hat hfit hsome hfr1 hown1 hb1 hmem1 ha hbb hs1
      go_wp2_with (at_builtin; refine wpList_app rfl _ _ 65 9 1 16 _ rfl Tryz.underlying65 infoSt rfl (by decide) (by decide) (w.heap.size + 1) _ ss.length (strF ss) rfl ((H1.out.1.alloc _).alloc _) ⟨w1.heap.size + 1, 0, none⟩ 1 1 [.string a] rfl rfl (cells_new (w1.alloc (.cells #[.string a, .string b] 96)) #[.string a] _ _ (by simp)) (by intro u hu; simp at hu; subst hu; rfl) (by omega) (by simp; omega) ?_; intro v6 w6 hown6 hgrow6 _ _; have H6 := Lib.hid (And.intro hown6 hgrow6); clear hown6 hgrow6)
      have hown2 := (H1.out.1.alloc (.cells #[.string a, .string b] 96)).alloc (.cells #[.string a] 9)
      have hrg6 := ((HRG.out.alloc (.cells #[.string a, .string b] 96)).alloc (.cells #[.string a] 9)).kept H6.out.2 (fun e => by have := own_base hown2 e.symm; omega) (fun e => by have := own_base hown2 e.symm; omega)
      have hb2 : Below w.heap.size w ((w1.alloc (.cells #[.string a, .string b] 96)).alloc (.cells #[.string a] 9)) := (H1.out.2.1.alloc H1.out.2.1.size _).alloc (by have := H1.out.2.1.size; simp; omega) _
      have hb6 := below_own hb2 hb2.size (own_weak hown2 (Nat.le_succ _)) H6.out.2
      go_roundw
      case rel =>
        refine ⟨_, cnt1, ss ++ [d a], hrg6, by simp; omega, ?_, H1.out.2.2, hb6⟩
        rw [strF_append, List.length_append]
        exact H6.out.1
      case measure => rw [hrg6.left_eq, hrg.left_eq]; exact hlt1
end Go.Proofs.YtdgfldeeflmnmaaGreatDoor.Sk
