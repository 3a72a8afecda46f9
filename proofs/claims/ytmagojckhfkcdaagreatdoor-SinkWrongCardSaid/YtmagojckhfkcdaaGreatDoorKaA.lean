/- Several parts in one text: KgA, KaA. -/
import Derived.Test.YtmagojckhfkcdaaGreatDoorKfA
import Derived.Maps.RangeWalk
/- Chapter 38: maps.Copy at maps of lines. -/
namespace Go.Proofs.YtmagojckhfkcdaaGreatDoor.Sk
open Go Go.RowKit Go.ChangeShapes Go.WideShapes Go.ChangeMaps Go.MapKept
set_option maxRecDepth 100000 in
theorem keyLits_string {m : Nat} {x : Value} {ls : List Lit} (h : Tryz.prog.keyLits (m + 1) 9 [x] = some ls) : ∃ s : ByteArray, x = .string s ∧ s.size ≤ maxLen := by
  unfold Program.keyLits at h
  rw [Tryz.underlying9] at h
  cases x <;> simp at h
  exact ⟨_, rfl, h.1⟩
set_option maxRecDepth 100000 in
theorem keyOf_line_inv {v : Value} {l : Lit} (h : keyOf Tryz.prog 83 v = some l) : ∃ a b : ByteArray, v = .agg #[.string a, .string b] ∧ a.size ≤ maxLen ∧ b.size ≤ maxLen ∧ l = kl (d a, d b) := by
  obtain ⟨f0, f1, hu, t0, t1, o0, o1, n0, n1⟩ := line_fields
  obtain ⟨m, hm⟩ := types_succ
  have h0 := h
  unfold keyOf at h
  simp only [hu] at h
  split at h
  · rename_i hf
    simp only [Bool.and_eq_true] at hf
    have hf2 := hf.2
    cases v <;> simp [Value.formed, hu, lineCells] at hf2
    rename_i cs
    obtain ⟨x, y, rfl⟩ : ∃ x y, cs = #[x, y] := by
      obtain ⟨l⟩ := cs
      match l, hf2 with
      | [x, y], _ => exact ⟨x, y, rfl⟩
    rw [hm] at h
    unfold Program.keyLits at h
    simp only [hu, Value.cells] at h
    rw [if_pos ⟨by rw [lineCells]; rfl, by simp [n0, n1]⟩] at h
    simp only [List.mapM_cons, List.mapM_nil, t0, t1, o0, o1, stringCells] at h
    simp only [List.drop_zero, List.take_succ_cons, List.take_zero, List.drop_succ_cons] at h
    cases hx : Tryz.prog.keyLits (m + 1) 9 [x] with
    | none => rw [hx] at h; simp at h
    | some lx =>
      cases hy : Tryz.prog.keyLits (m + 1) 9 [y] with
      | none => rw [hx, hy] at h; simp at h
      | some ly =>
        obtain ⟨a, rfl, ha⟩ := keyLits_string hx
        obtain ⟨b, rfl, hb⟩ := keyLits_string hy
        exact ⟨a, b, rfl, ha, hb, Option.some.inj (h0.symm.trans (keyOf_line ha hb))⟩
  · cases h
def merge (f g : Line → Last) : Line → Last := fun k => match g k with | some v => some v | none => f k
/-- f, with what g tells of the lines that are no longer to come -/
def part (f g : Line → Last) (left : Lit → Bool) : Line → Last := fun k => if left (kl k) then f k else merge f g k
def Tells (D : DataW Unit) (f : Line → Last) : Prop := ∀ k, fits k → Maps.has D (kl k) = (f k).isSome ∧ ∀ v, f k = some v → D.atKey (kl k) zl = lastD v
theorem lastD_inj {v u : Int × Bool} (h : lastD v = lastD u) : v = u := by
  obtain ⟨a, b⟩ := v
  obtain ⟨c, e⟩ := u
  simp only [lastD, DataW.agg.injEq, List.cons.injEq, DataW.lit.injEq, Lit.int.injEq, Lit.bool.injEq, true_and, and_true] at h
  obtain ⟨rfl, rfl⟩ := h
  rfl
theorem Tells.put {D : DataW Unit} {f f' : Line → Last} (hD : Go.Maps.IsMap D) (h : Tells D f) {k : Line} (hk : fits k) (v : Int × Bool) (h1 : f' k = some v) (h2 : ∀ q, fits q → q ≠ k → f' q = f q) : Tells (D.put (kl k) (lastD v)) f' := by
  intro q hq
  by_cases e : q = k
  · subst e
    refine ⟨by rw [Go.Maps.has_put_same hD (kl_key q), h1]; rfl, fun u hu => ?_⟩
    rw [h1] at hu
    cases hu
    exact Go.Maps.atKey_put_same hD (kl_key q) _ _
  · have hne : kl q ≠ kl k := fun h => e (kl_inj hq hk h)
    obtain ⟨a, b⟩ := h q hq
    rw [h2 q hq e]
    exact ⟨by rw [Go.Maps.has_put_other hne]; exact a, fun u hu => by rw [Go.Maps.atKey_put_other hne]; exact b u hu⟩
theorem fr_grown {X : Nat → Prop} {w w' : World} {row : Option Nat} (h : w.grownBy w' row) (hX : ∀ k, row = some k → X k) : Fr X w w' :=
  ⟨h.os, h.tape, h.output, h.size, fun k hk hx => h.block k hk (fun e => hx (hX k e.symm))⟩
theorem Fr.thenX {X Y : Nat → Prop} {w w' w'' : World} (h : Fr X w w') (k : Fr Y w' w'') (hY : ∀ i, i < w.heap.size → Y i → X i) : Fr X w w'' :=
  ⟨k.os.trans h.os, k.tape.trans h.tape, k.output.trans h.output, Nat.le_trans h.size k.size, fun i hi hx => (k.block i (Nat.lt_of_lt_of_le hi h.size) (fun hy => hx (hY i hi hy))).trans (h.block i hi hx)⟩
structure Ln where
  a : ByteArray
  b : ByteArray
structure Ls where
  s : Int
  m : Bool
def CopyPost (b1 n1 n2 : Nat) (f g : Line → Last) (w : World) (e : Ending) (w' : World) : Prop := e = .returned (.tuple #[]) ∧ MapIs w' b1 (n1 + n2) (merge f g) ∧ Fr (fun k => k = b1) w w'
def CpInv (b1 n1 b2 n2 : Nat) (f g : Line → Last) (D2 : DataW Unit) (w wr : World) : Prop :=
  ∃ (left : Lit → Bool) (cnt : Nat) (D1 : DataW Unit), wr.ranges Tryz.prog 83 lastOfV b2 w.heap.size n2 D2 left cnt ∧ cnt ≤ Maps.size D2 ∧ wr.ownsMap Tryz.prog 83 lastOfV b1 (n1 + (Maps.size D2 - cnt)) D1 ∧ Tells D1 (part f g left) ∧ Fr (fun k => k = b1) w wr
set_option maxRecDepth 100000 in
set_option maxHeartbeats 4000000 in
theorem copy_calls (b1 n1 b2 n2 : Nat) (f g : Line → Last) (w : World) (h1 : MapIs w b1 n1 f) (h2 : MapIs w b2 n2 g) (hne : b1 ≠ b2) (hn1 : n1 ≤ 100000000) (hn2 : n2 ≤ 100000000) :
    Calls Tryz.prog 36 #[.map (some b1), .map (some b2)] w (CopyPost b1 n1 n2 f g w) := by
  obtain ⟨D1, hown1, ht1⟩ := h1
  obtain ⟨D2, hown2, ht2⟩ := h2
  have hsz2 := hown2.size_le
  have hlt1 := hown1.lt
  have hlt2 := hown2.lt
  have HT1 : Hid (Tells D1 f) := Lib.hid ht1
  have HT2 : Hid (Tells D2 g) := Lib.hid ht2
  clear ht1 ht2
  go_enter Tryz.func36, Tryz.ntmps36
  go_wp2_with (first | (at_range; refine wpList_range_own _ rfl _ 60 rfl 83 80 lineLaw Tryz.underlying60 _ b2 n2 D2 rfl hown2 ?_; intro w0 hrg0 hg0 hs0) | go_in)
  go_frame
  go_loopw [4] (fun _ wr => CpInv b1 n1 b2 n2 f g D2 w wr) (fun _ wr => wr.rangeLeft b2 w.heap.size)
  case atStart =>
    refine ⟨_, _, D1, hrg0, Nat.le_refl _, (hown1.kept hg0 (by simp)).mono (by omega), fun k hk => ?_, fr_grown hg0 (fun k hk => by cases hk)⟩
    have hp : part f g (Maps.has D2) k = f k := by
      unfold part
      obtain ⟨a, _⟩ := HT2.out k hk
      rw [a]
      cases hg : g k with
      | none => unfold merge; rw [hg]; rfl
      | some v => rfl
    rw [hp]
    exact HT1.out k hk
  case round =>
    obtain ⟨left, cnt, E1, hrg, hcs, hout, hA, hfr⟩ := hrel
    have hbs := hfr.size
    have HF := Lib.hid hfr
    have HA := Lib.hid hA
    clear hfr hA
    go_wp2_with (first | (at_next; refine wpList_next_ranges _ rfl _ rfl 83 lineLaw lastOfV (fun p : Ln => .agg #[.string p.a, .string p.b]) (fun c : Ls => .agg #[.int .i64 c.s, .bool c.m]) (fun key kl hk => by obtain ⟨a, b, rfl, _⟩ := keyOf_line_inv hk; exact ⟨⟨a, b⟩, rfl⟩) (fun v y hv => by obtain ⟨s, m, rfl, _⟩ := lastOfV_some hv; exact ⟨⟨s, m⟩, rfl⟩) b2 w.heap.size n2 D2 left cnt rfl hrg ?_ ?_) | go_in)
    · intro hc0 hl0
      go_wp2
      go_end0
      subst hc0
      refine ⟨rfl, ⟨E1, hout.mono (by omega), fun k hk => ?_⟩, HF.out⟩
      have h := HA.out k hk
      have hp : part f g left k = merge f g k := by unfold part; rw [hl0]; rfl
      rw [hp] at h
      exact h
    · intro x c kl' yd yp w1 cnt1 hkey hlk hv hat hrg1 hlt hg1 hs1 hen
      obtain ⟨a, b⟩ := x
      obtain ⟨s, m⟩ := c
      dsimp only at hkey hv hen ⊢
      obtain ⟨a', b', hab, ha, hb, rfl⟩ := keyOf_line_inv hkey
      injection hab with hab
      simp only [Array.mk.injEq, List.cons.injEq, Value.string.injEq, and_true] at hab
      obtain ⟨rfl, rfl⟩ := hab
      obtain ⟨s', m', hsm, hyd⟩ := lastOfV_some hv
      injection hsm with hsm
      simp only [Array.mk.injEq, List.cons.injEq, Value.int.injEq, Value.bool.injEq, true_and, and_true] at hsm
      obtain ⟨rfl, rfl⟩ := hsm
      simp only [Prod.mk.injEq] at hyd
      obtain ⟨rfl, -⟩ := hyd
      have hfit : fits (d a, d b) := ⟨by simpa using ha, by simpa using hb⟩
      have hg : g (d a, d b) = some (s, m) := by
        obtain ⟨t1, t2⟩ := HT2.out _ hfit
        rw [Go.Maps.has_true_of_atKey hat] at t1
        cases hg : g (d a, d b) with
        | none => rw [hg] at t1; cases t1
        | some v =>
          have := (t2 v hg).symm.trans (hat zl)
          rw [lastD_inj this]
      have hout1 := hout.kept hg1 (by simp; omega)
      have HG := Lib.hid hg
      have HFI := Lib.hid hfit
      have HLK := Lib.hid hlk
      clear hkey hlk hv hat hg hfit
      have hnb : n1 + (Maps.size D2 - cnt) < maxLen := by unfold maxLen; omega
      have HNB := Lib.hid hnb
      have HKL := Lib.hid (keyOf_line ha hb)
      clear hnb ha hb
      go_wp2_with (first | (at_mapUpdate; refine wpList_mapUpdate_own _ rfl _ _ _ 60 rfl 83 80 lineLaw Tryz.underlying60 lastOfV b1 _ E1 rfl ((hout1.alloc _).alloc _) HNB.out _ _ _ rfl rfl HKL.out _ [] (lastOfV_mk s m) ?_; intro w2 hout2 hg2; go_frame) | go_in)
      have hrg2 := ((hrg1.alloc (.cells #[.string a, .string b] 83)).alloc (.cells #[.int .i64 s, .bool m] 80)).kept hg2 (fun e => by have := Option.some.inj e; omega) (fun e => by have := Option.some.inj e; omega)
      go_roundw
      case rel =>
        refine ⟨_, cnt1, _, hrg2, by omega, hout2.mono (by omega), Tells.put hout.isMap HA.out HFI.out (s, m) ?_ (fun q hq hne' => ?_), ?_⟩
        · unfold part merge
          have e1 := WideAt.sameKey_self (kl_key (d a, d b))
          have e2 := HG.out
          simp [e1, e2]
        · unfold part
          have e1 := Go.Maps.sameKey_ne (fun e => hne' (kl_inj hq HFI.out e))
          simp [e1]
        · refine ((HF.out.thenX (fr_grown (X := fun k => k = w.heap.size) hg1 (fun k e => by cases e; rfl)) (fun i hi e => by omega)).thenX (below_fr (X := fun _ => False) (((Below.refl _ _).alloc (Nat.le_refl _) (.cells #[.string a, .string b] 83)).alloc (by simp) (.cells #[.int .i64 s, .bool m] 80))) (fun i hi e => e.elim)).thenX (fr_grown (X := fun k => k = b1) hg2 (fun k e => by cases e; rfl)) (fun i hi e => e)
      case measure => rw [hrg2.left_eq, hrg.left_eq]; exact hlt
end Go.Proofs.YtmagojckhfkcdaaGreatDoor.Sk
/- Chapter 38: slices.Clone at labels; flat rows that are read. -/
namespace Go.Proofs.YtmagojckhfkcdaaGreatDoor.Sk
open Go Go.RowKit
/-- the slice at a reads, in w, as the cells xs -/
def RdF (w : World) (a : Option Addr) (xs : List Value) : Prop := xs ≠ [] → ∃ b off, a = some ⟨b, off, none⟩ ∧ b < w.heap.size ∧ ∀ j u, xs[j]? = some u → w.cell? ⟨b, off + j, none⟩ = some u
theorem RdF.below {w w1 : World} {a : Option Addr} {xs : List Value} (h : RdF w a xs) (hb : Below w.heap.size w w1) : RdF w1 a xs := by
  intro hl
  obtain ⟨b, off, e, h1, h2⟩ := h hl
  exact ⟨b, off, e, Nat.lt_of_lt_of_le h1 hb.size, fun j u hu => (hb.cell (p := ⟨b, off + j, none⟩) h1).trans (h2 j u hu)⟩
theorem lFlat_one {l : List Lab} : ∀ u ∈ lFlat l, u.oneCell' = true := by
  intro u hu
  unfold lFlat labB at hu
  simp only [List.mem_flatMap, List.mem_cons, List.not_mem_nil, or_false] at hu
  obtain ⟨x, _, rfl | rfl⟩ := hu <;> rfl
theorem lFlat_idx : ∀ (l : List Lab) (j : Nat) (u : Value), (lFlat l)[j]? = some u → ∃ i x, l[i]? = some x ∧ ((j = i * 2 ∧ u = .string x.1) ∨ (j = i * 2 + 1 ∧ u = .string x.2))
  | [], j, u, h => by simp [lFlat] at h
  | x :: l, 0, u, h => by
    simp [lFlat, labB] at h
    exact ⟨0, x, rfl, .inl ⟨rfl, h.symm⟩⟩
  | x :: l, 1, u, h => by
    simp [lFlat, labB] at h
    exact ⟨0, x, rfl, .inr ⟨rfl, h.symm⟩⟩
  | x :: l, j + 2, u, h => by
    have h' : (lFlat l)[j]? = some u := h
    obtain ⟨i, y, hy, e⟩ := lFlat_idx l j u h'
    refine ⟨i + 1, y, by simpa using hy, ?_⟩
    rcases e with ⟨rfl, e⟩ | ⟨rfl, e⟩
    · exact .inl ⟨by omega, e⟩
    · exact .inr ⟨by omega, e⟩
theorem RdL.flat {w : World} {a : Option Addr} {l : List Lab} (h : RdL w a l) : RdF w a (lFlat l) := by
  intro hx
  obtain ⟨b, off, e, ht, hc⟩ := h (fun e => hx (by rw [e]; rfl))
  refine ⟨b, off, e, ht, fun j u hu => ?_⟩
  obtain ⟨i, x, hi, hj⟩ := lFlat_idx l j u hu
  obtain ⟨c0, c1⟩ := hc i x hi
  rcases hj with ⟨rfl, rfl⟩ | ⟨rfl, rfl⟩
  · exact c0
  · exact c1
set_option maxRecDepth 100000 in
set_option maxHeartbeats 1000000 in
theorem cloneL_flat (a : Option Addr) (cap n : Nat) (xs : List Value) (w : World) (hrd : RdF w a xs) (hl : xs.length = n * 2) (hnil : a = none → n = 0 ∧ cap = 0) (h1 : ∀ u ∈ xs, u.oneCell' = true) (hn : n ≤ 1000000000) :
    Calls Tryz.prog 65 #[.slice a n cap] w fun e w' => ∃ v, e = .returned v ∧ w'.ownsRow w.heap.size 66 2 v n xs ∧ Below w.heap.size w w' := by
  have hz := Tryz.info66
  cases a with
  | none =>
    obtain ⟨rfl, rfl⟩ := hnil rfl
    obtain rfl : xs = [] := List.eq_nil_of_length_eq_zero (by omega)
    have hq := fun wx : World => Lib.run_eql_slice_nil (P := Tryz.prog) wx 31 66 none 0 0 0 0 Tryz.underlying31
    clear hz
    go_enter Tryz.func65, Tryz.ntmps65
    go_wp2
    go_ret
    exact ⟨_, rfl, World.ownsRow_nil _ _ _ _, Below.refl _ _⟩
  | some ad =>
    have hq := fun wx : World => Lib.run_eql_slice_nil (P := Tryz.prog) wx 31 66 (some ad) n cap 0 0 Tryz.underlying31
    have hown0 : (w.alloc (.cells #[] 66)).ownsRow w.heap.size 66 2 (.slice (some ⟨w.heap.size, 0, none⟩) 0 0) 0 [] :=
      ⟨rfl, .inr ⟨w.heap.size, 0, #[], rfl, Nat.le_refl _, heap_alloc_new w _, Nat.le_refl _, Nat.zero_le _, rfl, rfl⟩⟩
    have H1 := Lib.hid (And.intro h1 hz)
    have HL := Lib.hid hl
    by_cases hx : xs = []
    · subst hx
      have hnn : n = 0 := by simp at hl; omega
      subst hnn
      clear hrd hnil h1 hz hl
      go_enter Tryz.func65, Tryz.ntmps65
      go_wp2_with (at_builtin; refine wpList_app rfl _ _ 31 66 2 32 _ rfl Tryz.underlying31 H1.out.2 rfl (by decide) (by decide) w.heap.size _ 0 [] rfl hown0 ad 0 cap [] rfl rfl (fun j u hu => by simp at hu) (fun u hu => by simp at hu) (by omega) (by simp) ?_; intro v' w1 hown' _ _ hbel)
      go_ret
      exact ⟨_, rfl, hown', hbel _ ((Below.refl _ _).alloc (Nat.le_refl _) _)⟩
    · obtain ⟨b, off, e, hb, hc⟩ := hrd hx
      cases e
      have HN : Hid (∀ j u, xs[j]? = some u → (w.alloc (.cells #[] 66)).cell? ((⟨b, off, none⟩ : Addr).add j) = some u) := Lib.hid (fun j u hu => by
        rw [Addr.add_lit, World.cell?_alloc_lt _ _ _ (by exact hb)]
        exact hc j u hu)
      clear hrd hnil h1 hz hl hc
      go_enter Tryz.func65, Tryz.ntmps65
      go_wp2_with (at_builtin; refine wpList_app rfl _ _ 31 66 2 32 _ rfl Tryz.underlying31 H1.out.2 rfl (by decide) (by decide) w.heap.size _ 0 [] rfl hown0 ⟨b, off, none⟩ n cap xs rfl HL.out HN.out H1.out.1 (by omega) (by simp) ?_; intro v' w1 hown' _ _ hbel; simp only [Nat.zero_add, List.nil_append] at hown')
      go_ret
      exact ⟨_, rfl, hown', hbel _ ((Below.refl _ _).alloc (Nat.le_refl _) _)⟩
theorem cloneL_calls (a : Option Addr) (cap : Nat) (l : List Lab) (w : World) (h : RdL w a l) (hnil : a = none → l = [] ∧ cap = 0) (hn : l.length ≤ 1000000000) :
    Calls Tryz.prog 65 #[.slice a l.length cap] w fun e w' => ∃ v, e = .returned v ∧ w'.ownsRow w.heap.size 66 2 v l.length (lFlat l) ∧ Below w.heap.size w w' :=
  cloneL_flat a cap l.length (lFlat l) w h.flat (lFlat_length l) (fun e => ⟨by rw [(hnil e).1]; rfl, (hnil e).2⟩) lFlat_one hn
end Go.Proofs.YtmagojckhfkcdaaGreatDoor.Sk
