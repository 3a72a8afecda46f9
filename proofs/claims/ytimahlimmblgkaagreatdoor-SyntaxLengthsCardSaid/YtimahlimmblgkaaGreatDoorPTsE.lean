/- Chapter 07: write: the text of a tree, into a builder. -/
import Derived.Test.YtimahlimmblgkaaGreatDoorPTsA
import Derived.Test.YtimahlimmblgkaaGreatDoorPTpB
import Derived.Deep.LoopGhost
namespace Go.Proofs.YtimahlimmblgkaaGreatDoor.Sy
open Go Go.RowKit
theorem L.ind {p : L → Prop} (h : ∀ k sa sc s mn mx lz na nc l, (∀ x, x ∈ l → p x) → p (.mk k sa sc s mn mx lz na nc l)) : ∀ x, p x
  | .mk k sa sc s mn mx lz na nc l => h k sa sc s mn mx lz na nc l (fun x _hx => L.ind h x)
termination_by x => SizeOf.sizeOf x
decreasing_by
  have := List.sizeOf_lt_of_mem _hx
  simp
  omega
def kindL : L → Int
  | .mk k _ _ _ _ _ _ _ _ _ => k
def subsL : L → List L
  | .mk _ _ _ _ _ _ _ _ _ l => l
/-- where write stands: what the start world holds, and the builder behind it -/
structure WC (w0 : World) (b : Nat) (w : World) : Prop where
  vs : Vs w0
  lv : Lv w0
  bel : Below w0.heap.size w0 w
  ge : w0.heap.size ≤ b
theorem WC.next {w0 w w' : World} {b : Nat} (h : WC w0 b w) (hb : Below b w w') : WC w0 b w' := ⟨h.vs, h.lv, h.bel.trans (hb.mono h.ge), h.ge⟩
theorem WC.lvs {w0 w : World} {b : Nat} (h : WC w0 b w) : Lv w := h.lv.below h.bel
theorem WC.vss {w0 w : World} {b : Nat} (h : WC w0 b w) : Vs w := h.vs.below h.bel
/-- behind a call of write -/
def WrPost (b : Nat) (l t : B) (w : World) (e : Ending) (w' : World) : Prop := e = .returned (.tuple #[]) ∧ Bd w' b (l ++ t) ∧ Below b w w' ∧ Lib.OthersKept 5 (some b) w w'
def WrH (y : L) : Prop := ∀ (w0 w : World) (b : Nat) (l : B) (ks : List Int) (a : Option Addr) (nc : Nat), WC w0 b w → RdT (fun q => q < b) w y → Bd w b l → RdF w a (kFlat ks) → ks.length ≤ 1000 → (look y.tree).shaped = true → l.length + (wr ks y.tree).length ≤ 100000000000000 →
  Calls Tryz.prog 49 #[.pointer (some ⟨b, 0, none⟩), y.val, .slice a ks.length nc] w (WrPost b l (wr ks y.tree) w)
/-- what the body has written stands in the builder, and what the function defers is still to come -/
def Door (b : Nat) (l t u : B) (l1 : B) (D : List Deferred) (w : World) : Prop :=
  ∀ W', Bd W' b (l1 ++ u) → Below b w W' → Lib.OthersKept 5 (some b) w W' → ∀ tmps, Leaves Tryz.prog Tryz.f49 tmps (WrPost b l t w) D .returning W'
theorem door_none {b : Nat} {l t : B} {w : World} : Door b l t t l [] w := fun _W' hbd hbel hok _tmps => ⟨_, results_none rfl _ _ _, ⟨rfl, hbd, hbel, hok⟩⟩
theorem door_brk {b : Nat} {l u : B} {w : World} (hl : l.length + u.length + 3 ≤ 100000000000000) : Door b l (brk true u) u (l ++ [40, 63, 58]) [{ target := Target.fn (Fn.func 56) #[], args := #[.pointer (some ⟨b, 0, none⟩), .string ⟨#[41]⟩] }] w := by
  intro W' hbd hbel hok tmps
  refine leaves_cons (f := 56) (args := #[.pointer (some ⟨b, 0, none⟩), .string ⟨#[41]⟩]) (by simp) (by simp [go_sem]) ?_
  refine (wsD_calls b (l ++ [40, 63, 58] ++ u) [41] .returning W' hbd (by simp; omega) (by simp)).mono ?_
  rintro e u' w5 ⟨rfl, v, rfl, hbd5, hb5, hok5⟩
  refine ⟨_, results_none rfl _ _ _, ⟨rfl, ?_, hbel.trans hb5, hok.trans hok5⟩⟩
  have e : l ++ brk true u = l ++ [40, 63, 58] ++ u ++ [41] := by simp [brk]
  rw [e]
  exact hbd5
theorem kindsF {w : World} {g : Nat} {ks : List Int} {t : TypeId} {fz : Nat × Nat} (h : w.heap[g]? = some (.cells (kFlat ks).toArray t fz)) : RdF w (some ⟨g, 0, none⟩) (kFlat ks) :=
  fun _ => ⟨g, 0, rfl, (isT_of h).lt, fun j u hu => by rw [Nat.zero_add]; exact block_cell h j u (by simpa using hu)⟩
theorem wr_mk (ks : List Int) (k : Int) (s : Rs.S) (a b : Int) (z : Bool) (l : List T) : wr ks (.mk k s a b z l) = brk (decide (k ∈ ks)) (wr [] (.mk k s a b z l)) := by rw [wr_brk]; rfl
theorem ok_below {e : TypeId} {q : Option Nat} {w w' : World} (h : Below w.heap.size w w') : Lib.OthersKept e q w w' := fun g _ hg _ _ => (h.block g (Array.getElem?_eq_some_iff.1 hg).1).trans hg
theorem wrL_split {ks : List Int} {l : List T} {j : Nat} {t : T} (h : l[j]? = some t) : wrL ks l = wrL ks (l.take j) ++ (wr ks t ++ wrL ks (l.drop (j + 1))) := by
  have hj := (List.getElem?_eq_some_iff.1 h).1
  have ht := (List.getElem?_eq_some_iff.1 h).2
  have e : l = l.take j ++ t :: l.drop (j + 1) := by rw [← ht, ← List.drop_eq_getElem_cons hj, List.take_append_drop]
  rw [show wrL ks l = wrL ks (l.take j ++ t :: l.drop (j + 1)) from congrArg _ e, wrL_append, wrL]
theorem wrL_snoc {ks : List Int} {l : List T} {j : Nat} {t : T} (h : l[j]? = some t) : wrL ks (l.take (j + 1)) = wrL ks (l.take j) ++ wr ks t := by
  have hj := (List.getElem?_eq_some_iff.1 h).1
  have ht := (List.getElem?_eq_some_iff.1 h).2
  rw [List.take_succ_eq_append_getElem hj, ht, wrL_append, wrL, wrL, List.append_nil]
theorem wrA_append : ∀ (f : Bool) (a : List T) (t : T) (c : List T), wrA f (a ++ t :: c) = wrA f a ++ ((if (f && a.isEmpty) = true then [] else [124]) ++ (wr [4] t ++ wrA false c))
  | f, [], t, c => by cases f <;> simp [wrA]
  | f, x :: a, t, c => by
    rw [List.cons_append, wrA, wrA_append false a t c, wrA]
    simp [List.append_assoc]
theorem wrA_split {l : List T} {j : Nat} {t : T} (h : l[j]? = some t) : wrA true l = wrA true (l.take j) ++ ((if j = 0 then [] else [124]) ++ (wr [4] t ++ wrA false (l.drop (j + 1)))) := by
  have hj := (List.getElem?_eq_some_iff.1 h).1
  have ht := (List.getElem?_eq_some_iff.1 h).2
  have e : l = l.take j ++ t :: l.drop (j + 1) := by rw [← ht, ← List.drop_eq_getElem_cons hj, List.take_append_drop]
  rw [show wrA true l = wrA true (l.take j ++ t :: l.drop (j + 1)) from congrArg _ e, wrA_append]
  congr 2
  cases j with
  | zero => simp
  | succ j =>
    cases l with
    | nil => simp at hj
    | cons x l => simp
theorem wrA_snoc {l : List T} {j : Nat} {t : T} (h : l[j]? = some t) : wrA true (l.take (j + 1)) = wrA true (l.take j) ++ ((if j = 0 then [] else [124]) ++ wr [4] t) := by
  have hj := (List.getElem?_eq_some_iff.1 h).1
  have h2 : (l.take (j + 1))[j]? = some t := by rw [List.getElem?_take, if_pos (by omega)]; exact h
  rw [wrA_split h2, List.take_take, Nat.min_eq_left (by omega), List.drop_eq_nil_of_le (by rw [List.length_take]; omega), wrA]
  simp
/-- at the head of the loops over the parts -/
def PartRel (w : World) (b : Nat) (l1 : B) (f : Nat → B) (n : Nat) (G : Nat) (v : Value) (wr : World) : Prop :=
  ∃ j : Nat, j ≤ n ∧ G = n - j ∧ v = .int .i64 (j : Int) ∧ Bd wr b (l1 ++ f j) ∧ Below b w wr ∧ Lib.OthersKept 5 (some b) w wr
theorem treeL_at {l : List L} {j : Nat} {x : L} (h : l[j]? = some x) : (treeL l)[j]? = some x.tree := by rw [treeL_map, List.getElem?_map, h]; rfl
theorem two_kinds {w W : World} {o1 : Obj} {ks : List Int} {T : TypeId} (hW : W = (w.alloc o1).alloc (.cells (kFlat ks).toArray T)) : Below w.heap.size w W ∧ RdF W (some ⟨w.heap.size + 1, 0, none⟩) (kFlat ks) ∧ Lib.OthersKept 5 none w W := by
  subst hW
  refine ⟨((Below.refl _ _).alloc (Nat.le_refl _) _).alloc (by simp) _, kindsF (t := T) (fz := (0, 0)) ?_, ((Lib.OthersKept.refl _ _ w).alloc _).alloc _⟩
  have := heap_alloc_new (w.alloc o1) (.cells (kFlat ks).toArray T)
  simpa using this
theorem one_kinds {w W : World} {ks : List Int} {T : TypeId} (hW : W = w.alloc (.cells (kFlat ks).toArray T)) : Below w.heap.size w W ∧ RdF W (some ⟨w.heap.size, 0, none⟩) (kFlat ks) ∧ Lib.OthersKept 5 none w W := by
  subst hW
  exact ⟨(Below.refl _ _).alloc (Nat.le_refl _) _, kindsF (t := T) (fz := (0, 0)) (heap_alloc_new w _), (Lib.OthersKept.refl _ _ w).alloc _⟩
theorem _root_.Go.Lib.OthersKept.any {e : TypeId} {w w' : World} (h : Lib.OthersKept e none w w') (b : Nat) : Lib.OthersKept e (some b) w w' := fun g o hg _ h2 => h g o hg (by simp) h2
theorem wr5 (s : Rs.S) (mn mx : Int) (lz : Bool) (x : L) : wr [] (.mk 5 s mn mx lz (treeL [x])) = wr [1, 3, 4, 5] x.tree ++ quantT mn mx ++ (if lz then [63] else []) := rfl
theorem wr6 (s : Rs.S) (mn mx : Int) (lz : Bool) (x : L) : wr [] (.mk 6 s mn mx lz (treeL [x])) = [40] ++ wr [] x.tree ++ [41] := rfl
set_option maxRecDepth 100000
set_option maxHeartbeats 8000000 in
theorem write_empty (y : L) (hk : kindL y = 1) : WrH y := by
  intro w0 w b l ks a nc hc hrd hbd hks hkl hsh hlen
  obtain ⟨k, sa, sc, s, mn, mx, lz, na, nc', sub⟩ := y
  obtain rfl : k = 1 := hk
  rw [show (L.mk 1 sa sc s mn mx lz na nc' sub).tree = .mk 1 s mn mx lz (treeL sub) from rfl] at hsh hlen ⊢
  rw [wr_mk] at hlen ⊢
  obtain ⟨body, hbody⟩ : ∃ q, q = wr [] (T.mk 1 s mn mx lz (treeL sub)) := ⟨_, rfl⟩
  rw [← hbody] at hlen ⊢
  have HY := Lib.hid (And.intro hc (And.intro hrd (And.intro hsh hbody)))

  have hbl : l.length + body.length ≤ 100000000000000 := by
    refine Nat.le_trans ?_ hlen
    unfold brk
    split
    · simp; omega
    · exact Nat.le_refl _
  have HL := Lib.hid (And.intro hbl hlen)
  obtain ⟨n, hn⟩ : ∃ q, q = sub.length := ⟨_, rfl⟩
  obtain ⟨m, hm⟩ : ∃ q, q = s.length := ⟨_, rfl⟩
  obtain ⟨kn, hkn⟩ : ∃ q, q = ks.length := ⟨_, rfl⟩
  rw [val_mk, ← hn, ← hm, ← hkn]
  have HN := Lib.hid (And.intro hn (And.intro hm hkn))
  have hb0 : b < w.heap.size := hbd.lt
  have HKC : Hid (∀ W, Below w.heap.size w W → Calls Tryz.prog 75 #[.slice a kn nc, .int .u8 1] W fun e w' => e = .returned (.bool (decide ((1 : Int) ∈ ks))) ∧ w' = W) := Lib.hid (fun W hb => by rw [hkn]; exact kinds_calls a ks nc 1 W (hks.below hb) hkl)
  have HB := Lib.hid hbd
  clear hc hrd hsh hbody hbl hn hm hkn hks hkl hbd
  go_enter_defers Tryz.func49, Tryz.ntmps49
  go_wp2_with fail
  refine at_world ?_
  intro W hW
  have hbW : Below w.heap.size w W := by rw [hW]; exact (Below.refl _ _).alloc (Nat.le_refl _) _
  have g2 : W.heap[w.heap.size]? = some (.cells #[.int .u8 1, .slice sa m sc, .int .i64 mn, .int .i64 mx, .bool lz, .slice na n nc'] 27 (0, 0)) := by rw [hW]; exact heap_alloc_new w _
  have hokW : Lib.OthersKept 5 (some b) w W := by rw [hW]; exact (Lib.OthersKept.refl _ _ w).alloc _
  clear hW
  refine (HKC.out W hbW).mono ?_
  rintro e w1 ⟨rfl, rfl⟩
  obtain ⟨wB, hwB⟩ : ∃ q, q = w1 := ⟨_, rfl⟩
  subst hwB
  have hwlt : w.heap.size < wB.heap.size := (isT_of g2).lt
  have hbdW := HB.out.below hbW
  by_cases hkk : (1 : Int) ∈ ks
  case' pos =>
    have HD := Lib.hid (show Door b l (brk (decide ((1 : Int) ∈ ks)) body) body (l ++ [40, 63, 58]) [{ target := Target.fn (Fn.func 56) #[], args := #[.pointer (some ⟨b, 0, none⟩), .string ⟨#[41]⟩] }] w by
      have h2 := HL.out.2
      rw [decide_eq_true hkk] at h2 ⊢
      exact door_brk (by simp [brk] at h2; omega))
    obtain ⟨l1, hl1⟩ : ∃ q, q = l ++ [40, 63, 58] := ⟨_, rfl⟩
    have hl1l : Hid (l1.length + body.length ≤ 100000000000000) := Lib.hid (by
      have h2 := HL.out.2
      rw [decide_eq_true hkk] at h2
      rw [hl1]; simp [brk] at h2 ⊢; omega)
    rw [← hl1] at HD
    have HKK := Lib.hid hkk
    have hd : decide ((1 : Int) ∈ ks) = true := decide_eq_true hkk
    rw [hd]
    clear hkk hd hlen
    go_wp2_with fail
    go_at_call 56
    refine (wsG_calls b l [40, 63, 58] wB hbdW (by have := HL.out.1; omega) (by simp)).mono ?_
    rintro e w2 ⟨v, rfl, hbd2, hb2, hok2⟩
    rw [← hl1] at hbd2
    have g3 := ok_cells hok2 g2 (by omega) (by decide)
    have HS := Lib.hid (And.intro hbd2 (And.intro ((hbW.mono (Nat.le_of_lt hb0)).trans hb2) (hokW.trans hok2)))
    have hlt2 : w.heap.size < w2.heap.size := (isT_of g3).lt
    clear hbd2 hb2 hok2 hl1 g2 hbW hbdW hokW hwlt
  case' neg =>
    obtain ⟨l1, hl1⟩ : ∃ q, q = l := ⟨_, rfl⟩
    have HD := Lib.hid (show Door b l (brk (decide ((1 : Int) ∈ ks)) body) body l1 [] w by
      rw [decide_eq_false hkk, hl1]
      exact door_none)
    have hl1l : Hid (l1.length + body.length ≤ 100000000000000) := Lib.hid (by rw [hl1]; exact HL.out.1)
    have HKK := Lib.hid hkk
    have hd : decide ((1 : Int) ∈ ks) = false := decide_eq_false hkk
    rw [hd]
    rw [← hl1] at hbdW
    clear hkk hd hlen
    obtain ⟨w2, hw2⟩ : ∃ q, q = wB := ⟨_, rfl⟩
    subst hw2
    have g3 := g2
    have HS := Lib.hid (And.intro hbdW (And.intro (hbW.mono (Nat.le_of_lt hb0)) hokW))
    have hlt2 : w.heap.size < w2.heap.size := (isT_of g3).lt
    clear hl1 g2 hbW hbdW hokW hwlt
  all_goals
    have c0 : w2.cell? ⟨w.heap.size, 0, none⟩ = some (.int .u8 1) := block_cell g3 0 _ rfl
    have c1 : w2.cell? ⟨w.heap.size, 1, none⟩ = some (.slice sa m sc) := block_cell g3 1 _ rfl
    have c2 : w2.cell? ⟨w.heap.size, 2, none⟩ = some (.int .i64 mn) := block_cell g3 2 _ rfl
    have c3 : w2.cell? ⟨w.heap.size, 3, none⟩ = some (.int .i64 mx) := block_cell g3 3 _ rfl
    have c4 : w2.cell? ⟨w.heap.size, 4, none⟩ = some (.bool lz) := block_cell g3 4 _ rfl
    have c5 : w2.cell? ⟨w.heap.size, 5, none⟩ = some (.slice na n nc') := block_cell g3 5 _ rfl
    have HG := Lib.hid g3
    clear g3
    go_wp2_with fail
    exact HD.out w2 (by rw [HY.out.2.2.2]; exact (List.append_nil l1).symm ▸ HS.out.1) HS.out.2.1 HS.out.2.2 _
set_option maxHeartbeats 8000000 in
theorem write_set (y : L) (hk : kindL y = 2) : WrH y := by
  intro w0 w b l ks a nc hc hrd hbd hks hkl hsh hlen
  obtain ⟨k, sa, sc, s, mn, mx, lz, na, nc', sub⟩ := y
  obtain rfl : k = 2 := hk
  rw [show (L.mk 2 sa sc s mn mx lz na nc' sub).tree = .mk 2 s mn mx lz (treeL sub) from rfl] at hsh hlen ⊢
  rw [wr_mk] at hlen ⊢
  obtain ⟨body, hbody⟩ : ∃ q, q = wr [] (T.mk 2 s mn mx lz (treeL sub)) := ⟨_, rfl⟩
  rw [← hbody] at hlen ⊢
  have HY := Lib.hid (And.intro hc (And.intro hrd (And.intro hsh hbody)))
  obtain ⟨hsl0, hP0⟩ : Sl w sa sc s ∧ (∀ q, sa = some q ∨ na = some q → q.block < b) := by cases hrd with | mk hk hmn hmx hs hsl hn hnl hnb hP sub => exact ⟨hs, hP⟩
  have hsr0 : Rs.right s = true := by
    rw [look_shaped, Bool.and_eq_true] at hsh
    rcases shapedN_cases hsh.1 with h | h | h | h | h | h
    all_goals first | exact h.2.1 | exact absurd h.1 (by decide)
  have hbl : l.length + body.length ≤ 100000000000000 := by
    refine Nat.le_trans ?_ hlen
    unfold brk
    split
    · simp; omega
    · exact Nat.le_refl _
  have HL := Lib.hid (And.intro hbl hlen)
  obtain ⟨n, hn⟩ : ∃ q, q = sub.length := ⟨_, rfl⟩
  obtain ⟨m, hm⟩ : ∃ q, q = s.length := ⟨_, rfl⟩
  obtain ⟨kn, hkn⟩ : ∃ q, q = ks.length := ⟨_, rfl⟩
  rw [val_mk, ← hn, ← hm, ← hkn]
  have HN := Lib.hid (And.intro hn (And.intro hm hkn))
  have hb0 : b < w.heap.size := hbd.lt
  have HKC : Hid (∀ W, Below w.heap.size w W → Calls Tryz.prog 75 #[.slice a kn nc, .int .u8 2] W fun e w' => e = .returned (.bool (decide ((2 : Int) ∈ ks))) ∧ w' = W) := Lib.hid (fun W hb => by rw [hkn]; exact kinds_calls a ks nc 2 W (hks.below hb) hkl)
  have HB := Lib.hid hbd
  clear hc hrd hsh hbody hbl hn hm hkn hks hkl hbd
  go_enter_defers Tryz.func49, Tryz.ntmps49
  go_wp2_with fail
  refine at_world ?_
  intro W hW
  have hbW : Below w.heap.size w W := by rw [hW]; exact (Below.refl _ _).alloc (Nat.le_refl _) _
  have g2 : W.heap[w.heap.size]? = some (.cells #[.int .u8 2, .slice sa m sc, .int .i64 mn, .int .i64 mx, .bool lz, .slice na n nc'] 27 (0, 0)) := by rw [hW]; exact heap_alloc_new w _
  have hokW : Lib.OthersKept 5 (some b) w W := by rw [hW]; exact (Lib.OthersKept.refl _ _ w).alloc _
  clear hW
  refine (HKC.out W hbW).mono ?_
  rintro e w1 ⟨rfl, rfl⟩
  obtain ⟨wB, hwB⟩ : ∃ q, q = w1 := ⟨_, rfl⟩
  subst hwB
  have hwlt : w.heap.size < wB.heap.size := (isT_of g2).lt
  have hbdW := HB.out.below hbW
  by_cases hkk : (2 : Int) ∈ ks
  case' pos =>
    have HD := Lib.hid (show Door b l (brk (decide ((2 : Int) ∈ ks)) body) body (l ++ [40, 63, 58]) [{ target := Target.fn (Fn.func 56) #[], args := #[.pointer (some ⟨b, 0, none⟩), .string ⟨#[41]⟩] }] w by
      have h2 := HL.out.2
      rw [decide_eq_true hkk] at h2 ⊢
      exact door_brk (by simp [brk] at h2; omega))
    obtain ⟨l1, hl1⟩ : ∃ q, q = l ++ [40, 63, 58] := ⟨_, rfl⟩
    have hl1l : Hid (l1.length + body.length ≤ 100000000000000) := Lib.hid (by
      have h2 := HL.out.2
      rw [decide_eq_true hkk] at h2
      rw [hl1]; simp [brk] at h2 ⊢; omega)
    rw [← hl1] at HD
    have HKK := Lib.hid hkk
    have hd : decide ((2 : Int) ∈ ks) = true := decide_eq_true hkk
    rw [hd]
    clear hkk hd hlen
    go_wp2_with fail
    go_at_call 56
    refine (wsG_calls b l [40, 63, 58] wB hbdW (by have := HL.out.1; omega) (by simp)).mono ?_
    rintro e w2 ⟨v, rfl, hbd2, hb2, hok2⟩
    rw [← hl1] at hbd2
    have g3 := ok_cells hok2 g2 (by omega) (by decide)
    have HS := Lib.hid (And.intro hbd2 (And.intro ((hbW.mono (Nat.le_of_lt hb0)).trans hb2) (hokW.trans hok2)))
    have hlt2 : w.heap.size < w2.heap.size := (isT_of g3).lt
    clear hbd2 hb2 hok2 hl1 g2 hbW hbdW hokW hwlt
  case' neg =>
    obtain ⟨l1, hl1⟩ : ∃ q, q = l := ⟨_, rfl⟩
    have HD := Lib.hid (show Door b l (brk (decide ((2 : Int) ∈ ks)) body) body l1 [] w by
      rw [decide_eq_false hkk, hl1]
      exact door_none)
    have hl1l : Hid (l1.length + body.length ≤ 100000000000000) := Lib.hid (by rw [hl1]; exact HL.out.1)
    have HKK := Lib.hid hkk
    have hd : decide ((2 : Int) ∈ ks) = false := decide_eq_false hkk
    rw [hd]
    rw [← hl1] at hbdW
    clear hkk hd hlen
    obtain ⟨w2, hw2⟩ : ∃ q, q = wB := ⟨_, rfl⟩
    subst hw2
    have g3 := g2
    have HS := Lib.hid (And.intro hbdW (And.intro (hbW.mono (Nat.le_of_lt hb0)) hokW))
    have hlt2 : w.heap.size < w2.heap.size := (isT_of g3).lt
    clear hl1 g2 hbW hbdW hokW hwlt
  all_goals
    have c0 : w2.cell? ⟨w.heap.size, 0, none⟩ = some (.int .u8 2) := block_cell g3 0 _ rfl
    have c1 : w2.cell? ⟨w.heap.size, 1, none⟩ = some (.slice sa m sc) := block_cell g3 1 _ rfl
    have c2 : w2.cell? ⟨w.heap.size, 2, none⟩ = some (.int .i64 mn) := block_cell g3 2 _ rfl
    have c3 : w2.cell? ⟨w.heap.size, 3, none⟩ = some (.int .i64 mx) := block_cell g3 3 _ rfl
    have c4 : w2.cell? ⟨w.heap.size, 4, none⟩ = some (.bool lz) := block_cell g3 4 _ rfl
    have c5 : w2.cell? ⟨w.heap.size, 5, none⟩ = some (.slice na n nc') := block_cell g3 5 _ rfl
    have HG := Lib.hid g3
    clear g3
    have HSet := Lib.hid (set_calls sa sc s w2 (Sl.chg hsl0 (fun q e hq => HS.out.2.1.block q.block (hP0 q (.inl e))) HS.out.2.1.size) hsr0 (HY.out.1.next HS.out.2.1).lvs)
    rw [← HN.out.2.1] at HSet
    go_wp2_with fail
    go_at_call 76
    refine HSet.out.mono ?_
    rintro e w3 ⟨rfl, hb3⟩
    have hbd3 := HS.out.1.below hb3
    have hbl3 : Below b w w3 := HS.out.2.1.trans (hb3.mono (by have := HS.out.1.lt; omega))
    have hok3 := HS.out.2.2.trans (ok_below hb3)
    clear hb3
    go_wp2_with fail
    go_at_call 56
    refine (wsG_calls b l1 (setT s) w3 hbd3 (by have := hl1l.out; omega) (by have := setT_len hsr0; omega)).mono ?_
    rintro e w4 ⟨v, rfl, hbd4, hb4, hok4⟩
    have H4 := Lib.hid (And.intro hbd4 (And.intro (hbl3.trans hb4) (hok3.trans hok4)))
    clear hbd4 hb4 hok4
    go_wp2_with fail
    exact HD.out w4 (by rw [HY.out.2.2.2]; exact H4.out.1) H4.out.2.1 H4.out.2.2 _
set_option maxHeartbeats 8000000 in
theorem write_cat (y : L) (hk : kindL y = 3) (ih : ∀ x, x ∈ subsL y → WrH x) : WrH y := by
  intro w0 w b l ks a nc hc hrd hbd hks hkl hsh hlen
  obtain ⟨k, sa, sc, s, mn, mx, lz, na, nc', sub⟩ := y
  obtain rfl : k = 3 := hk
  rw [show (L.mk 3 sa sc s mn mx lz na nc' sub).tree = .mk 3 s mn mx lz (treeL sub) from rfl] at hsh hlen ⊢
  rw [wr_mk] at hlen ⊢
  obtain ⟨body, hbody⟩ : ∃ q, q = wr [] (T.mk 3 s mn mx lz (treeL sub)) := ⟨_, rfl⟩
  rw [← hbody] at hlen ⊢
  have HY := Lib.hid (And.intro hc (And.intro hrd (And.intro hsh hbody)))
  change ∀ x, x ∈ sub → WrH x at ih
  obtain ⟨hn0, hP0, hsub0, hnl0⟩ : Hid (RdF w na (nFlat sub)) ∧ Hid (∀ q, sa = some q ∨ na = some q → q.block < b) ∧ Hid (∀ x, x ∈ sub → RdT (fun q => q < b) w x) ∧ Hid (sub.length ≤ 1000000000) := by cases hrd with | mk hk hmn hmx hs hsl hn hnl hnb hP sub => exact ⟨Lib.hid hn, Lib.hid hP, Lib.hid sub, Lib.hid hnl⟩
  have hsh0 : Hid (∀ t ∈ treeL sub, (look t).shaped = true) := Lib.hid (by
    rw [look_shaped, Bool.and_eq_true] at hsh
    exact List.all_eq_true.1 hsh.2)
  have hbl : l.length + body.length ≤ 100000000000000 := by
    refine Nat.le_trans ?_ hlen
    unfold brk
    split
    · simp; omega
    · exact Nat.le_refl _
  have HL := Lib.hid (And.intro hbl hlen)
  obtain ⟨n, hn⟩ : ∃ q, q = sub.length := ⟨_, rfl⟩
  obtain ⟨m, hm⟩ : ∃ q, q = s.length := ⟨_, rfl⟩
  obtain ⟨kn, hkn⟩ : ∃ q, q = ks.length := ⟨_, rfl⟩
  rw [val_mk, ← hn, ← hm, ← hkn]
  have HN := Lib.hid (And.intro hn (And.intro hm hkn))
  have hb0 : b < w.heap.size := hbd.lt
  have HKC : Hid (∀ W, Below w.heap.size w W → Calls Tryz.prog 75 #[.slice a kn nc, .int .u8 3] W fun e w' => e = .returned (.bool (decide ((3 : Int) ∈ ks))) ∧ w' = W) := Lib.hid (fun W hb => by rw [hkn]; exact kinds_calls a ks nc 3 W (hks.below hb) hkl)
  have HB := Lib.hid hbd
  clear hc hrd hsh hbody hbl hn hm hkn hks hkl hbd
  go_enter_defers Tryz.func49, Tryz.ntmps49
  go_wp2_with fail
  refine at_world ?_
  intro W hW
  have hbW : Below w.heap.size w W := by rw [hW]; exact (Below.refl _ _).alloc (Nat.le_refl _) _
  have g2 : W.heap[w.heap.size]? = some (.cells #[.int .u8 3, .slice sa m sc, .int .i64 mn, .int .i64 mx, .bool lz, .slice na n nc'] 27 (0, 0)) := by rw [hW]; exact heap_alloc_new w _
  have hokW : Lib.OthersKept 5 (some b) w W := by rw [hW]; exact (Lib.OthersKept.refl _ _ w).alloc _
  clear hW
  refine (HKC.out W hbW).mono ?_
  rintro e w1 ⟨rfl, rfl⟩
  obtain ⟨wB, hwB⟩ : ∃ q, q = w1 := ⟨_, rfl⟩
  subst hwB
  have hwlt : w.heap.size < wB.heap.size := (isT_of g2).lt
  have hbdW := HB.out.below hbW
  by_cases hkk : (3 : Int) ∈ ks
  case' pos =>
    have HD := Lib.hid (show Door b l (brk (decide ((3 : Int) ∈ ks)) body) body (l ++ [40, 63, 58]) [{ target := Target.fn (Fn.func 56) #[], args := #[.pointer (some ⟨b, 0, none⟩), .string ⟨#[41]⟩] }] w by
      have h2 := HL.out.2
      rw [decide_eq_true hkk] at h2 ⊢
      exact door_brk (by simp [brk] at h2; omega))
    obtain ⟨l1, hl1⟩ : ∃ q, q = l ++ [40, 63, 58] := ⟨_, rfl⟩
    have hl1l : Hid (l1.length + body.length ≤ 100000000000000) := Lib.hid (by
      have h2 := HL.out.2
      rw [decide_eq_true hkk] at h2
      rw [hl1]; simp [brk] at h2 ⊢; omega)
    rw [← hl1] at HD
    have HKK := Lib.hid hkk
    have hd : decide ((3 : Int) ∈ ks) = true := decide_eq_true hkk
    rw [hd]
    clear hkk hd hlen
    go_wp2_with fail
    go_at_call 56
    refine (wsG_calls b l [40, 63, 58] wB hbdW (by have := HL.out.1; omega) (by simp)).mono ?_
    rintro e w2 ⟨v, rfl, hbd2, hb2, hok2⟩
    rw [← hl1] at hbd2
    have g3 := ok_cells hok2 g2 (by omega) (by decide)
    have HS := Lib.hid (And.intro hbd2 (And.intro ((hbW.mono (Nat.le_of_lt hb0)).trans hb2) (hokW.trans hok2)))
    have hlt2 : w.heap.size < w2.heap.size := (isT_of g3).lt
    clear hbd2 hb2 hok2 hl1 g2 hbW hbdW hokW hwlt
  case' neg =>
    obtain ⟨l1, hl1⟩ : ∃ q, q = l := ⟨_, rfl⟩
    have HD := Lib.hid (show Door b l (brk (decide ((3 : Int) ∈ ks)) body) body l1 [] w by
      rw [decide_eq_false hkk, hl1]
      exact door_none)
    have hl1l : Hid (l1.length + body.length ≤ 100000000000000) := Lib.hid (by rw [hl1]; exact HL.out.1)
    have HKK := Lib.hid hkk
    have hd : decide ((3 : Int) ∈ ks) = false := decide_eq_false hkk
    rw [hd]
    rw [← hl1] at hbdW
    clear hkk hd hlen
    obtain ⟨w2, hw2⟩ : ∃ q, q = wB := ⟨_, rfl⟩
    subst hw2
    have g3 := g2
    have HS := Lib.hid (And.intro hbdW (And.intro (hbW.mono (Nat.le_of_lt hb0)) hokW))
    have hlt2 : w.heap.size < w2.heap.size := (isT_of g3).lt
    clear hl1 g2 hbW hbdW hokW hwlt
  all_goals
    have c0 : w2.cell? ⟨w.heap.size, 0, none⟩ = some (.int .u8 3) := block_cell g3 0 _ rfl
    have c1 : w2.cell? ⟨w.heap.size, 1, none⟩ = some (.slice sa m sc) := block_cell g3 1 _ rfl
    have c2 : w2.cell? ⟨w.heap.size, 2, none⟩ = some (.int .i64 mn) := block_cell g3 2 _ rfl
    have c3 : w2.cell? ⟨w.heap.size, 3, none⟩ = some (.int .i64 mx) := block_cell g3 3 _ rfl
    have c4 : w2.cell? ⟨w.heap.size, 4, none⟩ = some (.bool lz) := block_cell g3 4 _ rfl
    have c5 : w2.cell? ⟨w.heap.size, 5, none⟩ = some (.slice na n nc') := block_cell g3 5 _ rfl
    have HG := Lib.hid g3
    clear g3
    have hnn : n ≤ 1000000000 := by have h1 := hnl0.out; have h2 := HN.out.1; omega
    go_wp2_with fail
    go_loopg [31] n (fun G v wr => PartRel w b l1 (fun j => wrL [3, 4, 1] ((treeL sub).take j)) n G v wr)
    case atStart => exact ⟨0, Nat.zero_le _, rfl, rfl, (List.append_nil l1).symm ▸ HS.out.1, HS.out.2.1, HS.out.2.2⟩
    case round =>
      unfold PartRel at hrel
      obtain ⟨j, hj, rfl, rfl, hbdj, hbj, hokj⟩ := hrel
      obtain ⟨wA, hwA⟩ : ∃ q, q = wr := ⟨_, rfl⟩
      subst hwA
      have HJ := Lib.hid (And.intro hbdj (And.intro hbj hokj))
      clear hbdj hbj hokj
      by_cases hlt : j < n
      · obtain ⟨x, hx⟩ : ∃ x, sub[j]? = some x := ⟨_, List.getElem?_eq_getElem (by have := HN.out.1; omega)⟩
        have hxm := List.mem_of_getElem? hx
        have hna := hP0.out
        obtain ⟨bx, off, rfl, hbx, hcell⟩ := RdF.nat (RdF.chg hn0.out (fun q e _ => HJ.out.2.1.block q.block (hna q (.inr e))) HJ.out.2.1.size) hx
        have hxt := treeL_at hx
        have HX := Lib.hid (And.intro hxt (And.intro (ih x hxm) (hsub0.out x hxm)))
        have hxs := hsh0.out _ (List.mem_of_getElem? hxt)
        have HXS := Lib.hid hxs
        clear hna hxm hxt hxs hx
        obtain ⟨kx, sax, scx, sx, mnx, mxx, lzx, nax, ncx, lx⟩ := x
        have d0 := hcell 0 _ rfl
        rw [Nat.add_zero] at d0
        have d1 := hcell 1 _ rfl
        have d2 := hcell 2 _ rfl
        have d3 := hcell 3 _ rfl
        have d4 := hcell 4 _ rfl
        have d5 := hcell 5 _ rfl
        clear hcell
        go_wp2_with fail
        refine at_world ?_
        intro W hW
        have hW2 := two_kinds (ks := [3, 4, 1]) hW
        clear hW
        have hbdW := Bd.below HJ.out.1 hW2.1
        have hbW : Below b w W := HJ.out.2.1.trans (hW2.1.mono (Nat.le_of_lt (Bd.lt HJ.out.1)))
        have hokW := HJ.out.2.2.trans (hW2.2.2.any b)
        refine Calls.mono (HX.out.2.1 w0 W b (l1 ++ wrL [3, 4, 1] ((treeL sub).take j)) [3, 4, 1] _ _ (HY.out.1.next hbW) (HX.out.2.2.chg (fun q hq _ => hbW.block q hq) hbW.size (fun _ h _ => h)) hbdW hW2.2.1 (by decide) HXS.out ?_) ?_
        · have h1 := congrArg List.length (wrL_split (ks := [3, 4, 1]) HX.out.1)
          have h2 := hl1l.out
          have h3 : body.length = (wrL [3, 4, 1] (treeL sub)).length := by rw [HY.out.2.2.2]; rfl
          simp only [List.length_append] at h1 ⊢
          omega
        rintro e w5 ⟨rfl, hbd5, hb5, hok5⟩
        have H5 := Lib.hid (And.intro hbd5 (And.intro (hbW.trans hb5) (hokW.trans hok5)))
        clear hbd5 hb5 hok5 hbW hokW hbdW hW2
        clear d0 d1 d2 d3 d4 d5
        go_wp2_with fail
        go_roundg (n - (j + 1))
        case measure => omega
        case rel => exact ⟨j + 1, hlt, rfl, by simp, by show Bd _ _ (l1 ++ wrL [3, 4, 1] ((treeL sub).take (j + 1))); rw [wrL_snoc HX.out.1, ← List.append_assoc]; exact H5.out.1, H5.out.2.1, H5.out.2.2⟩
      · obtain rfl : j = n := by omega
        have hfin : Hid (wrL [3, 4, 1] ((treeL sub).take j) = body) := Lib.hid (by
          rw [HY.out.2.2.2, List.take_of_length_le (by rw [treeL_len]; have := HN.out.1; omega)]
          rfl)
        go_wp2_with fail
        exact HD.out wA (by rw [← hfin.out]; exact HJ.out.1) HJ.out.2.1 HJ.out.2.2 _
set_option maxHeartbeats 8000000 in
theorem write_alt (y : L) (hk : kindL y = 4) (ih : ∀ x, x ∈ subsL y → WrH x) : WrH y := by
  intro w0 w b l ks a nc hc hrd hbd hks hkl hsh hlen
  obtain ⟨k, sa, sc, s, mn, mx, lz, na, nc', sub⟩ := y
  obtain rfl : k = 4 := hk
  rw [show (L.mk 4 sa sc s mn mx lz na nc' sub).tree = .mk 4 s mn mx lz (treeL sub) from rfl] at hsh hlen ⊢
  rw [wr_mk] at hlen ⊢
  obtain ⟨body, hbody⟩ : ∃ q, q = wr [] (T.mk 4 s mn mx lz (treeL sub)) := ⟨_, rfl⟩
  rw [← hbody] at hlen ⊢
  have HY := Lib.hid (And.intro hc (And.intro hrd (And.intro hsh hbody)))
  change ∀ x, x ∈ sub → WrH x at ih
  obtain ⟨hn0, hP0, hsub0, hnl0⟩ : Hid (RdF w na (nFlat sub)) ∧ Hid (∀ q, sa = some q ∨ na = some q → q.block < b) ∧ Hid (∀ x, x ∈ sub → RdT (fun q => q < b) w x) ∧ Hid (sub.length ≤ 1000000000) := by cases hrd with | mk hk hmn hmx hs hsl hn hnl hnb hP sub => exact ⟨Lib.hid hn, Lib.hid hP, Lib.hid sub, Lib.hid hnl⟩
  have hsh0 : Hid (∀ t ∈ treeL sub, (look t).shaped = true) := Lib.hid (by
    rw [look_shaped, Bool.and_eq_true] at hsh
    exact List.all_eq_true.1 hsh.2)
  have hbl : l.length + body.length ≤ 100000000000000 := by
    refine Nat.le_trans ?_ hlen
    unfold brk
    split
    · simp; omega
    · exact Nat.le_refl _
  have HL := Lib.hid (And.intro hbl hlen)
  obtain ⟨n, hn⟩ : ∃ q, q = sub.length := ⟨_, rfl⟩
  obtain ⟨m, hm⟩ : ∃ q, q = s.length := ⟨_, rfl⟩
  obtain ⟨kn, hkn⟩ : ∃ q, q = ks.length := ⟨_, rfl⟩
  rw [val_mk, ← hn, ← hm, ← hkn]
  have HN := Lib.hid (And.intro hn (And.intro hm hkn))
  have hb0 : b < w.heap.size := hbd.lt
  have HKC : Hid (∀ W, Below w.heap.size w W → Calls Tryz.prog 75 #[.slice a kn nc, .int .u8 4] W fun e w' => e = .returned (.bool (decide ((4 : Int) ∈ ks))) ∧ w' = W) := Lib.hid (fun W hb => by rw [hkn]; exact kinds_calls a ks nc 4 W (hks.below hb) hkl)
  have HB := Lib.hid hbd
  clear hc hrd hsh hbody hbl hn hm hkn hks hkl hbd
  go_enter_defers Tryz.func49, Tryz.ntmps49
  go_wp2_with fail
  refine at_world ?_
  intro W hW
  have hbW : Below w.heap.size w W := by rw [hW]; exact (Below.refl _ _).alloc (Nat.le_refl _) _
  have g2 : W.heap[w.heap.size]? = some (.cells #[.int .u8 4, .slice sa m sc, .int .i64 mn, .int .i64 mx, .bool lz, .slice na n nc'] 27 (0, 0)) := by rw [hW]; exact heap_alloc_new w _
  have hokW : Lib.OthersKept 5 (some b) w W := by rw [hW]; exact (Lib.OthersKept.refl _ _ w).alloc _
  clear hW
  refine (HKC.out W hbW).mono ?_
  rintro e w1 ⟨rfl, rfl⟩
  obtain ⟨wB, hwB⟩ : ∃ q, q = w1 := ⟨_, rfl⟩
  subst hwB
  have hwlt : w.heap.size < wB.heap.size := (isT_of g2).lt
  have hbdW := HB.out.below hbW
  by_cases hkk : (4 : Int) ∈ ks
  case' pos =>
    have HD := Lib.hid (show Door b l (brk (decide ((4 : Int) ∈ ks)) body) body (l ++ [40, 63, 58]) [{ target := Target.fn (Fn.func 56) #[], args := #[.pointer (some ⟨b, 0, none⟩), .string ⟨#[41]⟩] }] w by
      have h2 := HL.out.2
      rw [decide_eq_true hkk] at h2 ⊢
      exact door_brk (by simp [brk] at h2; omega))
    obtain ⟨l1, hl1⟩ : ∃ q, q = l ++ [40, 63, 58] := ⟨_, rfl⟩
    have hl1l : Hid (l1.length + body.length ≤ 100000000000000) := Lib.hid (by
      have h2 := HL.out.2
      rw [decide_eq_true hkk] at h2
      rw [hl1]; simp [brk] at h2 ⊢; omega)
    rw [← hl1] at HD
    have HKK := Lib.hid hkk
    have hd : decide ((4 : Int) ∈ ks) = true := decide_eq_true hkk
    rw [hd]
    clear hkk hd hlen
    go_wp2_with fail
    go_at_call 56
    refine (wsG_calls b l [40, 63, 58] wB hbdW (by have := HL.out.1; omega) (by simp)).mono ?_
    rintro e w2 ⟨v, rfl, hbd2, hb2, hok2⟩
    rw [← hl1] at hbd2
    have g3 := ok_cells hok2 g2 (by omega) (by decide)
    have HS := Lib.hid (And.intro hbd2 (And.intro ((hbW.mono (Nat.le_of_lt hb0)).trans hb2) (hokW.trans hok2)))
    have hlt2 : w.heap.size < w2.heap.size := (isT_of g3).lt
    clear hbd2 hb2 hok2 hl1 g2 hbW hbdW hokW hwlt
  case' neg =>
    obtain ⟨l1, hl1⟩ : ∃ q, q = l := ⟨_, rfl⟩
    have HD := Lib.hid (show Door b l (brk (decide ((4 : Int) ∈ ks)) body) body l1 [] w by
      rw [decide_eq_false hkk, hl1]
      exact door_none)
    have hl1l : Hid (l1.length + body.length ≤ 100000000000000) := Lib.hid (by rw [hl1]; exact HL.out.1)
    have HKK := Lib.hid hkk
    have hd : decide ((4 : Int) ∈ ks) = false := decide_eq_false hkk
    rw [hd]
    rw [← hl1] at hbdW
    clear hkk hd hlen
    obtain ⟨w2, hw2⟩ : ∃ q, q = wB := ⟨_, rfl⟩
    subst hw2
    have g3 := g2
    have HS := Lib.hid (And.intro hbdW (And.intro (hbW.mono (Nat.le_of_lt hb0)) hokW))
    have hlt2 : w.heap.size < w2.heap.size := (isT_of g3).lt
    clear hl1 g2 hbW hbdW hokW hwlt
  all_goals
    have c0 : w2.cell? ⟨w.heap.size, 0, none⟩ = some (.int .u8 4) := block_cell g3 0 _ rfl
    have c1 : w2.cell? ⟨w.heap.size, 1, none⟩ = some (.slice sa m sc) := block_cell g3 1 _ rfl
    have c2 : w2.cell? ⟨w.heap.size, 2, none⟩ = some (.int .i64 mn) := block_cell g3 2 _ rfl
    have c3 : w2.cell? ⟨w.heap.size, 3, none⟩ = some (.int .i64 mx) := block_cell g3 3 _ rfl
    have c4 : w2.cell? ⟨w.heap.size, 4, none⟩ = some (.bool lz) := block_cell g3 4 _ rfl
    have c5 : w2.cell? ⟨w.heap.size, 5, none⟩ = some (.slice na n nc') := block_cell g3 5 _ rfl
    have HG := Lib.hid g3
    clear g3
    have hnn : n ≤ 1000000000 := by have h1 := hnl0.out; have h2 := HN.out.1; omega
    go_wp2_with fail
    go_loopg [45] n (fun G v wr => PartRel w b l1 (fun j => wrA true ((treeL sub).take j)) n G v wr)
    case atStart => exact ⟨0, Nat.zero_le _, rfl, rfl, (List.append_nil l1).symm ▸ HS.out.1, HS.out.2.1, HS.out.2.2⟩
    case round =>
      unfold PartRel at hrel
      obtain ⟨j, hj, rfl, rfl, hbdj, hbj, hokj⟩ := hrel
      obtain ⟨wA, hwA⟩ : ∃ q, q = wr := ⟨_, rfl⟩
      subst hwA
      have HJ := Lib.hid (And.intro hbdj (And.intro hbj hokj))
      clear hbdj hbj hokj
      by_cases hlt : j < n
      · obtain ⟨x, hx⟩ : ∃ x, sub[j]? = some x := ⟨_, List.getElem?_eq_getElem (by have := HN.out.1; omega)⟩
        have hxm := List.mem_of_getElem? hx
        have hna := hP0.out
        obtain ⟨bx, off, rfl, hbx, hcell⟩ := RdF.nat (RdF.chg hn0.out (fun q e _ => HJ.out.2.1.block q.block (hna q (.inr e))) HJ.out.2.1.size) hx
        have hxt := treeL_at hx
        have HX := Lib.hid (And.intro hxt (And.intro (ih x hxm) (hsub0.out x hxm)))
        have hxs := hsh0.out _ (List.mem_of_getElem? hxt)
        have HXS := Lib.hid hxs
        clear hna hxm hxt hxs hx
        obtain ⟨kx, sax, scx, sx, mnx, mxx, lzx, nax, ncx, lx⟩ := x
        have d0 := hcell 0 _ rfl
        rw [Nat.add_zero] at d0
        have d1 := hcell 1 _ rfl
        have d2 := hcell 2 _ rfl
        have d3 := hcell 3 _ rfl
        have d4 := hcell 4 _ rfl
        have d5 := hcell 5 _ rfl
        clear hcell
        by_cases hj0 : j = 0
        · subst hj0
          simp only [Nat.zero_mul, Nat.add_zero] at d0 d1 d2 d3 d4 d5
          go_wp2_with fail
          refine at_world ?_
          intro W hW
          have hW2 := two_kinds (ks := [4]) hW
          clear hW
          have hbdW := Bd.below HJ.out.1 hW2.1
          have hbW : Below b w W := HJ.out.2.1.trans (hW2.1.mono (Nat.le_of_lt (Bd.lt HJ.out.1)))
          have hokW := HJ.out.2.2.trans (hW2.2.2.any b)
          refine Calls.mono (HX.out.2.1 w0 W b (l1 ++ wrA true ((treeL sub).take 0)) [4] _ _ (HY.out.1.next hbW) (HX.out.2.2.chg (fun q hq _ => hbW.block q hq) hbW.size (fun _ h _ => h)) hbdW hW2.2.1 (by decide) HXS.out ?_) ?_
          · have h1 := congrArg List.length (wrA_split HX.out.1)
            have h2 := hl1l.out
            have h3 : body.length = (wrA true (treeL sub)).length := by rw [HY.out.2.2.2]; rfl
            rw [if_pos rfl] at h1
            simp only [List.length_append, List.length_nil] at h1 ⊢
            omega
          rintro e w5 ⟨rfl, hbd5, hb5, hok5⟩
          have H5 := Lib.hid (And.intro hbd5 (And.intro (hbW.trans hb5) (hokW.trans hok5)))
          clear hbd5 hb5 hok5 hbW hokW hbdW hW2
          clear d0 d1 d2 d3 d4 d5
          go_wp2_with fail
          go_roundg (n - (0 + 1))
          case measure => omega
          case rel => exact ⟨0 + 1, hlt, rfl, by simp, by show Bd _ _ (l1 ++ wrA true ((treeL sub).take (0 + 1))); rw [wrA_snoc HX.out.1, if_pos rfl, List.nil_append, ← List.append_assoc]; exact H5.out.1, H5.out.2.1, H5.out.2.2⟩
        · have hjd : decide ((0 : Int) < (j : Int)) = true := by simp; omega
          go_wp2_with fail
          refine at_world ?_
          intro W1 hW1
          have g1 : W1.heap[wA.heap.size]? = some (.cells #[.int .u8 kx, .slice sax sx.length scx, .int .i64 mnx, .int .i64 mxx, .bool lzx, .slice nax lx.length ncx] 27 (0, 0)) := by rw [hW1]; exact heap_alloc_new wA _
          have hb1 : Below wA.heap.size wA W1 := by rw [hW1]; exact (Below.refl _ _).alloc (Nat.le_refl _) _
          have hok1 := HJ.out.2.2.trans (ok_below (e := 5) (q := some b) hb1)
          have hbd1 := Bd.below HJ.out.1 hb1
          have hbe1 : Below b w W1 := HJ.out.2.1.trans (hb1.mono (Nat.le_of_lt (Bd.lt HJ.out.1)))
          have hblt : b < wA.heap.size := Bd.lt HJ.out.1
          clear hW1 hb1
          go_at_call 77
          refine (wbG_calls b (l1 ++ wrA true ((treeL sub).take j)) 124 W1 hbd1 ?_).mono ?_
          · have h1 := congrArg List.length (wrA_split HX.out.1)
            have h2 := hl1l.out
            have h3 : body.length = (wrA true (treeL sub)).length := by rw [HY.out.2.2.2]; rfl
            simp only [List.length_append] at h1 ⊢
            omega
          rintro e w3 ⟨rfl, hbd3, hb3, hok3⟩
          have g3 := ok_cells hok3 g1 (by omega) (by decide)
          have x0 := block_cell g3 0 _ rfl
          have x1 := block_cell g3 1 _ rfl
          have x2 := block_cell g3 2 _ rfl
          have x3 := block_cell g3 3 _ rfl
          have x4 := block_cell g3 4 _ rfl
          have x5 := block_cell g3 5 _ rfl
          have H3 := Lib.hid (And.intro hbd3 (And.intro (hbe1.trans hb3) (hok1.trans hok3)))
          clear hbd3 hb3 hok3 hbd1 hbe1 hok1 g1 g3 d0 d1 d2 d3 d4 d5
          go_wp2_with fail
          refine at_world ?_
          intro W hW
          have hW2 := one_kinds (ks := [4]) hW
          clear hW
          have hbdW := Bd.below H3.out.1 hW2.1
          have hbW : Below b w W := H3.out.2.1.trans (hW2.1.mono (Nat.le_of_lt (Bd.lt H3.out.1)))
          have hokW := H3.out.2.2.trans (hW2.2.2.any b)
          refine Calls.mono (HX.out.2.1 w0 W b (l1 ++ wrA true ((treeL sub).take j) ++ [124]) [4] _ _ (HY.out.1.next hbW) (HX.out.2.2.chg (fun q hq _ => hbW.block q hq) hbW.size (fun _ h _ => h)) hbdW hW2.2.1 (by decide) HXS.out ?_) ?_
          · have h1 := congrArg List.length (wrA_split HX.out.1)
            have h2 := hl1l.out
            have h3 : body.length = (wrA true (treeL sub)).length := by rw [HY.out.2.2.2]; rfl
            rw [if_neg hj0] at h1
            simp only [List.length_append, List.length_cons, List.length_nil] at h1 ⊢
            omega
          rintro e w5 ⟨rfl, hbd5, hb5, hok5⟩
          have H5 := Lib.hid (And.intro hbd5 (And.intro (hbW.trans hb5) (hokW.trans hok5)))
          clear hbd5 hb5 hok5 hbW hokW hbdW hW2
          clear x0 x1 x2 x3 x4 x5
          go_wp2_with fail
          go_roundg (n - (j + 1))
          case measure => omega
          case rel => exact ⟨j + 1, hlt, rfl, by simp, by show Bd _ _ (l1 ++ wrA true ((treeL sub).take (j + 1))); rw [wrA_snoc HX.out.1, if_neg hj0, ← List.append_assoc, ← List.append_assoc]; exact H5.out.1, H5.out.2.1, H5.out.2.2⟩
      · obtain rfl : j = n := by omega
        have hfin : Hid (wrA true ((treeL sub).take j) = body) := Lib.hid (by
          rw [HY.out.2.2.2, List.take_of_length_le (by rw [treeL_len]; have := HN.out.1; omega)]
          rfl)
        go_wp2_with fail
        exact HD.out wA (by rw [← hfin.out]; exact HJ.out.1) HJ.out.2.1 HJ.out.2.2 _
set_option maxHeartbeats 8000000 in
theorem write_rep (y : L) (hk : kindL y = 5) (ih : ∀ x, x ∈ subsL y → WrH x) : WrH y := by
  intro w0 w b l ks a nc hc hrd hbd hks hkl hsh hlen
  obtain ⟨k, sa, sc, s, mn, mx, lz, na, nc', sub⟩ := y
  obtain rfl : k = 5 := hk
  rw [show (L.mk 5 sa sc s mn mx lz na nc' sub).tree = .mk 5 s mn mx lz (treeL sub) from rfl] at hsh hlen ⊢
  rw [wr_mk] at hlen ⊢
  obtain ⟨body, hbody⟩ : ∃ q, q = wr [] (T.mk 5 s mn mx lz (treeL sub)) := ⟨_, rfl⟩
  rw [← hbody] at hlen ⊢
  have HY := Lib.hid (And.intro hc (And.intro hrd (And.intro hsh hbody)))
  change ∀ x, x ∈ sub → WrH x at ih
  obtain ⟨hn0, hP0, hsub0, hnl0⟩ : Hid (RdF w na (nFlat sub)) ∧ Hid (∀ q, sa = some q ∨ na = some q → q.block < b) ∧ Hid (∀ x, x ∈ sub → RdT (fun q => q < b) w x) ∧ Hid (sub.length ≤ 1000000000) := by cases hrd with | mk hk hmn hmx hs hsl hn hnl hnb hP sub => exact ⟨Lib.hid hn, Lib.hid hP, Lib.hid sub, Lib.hid hnl⟩
  have hsh0 : Hid (∀ t ∈ treeL sub, (look t).shaped = true) := Lib.hid (by
    rw [look_shaped, Bool.and_eq_true] at hsh
    exact List.all_eq_true.1 hsh.2)
  have hlen1 : Hid (sub.length = 1) := Lib.hid (by
    rw [look_shaped, Bool.and_eq_true, treeL_len] at hsh
    rcases shapedN_cases hsh.1 with h | h | h | h | h | h
    all_goals first | exact h.2.2.2.2 | exact h.2.2.2.2.2 | exact absurd h.1 (by decide))
  have hnum : (0 ≤ mn ∧ mn ≤ 1000) ∧ (mx = -1 ∨ (mn ≤ mx ∧ mx ≤ 1000)) := by
    rw [look_shaped, Bool.and_eq_true, treeL_len] at hsh
    rcases shapedN_cases hsh.1 with h | h | h | h | h | h
    all_goals first | exact ⟨h.2.2.1, h.2.2.2.1⟩ | exact absurd h.1 (by decide)
  have hbl : l.length + body.length ≤ 100000000000000 := by
    refine Nat.le_trans ?_ hlen
    unfold brk
    split
    · simp; omega
    · exact Nat.le_refl _
  have HL := Lib.hid (And.intro hbl hlen)
  obtain ⟨n, hn⟩ : ∃ q, q = sub.length := ⟨_, rfl⟩
  obtain ⟨m, hm⟩ : ∃ q, q = s.length := ⟨_, rfl⟩
  obtain ⟨kn, hkn⟩ : ∃ q, q = ks.length := ⟨_, rfl⟩
  rw [val_mk, ← hn, ← hm, ← hkn]
  have HN := Lib.hid (And.intro hn (And.intro hm hkn))
  have hb0 : b < w.heap.size := hbd.lt
  have HKC : Hid (∀ W, Below w.heap.size w W → Calls Tryz.prog 75 #[.slice a kn nc, .int .u8 5] W fun e w' => e = .returned (.bool (decide ((5 : Int) ∈ ks))) ∧ w' = W) := Lib.hid (fun W hb => by rw [hkn]; exact kinds_calls a ks nc 5 W (hks.below hb) hkl)
  have HB := Lib.hid hbd
  clear hc hrd hsh hbody hbl hn hm hkn hks hkl hbd
  go_enter_defers Tryz.func49, Tryz.ntmps49
  go_wp2_with fail
  refine at_world ?_
  intro W hW
  have hbW : Below w.heap.size w W := by rw [hW]; exact (Below.refl _ _).alloc (Nat.le_refl _) _
  have g2 : W.heap[w.heap.size]? = some (.cells #[.int .u8 5, .slice sa m sc, .int .i64 mn, .int .i64 mx, .bool lz, .slice na n nc'] 27 (0, 0)) := by rw [hW]; exact heap_alloc_new w _
  have hokW : Lib.OthersKept 5 (some b) w W := by rw [hW]; exact (Lib.OthersKept.refl _ _ w).alloc _
  clear hW
  refine (HKC.out W hbW).mono ?_
  rintro e w1 ⟨rfl, rfl⟩
  obtain ⟨wB, hwB⟩ : ∃ q, q = w1 := ⟨_, rfl⟩
  subst hwB
  have hwlt : w.heap.size < wB.heap.size := (isT_of g2).lt
  have hbdW := HB.out.below hbW
  by_cases hkk : (5 : Int) ∈ ks
  case' pos =>
    have HD := Lib.hid (show Door b l (brk (decide ((5 : Int) ∈ ks)) body) body (l ++ [40, 63, 58]) [{ target := Target.fn (Fn.func 56) #[], args := #[.pointer (some ⟨b, 0, none⟩), .string ⟨#[41]⟩] }] w by
      have h2 := HL.out.2
      rw [decide_eq_true hkk] at h2 ⊢
      exact door_brk (by simp [brk] at h2; omega))
    obtain ⟨l1, hl1⟩ : ∃ q, q = l ++ [40, 63, 58] := ⟨_, rfl⟩
    have hl1l : Hid (l1.length + body.length ≤ 100000000000000) := Lib.hid (by
      have h2 := HL.out.2
      rw [decide_eq_true hkk] at h2
      rw [hl1]; simp [brk] at h2 ⊢; omega)
    rw [← hl1] at HD
    have HKK := Lib.hid hkk
    have hd : decide ((5 : Int) ∈ ks) = true := decide_eq_true hkk
    rw [hd]
    clear hkk hd hlen
    go_wp2_with fail
    go_at_call 56
    refine (wsG_calls b l [40, 63, 58] wB hbdW (by have := HL.out.1; omega) (by simp)).mono ?_
    rintro e w2 ⟨v, rfl, hbd2, hb2, hok2⟩
    rw [← hl1] at hbd2
    have g3 := ok_cells hok2 g2 (by omega) (by decide)
    have HS := Lib.hid (And.intro hbd2 (And.intro ((hbW.mono (Nat.le_of_lt hb0)).trans hb2) (hokW.trans hok2)))
    have hlt2 : w.heap.size < w2.heap.size := (isT_of g3).lt
    clear hbd2 hb2 hok2 hl1 g2 hbW hbdW hokW hwlt
  case' neg =>
    obtain ⟨l1, hl1⟩ : ∃ q, q = l := ⟨_, rfl⟩
    have HD := Lib.hid (show Door b l (brk (decide ((5 : Int) ∈ ks)) body) body l1 [] w by
      rw [decide_eq_false hkk, hl1]
      exact door_none)
    have hl1l : Hid (l1.length + body.length ≤ 100000000000000) := Lib.hid (by rw [hl1]; exact HL.out.1)
    have HKK := Lib.hid hkk
    have hd : decide ((5 : Int) ∈ ks) = false := decide_eq_false hkk
    rw [hd]
    rw [← hl1] at hbdW
    clear hkk hd hlen
    obtain ⟨w2, hw2⟩ : ∃ q, q = wB := ⟨_, rfl⟩
    subst hw2
    have g3 := g2
    have HS := Lib.hid (And.intro hbdW (And.intro (hbW.mono (Nat.le_of_lt hb0)) hokW))
    have hlt2 : w.heap.size < w2.heap.size := (isT_of g3).lt
    clear hl1 g2 hbW hbdW hokW hwlt
  all_goals
    have c0 : w2.cell? ⟨w.heap.size, 0, none⟩ = some (.int .u8 5) := block_cell g3 0 _ rfl
    have c1 : w2.cell? ⟨w.heap.size, 1, none⟩ = some (.slice sa m sc) := block_cell g3 1 _ rfl
    have c2 : w2.cell? ⟨w.heap.size, 2, none⟩ = some (.int .i64 mn) := block_cell g3 2 _ rfl
    have c3 : w2.cell? ⟨w.heap.size, 3, none⟩ = some (.int .i64 mx) := block_cell g3 3 _ rfl
    have c4 : w2.cell? ⟨w.heap.size, 4, none⟩ = some (.bool lz) := block_cell g3 4 _ rfl
    have c5 : w2.cell? ⟨w.heap.size, 5, none⟩ = some (.slice na n nc') := block_cell g3 5 _ rfl
    have HG := Lib.hid g3
    clear g3
    obtain ⟨x, rfl⟩ : ∃ x, sub = [x] := by
      match sub, hlen1.out with
      | [x], _ => exact ⟨x, rfl⟩
    have hxt : (treeL [x])[0]? = some x.tree := rfl
    have HX := Lib.hid (And.intro hxt (And.intro (ih x (by simp)) (hsub0.out x (by simp))))
    have HXS := Lib.hid (hsh0.out x.tree (by simp [treeL]))
    clear hxt
    obtain ⟨bx, off, rfl, hbx, hcell⟩ := RdF.nat (i := 0) (RdF.chg hn0.out (fun q e _ => HS.out.2.1.block q.block (hP0.out q (.inr e))) HS.out.2.1.size) (show [x][0]? = some x from rfl)
    obtain ⟨kx, sax, scx, sx, mnx, mxx, lzx, nax, ncx, lx⟩ := x
    have d0 := hcell 0 _ rfl
    have d1 := hcell 1 _ rfl
    have d2 := hcell 2 _ rfl
    have d3 := hcell 3 _ rfl
    have d4 := hcell 4 _ rfl
    have d5 := hcell 5 _ rfl
    simp only [Nat.zero_mul, Nat.add_zero] at d0 d1 d2 d3 d4 d5
    obtain rfl : n = 1 := HN.out.1
    clear hcell
    go_wp2_with fail
    refine at_world ?_
    intro W hW
    have g4 : W.heap[w.heap.size]? = some (.cells #[.int .u8 5, .slice sa m sc, .int .i64 mn, .int .i64 mx, .bool lz, .slice (some ⟨bx, off, none⟩) 1 nc'] 27 (0, 0)) := by rw [hW]; exact (((Below.refl w2.heap.size w2).alloc (Nat.le_refl _) _).block _ hlt2).trans HG.out
    have hW2 := one_kinds (ks := [1, 3, 4, 5]) hW
    clear hW
    have hbdW := Bd.below HS.out.1 hW2.1
    have hbW : Below b w W := HS.out.2.1.trans (hW2.1.mono (Nat.le_of_lt (Bd.lt HS.out.1)))
    have hokW := HS.out.2.2.trans (hW2.2.2.any b)
    refine Calls.mono (HX.out.2.1 w0 W b (l1) [1, 3, 4, 5] _ _ (HY.out.1.next hbW) (HX.out.2.2.chg (fun q hq _ => hbW.block q hq) hbW.size (fun _ h _ => h)) hbdW hW2.2.1 (by decide) HXS.out ?_) ?_
    · have h2 := hl1l.out
      have h3 : body.length = (wr [1, 3, 4, 5] (L.mk kx sax scx sx mnx mxx lzx nax ncx lx).tree).length + (quantT mn mx).length + (if lz then [63] else ([] : B)).length := by rw [HY.out.2.2.2, wr5]; simp only [List.length_append]
      omega
    rintro e w5 ⟨rfl, hbd5, hb5, hok5⟩
    have g5 := ok_cells hok5 g4 (by omega) (by decide)
    have H5 := Lib.hid (And.intro hbd5 (And.intro (hbW.trans hb5) (hokW.trans hok5)))
    clear hbd5 hb5 hok5 hbW hokW hbdW hW2
    have y0 := block_cell g5 0 _ rfl
    have y1 := block_cell g5 1 _ rfl
    have y2 := block_cell g5 2 _ rfl
    have y3 := block_cell g5 3 _ rfl
    have y4 := block_cell g5 4 _ rfl
    have y5 := block_cell g5 5 _ rfl
    have G5 := Lib.hid g5
    have hlt5 : w.heap.size < w5.heap.size := (isT_of g5).lt
    clear g4 g5 d0 d1 d2 d3 d4 d5 c0 c1 c2 c3 c4 c5
    have hbody : body = wr [1, 3, 4, 5] (L.mk kx sax scx sx mnx mxx lzx nax ncx lx).tree ++ quantT mn mx ++ (if lz then [63] else []) := by rw [HY.out.2.2.2, wr5]
    have HBO := Lib.hid hbody
    clear hbody
    obtain ⟨u, hu⟩ : ∃ q, q = wr [1, 3, 4, 5] (L.mk kx sax scx sx mnx mxx lzx nax ncx lx).tree := ⟨_, rfl⟩
    rw [← hu] at H5 HBO
    clear hu
    have HQ := Lib.hid (quantified_calls mn mx (by unfold i64; omega) (by unfold i64; omega) w5 (HY.out.1.next H5.out.2.1).vss)
    have hql : (quantT mn mx).length ≤ 50 := quantT_le (by unfold i64; omega) (by unfold i64; omega)
    have hul : Hid (l1.length + u.length + (quantT mn mx).length ≤ 100000000000000) := Lib.hid (by
      have h2 := hl1l.out
      rw [HBO.out] at h2
      simp only [List.length_append] at h2
      omega)
    go_wp2_with fail
    go_at_call 78
    refine HQ.out.mono ?_
    rintro e w6 ⟨rfl, hb6⟩
    have hbd6 := Bd.below H5.out.1 hb6
    have g6 := (hb6.block _ hlt5).trans G5.out
    have hbe6 : Below b w w6 := H5.out.2.1.trans (hb6.mono (Nat.le_of_lt (Bd.lt H5.out.1)))
    have hok6 := H5.out.2.2.trans (ok_below (e := 5) (q := some b) hb6)
    clear hb6 y0 y1 y2 y3 y4 y5
    go_wp2_with fail
    go_at_call 56
    refine (wsG_calls b (l1 ++ u) (quantT mn mx) w6 hbd6 (by have := hul.out; rw [List.length_append]; omega) (by omega)).mono ?_
    rintro e w7 ⟨v, rfl, hbd7, hb7, hok7⟩
    have g7 := ok_cells hok7 g6 (by omega) (by decide)
    have y0 := block_cell g7 0 _ rfl
    have y1 := block_cell g7 1 _ rfl
    have y2 := block_cell g7 2 _ rfl
    have y3 := block_cell g7 3 _ rfl
    have y4 := block_cell g7 4 _ rfl
    have y5 := block_cell g7 5 _ rfl
    have H7 := Lib.hid (And.intro hbd7 (And.intro (hbe6.trans hb7) (hok6.trans hok7)))
    clear hbd6 hbe6 hok6 g6 g7 hbd7 hb7 hok7
    cases lz with
    | false =>
      go_wp2_with fail
      exact HD.out w7 (by rw [HBO.out]; simpa [List.append_assoc] using H7.out.1) H7.out.2.1 H7.out.2.2 _
    | true =>
      go_wp2_with fail
      go_at_call 77
      refine (wbG_calls b (l1 ++ u ++ quantT mn mx) 63 w7 H7.out.1 (by have := hul.out; rw [List.length_append, List.length_append]; omega)).mono ?_
      rintro e w8 ⟨rfl, hbd8, hb8, hok8⟩
      have H8 := Lib.hid (And.intro hbd8 (And.intro (H7.out.2.1.trans hb8) (H7.out.2.2.trans hok8)))
      clear hbd8 hb8 hok8
      go_wp2_with fail
      exact HD.out w8 (by rw [HBO.out]; simpa [List.append_assoc] using H8.out.1) H8.out.2.1 H8.out.2.2 _
set_option maxHeartbeats 8000000 in
theorem write_grp (y : L) (hk : kindL y = 6) (ih : ∀ x, x ∈ subsL y → WrH x) : WrH y := by
  intro w0 w b l ks a nc hc hrd hbd hks hkl hsh hlen
  obtain ⟨k, sa, sc, s, mn, mx, lz, na, nc', sub⟩ := y
  obtain rfl : k = 6 := hk
  rw [show (L.mk 6 sa sc s mn mx lz na nc' sub).tree = .mk 6 s mn mx lz (treeL sub) from rfl] at hsh hlen ⊢
  rw [wr_mk] at hlen ⊢
  obtain ⟨body, hbody⟩ : ∃ q, q = wr [] (T.mk 6 s mn mx lz (treeL sub)) := ⟨_, rfl⟩
  rw [← hbody] at hlen ⊢
  have HY := Lib.hid (And.intro hc (And.intro hrd (And.intro hsh hbody)))
  change ∀ x, x ∈ sub → WrH x at ih
  obtain ⟨hn0, hP0, hsub0, hnl0⟩ : Hid (RdF w na (nFlat sub)) ∧ Hid (∀ q, sa = some q ∨ na = some q → q.block < b) ∧ Hid (∀ x, x ∈ sub → RdT (fun q => q < b) w x) ∧ Hid (sub.length ≤ 1000000000) := by cases hrd with | mk hk hmn hmx hs hsl hn hnl hnb hP sub => exact ⟨Lib.hid hn, Lib.hid hP, Lib.hid sub, Lib.hid hnl⟩
  have hsh0 : Hid (∀ t ∈ treeL sub, (look t).shaped = true) := Lib.hid (by
    rw [look_shaped, Bool.and_eq_true] at hsh
    exact List.all_eq_true.1 hsh.2)
  have hlen1 : Hid (sub.length = 1) := Lib.hid (by
    rw [look_shaped, Bool.and_eq_true, treeL_len] at hsh
    rcases shapedN_cases hsh.1 with h | h | h | h | h | h
    all_goals first | exact h.2.2.2.2 | exact h.2.2.2.2.2 | exact absurd h.1 (by decide))
  have hbl : l.length + body.length ≤ 100000000000000 := by
    refine Nat.le_trans ?_ hlen
    unfold brk
    split
    · simp; omega
    · exact Nat.le_refl _
  have HL := Lib.hid (And.intro hbl hlen)
  obtain ⟨n, hn⟩ : ∃ q, q = sub.length := ⟨_, rfl⟩
  obtain ⟨m, hm⟩ : ∃ q, q = s.length := ⟨_, rfl⟩
  obtain ⟨kn, hkn⟩ : ∃ q, q = ks.length := ⟨_, rfl⟩
  rw [val_mk, ← hn, ← hm, ← hkn]
  have HN := Lib.hid (And.intro hn (And.intro hm hkn))
  have hb0 : b < w.heap.size := hbd.lt
  have HKC : Hid (∀ W, Below w.heap.size w W → Calls Tryz.prog 75 #[.slice a kn nc, .int .u8 6] W fun e w' => e = .returned (.bool (decide ((6 : Int) ∈ ks))) ∧ w' = W) := Lib.hid (fun W hb => by rw [hkn]; exact kinds_calls a ks nc 6 W (hks.below hb) hkl)
  have HB := Lib.hid hbd
  clear hc hrd hsh hbody hbl hn hm hkn hks hkl hbd
  go_enter_defers Tryz.func49, Tryz.ntmps49
  go_wp2_with fail
  refine at_world ?_
  intro W hW
  have hbW : Below w.heap.size w W := by rw [hW]; exact (Below.refl _ _).alloc (Nat.le_refl _) _
  have g2 : W.heap[w.heap.size]? = some (.cells #[.int .u8 6, .slice sa m sc, .int .i64 mn, .int .i64 mx, .bool lz, .slice na n nc'] 27 (0, 0)) := by rw [hW]; exact heap_alloc_new w _
  have hokW : Lib.OthersKept 5 (some b) w W := by rw [hW]; exact (Lib.OthersKept.refl _ _ w).alloc _
  clear hW
  refine (HKC.out W hbW).mono ?_
  rintro e w1 ⟨rfl, rfl⟩
  obtain ⟨wB, hwB⟩ : ∃ q, q = w1 := ⟨_, rfl⟩
  subst hwB
  have hwlt : w.heap.size < wB.heap.size := (isT_of g2).lt
  have hbdW := HB.out.below hbW
  by_cases hkk : (6 : Int) ∈ ks
  case' pos =>
    have HD := Lib.hid (show Door b l (brk (decide ((6 : Int) ∈ ks)) body) body (l ++ [40, 63, 58]) [{ target := Target.fn (Fn.func 56) #[], args := #[.pointer (some ⟨b, 0, none⟩), .string ⟨#[41]⟩] }] w by
      have h2 := HL.out.2
      rw [decide_eq_true hkk] at h2 ⊢
      exact door_brk (by simp [brk] at h2; omega))
    obtain ⟨l1, hl1⟩ : ∃ q, q = l ++ [40, 63, 58] := ⟨_, rfl⟩
    have hl1l : Hid (l1.length + body.length ≤ 100000000000000) := Lib.hid (by
      have h2 := HL.out.2
      rw [decide_eq_true hkk] at h2
      rw [hl1]; simp [brk] at h2 ⊢; omega)
    rw [← hl1] at HD
    have HKK := Lib.hid hkk
    have hd : decide ((6 : Int) ∈ ks) = true := decide_eq_true hkk
    rw [hd]
    clear hkk hd hlen
    go_wp2_with fail
    go_at_call 56
    refine (wsG_calls b l [40, 63, 58] wB hbdW (by have := HL.out.1; omega) (by simp)).mono ?_
    rintro e w2 ⟨v, rfl, hbd2, hb2, hok2⟩
    rw [← hl1] at hbd2
    have g3 := ok_cells hok2 g2 (by omega) (by decide)
    have HS := Lib.hid (And.intro hbd2 (And.intro ((hbW.mono (Nat.le_of_lt hb0)).trans hb2) (hokW.trans hok2)))
    have hlt2 : w.heap.size < w2.heap.size := (isT_of g3).lt
    clear hbd2 hb2 hok2 hl1 g2 hbW hbdW hokW hwlt
  case' neg =>
    obtain ⟨l1, hl1⟩ : ∃ q, q = l := ⟨_, rfl⟩
    have HD := Lib.hid (show Door b l (brk (decide ((6 : Int) ∈ ks)) body) body l1 [] w by
      rw [decide_eq_false hkk, hl1]
      exact door_none)
    have hl1l : Hid (l1.length + body.length ≤ 100000000000000) := Lib.hid (by rw [hl1]; exact HL.out.1)
    have HKK := Lib.hid hkk
    have hd : decide ((6 : Int) ∈ ks) = false := decide_eq_false hkk
    rw [hd]
    rw [← hl1] at hbdW
    clear hkk hd hlen
    obtain ⟨w2, hw2⟩ : ∃ q, q = wB := ⟨_, rfl⟩
    subst hw2
    have g3 := g2
    have HS := Lib.hid (And.intro hbdW (And.intro (hbW.mono (Nat.le_of_lt hb0)) hokW))
    have hlt2 : w.heap.size < w2.heap.size := (isT_of g3).lt
    clear hl1 g2 hbW hbdW hokW hwlt
  all_goals
    have c0 : w2.cell? ⟨w.heap.size, 0, none⟩ = some (.int .u8 6) := block_cell g3 0 _ rfl
    have c1 : w2.cell? ⟨w.heap.size, 1, none⟩ = some (.slice sa m sc) := block_cell g3 1 _ rfl
    have c2 : w2.cell? ⟨w.heap.size, 2, none⟩ = some (.int .i64 mn) := block_cell g3 2 _ rfl
    have c3 : w2.cell? ⟨w.heap.size, 3, none⟩ = some (.int .i64 mx) := block_cell g3 3 _ rfl
    have c4 : w2.cell? ⟨w.heap.size, 4, none⟩ = some (.bool lz) := block_cell g3 4 _ rfl
    have c5 : w2.cell? ⟨w.heap.size, 5, none⟩ = some (.slice na n nc') := block_cell g3 5 _ rfl
    have HG := Lib.hid g3
    clear g3
    obtain ⟨x, rfl⟩ : ∃ x, sub = [x] := by
      match sub, hlen1.out with
      | [x], _ => exact ⟨x, rfl⟩
    have hxt : (treeL [x])[0]? = some x.tree := rfl
    have HX := Lib.hid (And.intro hxt (And.intro (ih x (by simp)) (hsub0.out x (by simp))))
    have HXS := Lib.hid (hsh0.out x.tree (by simp [treeL]))
    clear hxt
    go_wp2_with fail
    go_at_call 77
    refine (wbG_calls b l1 40 w2 HS.out.1 (by have := hl1l.out; omega)).mono ?_
    rintro e w3 ⟨rfl, hbd3, hb3, hok3⟩
    have g3 := ok_cells hok3 HG.out (by omega) (by decide)
    have y0 := block_cell g3 0 _ rfl
    have y1 := block_cell g3 1 _ rfl
    have y2 := block_cell g3 2 _ rfl
    have y3 := block_cell g3 3 _ rfl
    have y4 := block_cell g3 4 _ rfl
    have y5 := block_cell g3 5 _ rfl
    have H3 := Lib.hid (And.intro hbd3 (And.intro (HS.out.2.1.trans hb3) (HS.out.2.2.trans hok3)))
    clear hbd3 hb3 hok3 g3 c0 c1 c2 c3 c4 c5
    obtain ⟨bx, off, rfl, hbx, hcell⟩ := RdF.nat (i := 0) (RdF.chg hn0.out (fun q e _ => H3.out.2.1.block q.block (hP0.out q (.inr e))) H3.out.2.1.size) (show [x][0]? = some x from rfl)
    obtain ⟨kx, sax, scx, sx, mnx, mxx, lzx, nax, ncx, lx⟩ := x
    have d0 := hcell 0 _ rfl
    have d1 := hcell 1 _ rfl
    have d2 := hcell 2 _ rfl
    have d3 := hcell 3 _ rfl
    have d4 := hcell 4 _ rfl
    have d5 := hcell 5 _ rfl
    simp only [Nat.zero_mul, Nat.add_zero] at d0 d1 d2 d3 d4 d5
    obtain rfl : n = 1 := HN.out.1
    clear hcell
    have hbody : body = [40] ++ wr [] (L.mk kx sax scx sx mnx mxx lzx nax ncx lx).tree ++ [41] := by rw [HY.out.2.2.2, wr6]
    have HBO := Lib.hid hbody
    clear hbody
    have hbl2 : Hid (l1.length + (wr [] (L.mk kx sax scx sx mnx mxx lzx nax ncx lx).tree).length + 2 ≤ 100000000000000) := Lib.hid (by
      have h2 := hl1l.out
      rw [HBO.out] at h2
      simp only [List.length_append, List.length_cons, List.length_nil] at h2
      omega)
    go_wp2_with fail
    go_at_call 49
    refine Calls.mono (HX.out.2.1 w0 w3 b (l1 ++ [40]) [] none 0 (HY.out.1.next H3.out.2.1) (HX.out.2.2.chg (fun q hq _ => H3.out.2.1.block q hq) H3.out.2.1.size (fun _ h _ => h)) H3.out.1 (RdF.nil _ _) (by decide) HXS.out (by have := hbl2.out; rw [List.length_append]; simp; omega)) ?_
    rintro e w5 ⟨rfl, hbd5, hb5, hok5⟩
    have H5 := Lib.hid (And.intro hbd5 (And.intro (H3.out.2.1.trans hb5) (H3.out.2.2.trans hok5)))
    clear hbd5 hb5 hok5 d0 d1 d2 d3 d4 d5 y0 y1 y2 y3 y4 y5
    go_wp2_with fail
    go_at_call 77
    refine (wbG_calls b (l1 ++ [40] ++ wr [] (L.mk kx sax scx sx mnx mxx lzx nax ncx lx).tree) 41 w5 H5.out.1 (by have := hbl2.out; simp only [List.length_append, List.length_cons, List.length_nil]; omega)).mono ?_
    rintro e w8 ⟨rfl, hbd8, hb8, hok8⟩
    have H8 := Lib.hid (And.intro hbd8 (And.intro (H5.out.2.1.trans hb8) (H5.out.2.2.trans hok8)))
    clear hbd8 hb8 hok8
    go_wp2_with fail
    exact HD.out w8 (by rw [HBO.out]; simpa [List.append_assoc] using H8.out.1) H8.out.2.1 H8.out.2.2 _
theorem write_all : ∀ y : L, WrH y := by
  intro y
  induction y using L.ind with
  | _ k sa sc s mn mx lz na nc l ih =>
    intro w0 w b ls ks a nc' h1 h2 h3 h4 h5 hsh h7
    have hsh' : (look (.mk k s mn mx lz (treeL l))).shaped = true := hsh
    rw [look_shaped, Bool.and_eq_true] at hsh'
    rcases shapedN_cases hsh'.1 with ⟨rfl, _⟩ | ⟨rfl, _⟩ | ⟨rfl, _⟩ | ⟨rfl, _⟩ | ⟨rfl, _⟩ | ⟨rfl, _⟩
    · exact write_empty _ rfl w0 w b ls ks a nc' h1 h2 h3 h4 h5 hsh h7
    · exact write_set _ rfl w0 w b ls ks a nc' h1 h2 h3 h4 h5 hsh h7
    · exact write_cat (.mk 3 sa sc s mn mx lz na nc l) rfl ih w0 w b ls ks a nc' h1 h2 h3 h4 h5 hsh h7
    · exact write_alt (.mk 4 sa sc s mn mx lz na nc l) rfl ih w0 w b ls ks a nc' h1 h2 h3 h4 h5 hsh h7
    · exact write_rep (.mk 5 sa sc s mn mx lz na nc l) rfl ih w0 w b ls ks a nc' h1 h2 h3 h4 h5 hsh h7
    · exact write_grp (.mk 6 sa sc s mn mx lz na nc l) rfl ih w0 w b ls ks a nc' h1 h2 h3 h4 h5 hsh h7
end Go.Proofs.YtimahlimmblgkaaGreatDoor.Sy
