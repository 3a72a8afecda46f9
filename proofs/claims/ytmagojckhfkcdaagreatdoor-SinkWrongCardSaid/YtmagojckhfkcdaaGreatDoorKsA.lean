/- Several parts in one text: KsA, KsB. -/
import Derived.Test.YtmagojckhfkcdaaGreatDoorKaA
import Derived.Outline
/- Chapter 38's sink as it lies in memory. -/
namespace Go.Proofs.YtmagojckhfkcdaaGreatDoor.Sk
open Go Go.RowKit
/-- labels behind an address: nil only if there are none -/
structure Ll (w : World) (a : Option Addr) (cap : Nat) (l : List Lab) : Prop where
  rd : RdL w a l
  nil : a = none → l = [] ∧ cap = 0
  ty : l ≠ [] → ∀ q, a = some q → isT w q.block 66
theorem Ll.fr {X : Nat → Prop} {w w' : World} {a : Option Addr} {cap : Nat} {l : List Lab} (h : Ll w a cap l) (hf : Fr X w w') (hx : ∀ b, isT w b 66 → ¬ X b) : Ll w' a cap l :=
  ⟨h.rd.fr hf (fun hl q e => hx _ (h.ty hl q e)), h.nil, fun hl q e => hf.isT (h.ty hl q e) (hx _ (h.ty hl q e))⟩
theorem Ll.below {B : Nat} {w w' : World} {a : Option Addr} {cap : Nat} {l : List Lab} (h : Ll w a cap l) (hb : Below B w w') (hB : w.heap.size ≤ B) : Ll w' a cap l :=
  h.fr (Fr.of_below hb) (fun b ht hx => by
    have h1 := ht.lt
    have hx : B ≤ b := hx
    omega)
theorem Ll.of_own {w : World} {base n cap : Nat} {a : Option Addr} {l : List Lab} (h : w.ownsRow base 66 2 (.slice a n cap) l.length (lFlat l)) : Ll w a cap l := by
  refine ⟨RdL.of_own h, fun e => ?_, fun _ q e => ?_⟩
  · subst e
    rcases h.2 with ⟨hv, h0⟩ | ⟨g, cap', cur, hv, _⟩
    · injection hv with _ _ hc
      exact ⟨List.eq_nil_of_length_eq_zero h0, hc⟩
    · cases hv
  · subst e
    rcases h.2 with ⟨hv, h0⟩ | ⟨g, cap', cur, hv, _, hg, _⟩
    · cases hv
    · cases hv
      exact ⟨cur, (0, 0), hg⟩
/-- an entry with the place of its labels -/
structure SE where
  la : Option Addr
  lc : Nat
  e : Ent
def eB (x : SE) : List Value := [.slice x.la x.e.lab.length x.lc, .bool x.e.mark, .int .u64 x.e.bits, .bool x.e.st, .int .i64 x.e.time, .int .i64 x.e.stamp]
def eFlat (l : List SE) : List Value := l.flatMap eB
/-- an item with the place of its labels -/
structure SI where
  key : ByteArray
  la : Option Addr
  lc : Nat
  e : Ent
def iB (x : SI) : List Value := [.string x.key, .slice x.la x.e.lab.length x.lc, .bool x.e.mark, .int .u64 x.e.bits, .bool x.e.st, .int .i64 x.e.time, .int .i64 x.e.stamp]
def iFlat (l : List SI) : List Value := l.flatMap iB
def SI.it (x : SI) : It := ⟨x.key, x.e⟩
theorem iFlat_append (l m : List SI) : iFlat (l ++ m) = iFlat l ++ iFlat m := by simp [iFlat]
theorem flat_len {α : Type} (f : α → List Value) (n : Nat) (h : ∀ x, (f x).length = n) : ∀ l : List α, (l.flatMap f).length = l.length * n
  | [] => by simp
  | x :: l => by
    simp only [List.flatMap_cons, List.length_append, h, flat_len f n h l, List.length_cons, Nat.add_mul]
    omega
theorem flat_at {α : Type} (f : α → List Value) (n : Nat) (h : ∀ x, (f x).length = n) : ∀ {l : List α} {i j : Nat} {x : α} {v : Value}, l[i]? = some x → (f x)[j]? = some v → (l.flatMap f)[i * n + j]? = some v
  | [], i, _, _, _, hi, _ => by simp at hi
  | y :: l, 0, j, x, v, hi, hj => by
    simp at hi
    subst hi
    rw [List.flatMap_cons, Nat.zero_mul, Nat.zero_add, List.getElem?_append_left (List.getElem?_eq_some_iff.1 hj).1]
    exact hj
  | y :: l, i + 1, j, x, v, hi, hj => by
    have ih := flat_at f n h (l := l) (i := i) (j := j) (by simpa using hi) hj
    rw [List.flatMap_cons, List.getElem?_append_right (by rw [h, Nat.add_mul]; omega), h, show (i + 1) * n + j - n = i * n + j by rw [Nat.add_mul]; omega]
    exact ih
theorem iFlat_length (l : List SI) : (iFlat l).length = l.length * 7 := flat_len iB 7 (fun _ => rfl) l
theorem eFlat_length (l : List SE) : (eFlat l).length = l.length * 6 := flat_len eB 6 (fun _ => rfl) l
/-- the slice at a reads as the entries l -/
structure RdE (w : World) (a : Option Addr) (l : List SE) : Prop where
  rd : l ≠ [] → ∃ b off, a = some ⟨b, off, none⟩ ∧ isT w b 34 ∧ ∀ j u, (eFlat l)[j]? = some u → w.cell? ⟨b, off + j, none⟩ = some u
  lab : ∀ x ∈ l, Ll w x.la x.lc x.e.lab
theorem RdE.fr {X : Nat → Prop} {w w' : World} {a : Option Addr} {l : List SE} (h : RdE w a l) (hf : Fr X w w') (hx : ∀ b, isT w b 66 ∨ isT w b 34 → ¬ X b) : RdE w' a l := by
  refine ⟨fun hl => ?_, fun x hx' => (h.lab x hx').fr hf (fun b hb => hx b (.inl hb))⟩
  obtain ⟨b, off, e, ht, hc⟩ := h.rd hl
  exact ⟨b, off, e, hf.isT ht (hx b (.inr ht)), fun j u hu => (hf.cell ht.lt (hx b (.inr ht))).trans (hc j u hu)⟩
theorem RdE.below {B : Nat} {w w' : World} {a : Option Addr} {l : List SE} (h : RdE w a l) (hb : Below B w w') (hB : w.heap.size ≤ B) : RdE w' a l :=
  h.fr (Fr.of_below hb) (fun b hb' hx => by rcases hb' with h | h <;> (have := h.lt; omega))
/-- the six cells of the entry at k -/
theorem RdE.at_ {w : World} {a : Option Addr} {l : List SE} (h : RdE w a l) {k : Nat} {x : SE} (hx : l[k]? = some x) :
    ∃ b off, a = some ⟨b, off, none⟩ ∧ b < w.heap.size ∧ isT w b 34 ∧ ∀ j u, (eB x)[j]? = some u → w.cell? ⟨b, off + k * 6 + j, none⟩ = some u := by
  obtain ⟨b, off, e, ht, hc⟩ := h.rd (by intro e; subst e; simp at hx)
  refine ⟨b, off, e, ht.lt, ht, fun j u hu => ?_⟩
  rw [Nat.add_assoc]
  exact hc _ _ (flat_at eB 6 (fun _ => rfl) hx hu)
/-- the sink at p: its items, and what is known of its lines -/
structure SinkAt (w : World) (p base mb n : Nat) (v : Value) (l : List SI) : Prop where
  cells : w.heap[p]? = some (.cells #[v, .map (some mb)] 62 (0, 0))
  own : w.ownsRow base 40 7 v l.length (iFlat l)
  lab : ∀ x ∈ l, Ll w x.la x.lc x.e.lab
  map : MapIs w mb n (lastOf (l.map SI.it))
  le : n ≤ 2 * l.length
  len : l.length ≤ 65536
  ok : ∀ x ∈ l, itemRight (d x.key) x.e = true ∧ x.key.size ≤ 1100000
  bs : base ≤ w.heap.size
end Go.Proofs.YtmagojckhfkcdaaGreatDoor.Sk
/- Chapter 38's sink: New, none, copied, and the function values of Append. -/
namespace Go.Proofs.YtmagojckhfkcdaaGreatDoor.Sk
open Go Go.RowKit
theorem Fr.setCell {X : Nat → Prop} {w w' : World} (h : Fr X w w') {p : Addr} (hp : X p.block) (u : Value) : Fr X w (w'.setCell p u) :=
  ⟨h.os, h.tape, h.output, by simpa [World.setCell] using h.size, fun k hk hx => (Below.heap_setCell w' p u k (fun e => hx (by rw [e]; exact hp))).trans (h.block k hk hx)⟩
set_option maxRecDepth 100000 in
theorem new_calls (w : World) : Calls Tryz.prog 5 #[] w fun e w' => e = .returned (.pointer (some ⟨w.heap.size + 1, 0, none⟩)) ∧ SinkAt w' (w.heap.size + 1) (w.heap.size + 2) w.heap.size 0 (.slice none 0 0) [] ∧ Below w.heap.size w w' ∧ w'.heap.size = w.heap.size + 2 := by
  have hmm := @run_makeMap Tryz.prog
  go_enter Tryz.func5, Tryz.ntmps5
  go_wp2
  go_ret
  refine ⟨rfl, ⟨?_, World.ownsRow_nil _ _ _ _, (fun x hx => by cases hx), (MapIs.new w).below ((Below.refl _ _).alloc (Nat.le_refl _) _) (Nat.le_refl _), Nat.le_refl _, Nat.zero_le _, (fun x hx => by cases hx), (by simp)⟩, ((Below.refl _ _).alloc (Nat.le_refl _) _).alloc (by simp) _, by simp⟩
  have := heap_alloc_new (w.alloc (.map #[] 0)) (.cells #[.slice none 0 0, .map (some w.heap.size)] 62)
  simpa using this
set_option maxRecDepth 100000 in
theorem none_calls (w : World) {p base mb n : Nat} {v : Value} {l : List SI} (h : SinkAt w p base mb n v l) : Calls Tryz.prog 30 #[.pointer (some ⟨p, 0, none⟩)] w fun e w' => e = .returned (.bool false) ∧ w = w' := by
  have c1 : w.cell? ⟨p, 1, none⟩ = some (.map (some mb)) := by simp [World.cell?, h.cells]
  clear h
  have hq := fun wx : World => run_eql_map_nil (P := Tryz.prog) wx 60 83 80 (some mb) Tryz.underlying60
  go_enter Tryz.func30, Tryz.ntmps30
  go_wp2
  go_ret
  exact ⟨rfl, rfl⟩
set_option maxRecDepth 100000 in
/-- Append's item: a key in block B0 -/
theorem item_calls (B0 : Nat) (key : ByteArray) (x : SE) (w : World) (h0 : w.cell? ⟨B0, 0, none⟩ = some (.string key)) (hB : B0 < w.heap.size) :
    Calls Tryz.prog 31 #[.agg #[.slice x.la x.e.lab.length x.lc, .bool x.e.mark, .int .u64 x.e.bits, .bool x.e.st, .int .i64 x.e.time, .int .i64 x.e.stamp], .pointer (some ⟨B0, 0, none⟩)] w
      fun e w' => e = .returned (.agg #[.string key, .slice x.la x.e.lab.length x.lc, .bool x.e.mark, .int .u64 x.e.bits, .bool x.e.st, .int .i64 x.e.time, .int .i64 x.e.stamp]) ∧ Below w.heap.size w w' := by
  go_enter Tryz.func31, Tryz.ntmps31
  go_wp2
  refine bodyPost_ret (v := .agg #[.string key, .slice x.la x.e.lab.length x.lc, .bool x.e.mark, .int .u64 x.e.bits, .bool x.e.st, .int .i64 x.e.time, .int .i64 x.e.stamp]) (by simp [results, Tryz.results31, go_sem]) rfl ⟨rfl, ((Below.refl _ _).alloc (Nat.le_refl _) _).alloc (by simp) _⟩
set_option maxRecDepth 100000 in
theorem copied_calls (x : SI) (w : World) (h : Ll w x.la x.lc x.e.lab) (hn : x.e.lab.length ≤ 1000000000) :
    Calls Tryz.prog 35 #[.agg #[.string x.key, .slice x.la x.e.lab.length x.lc, .bool x.e.mark, .int .u64 x.e.bits, .bool x.e.st, .int .i64 x.e.time, .int .i64 x.e.stamp]] w
      fun e w' => ∃ a c, e = .returned (.agg #[.string x.key, .slice a x.e.lab.length c, .bool x.e.mark, .int .u64 x.e.bits, .bool x.e.st, .int .i64 x.e.time, .int .i64 x.e.stamp]) ∧ Ll w' a c x.e.lab ∧ Below w.heap.size w w' ∧ ∀ q, a = some q → w.heap.size ≤ q.block := by
  go_enter Tryz.func35, Tryz.ntmps35
  go_wp2_with fail
  go_at_call 65
  refine (cloneL_calls x.la x.lc x.e.lab _ (h.rd.below (((Below.refl _ _).alloc (Nat.le_refl _) _).alloc (by simp) _) (Nat.le_refl _)) h.nil hn).mono ?_
  rintro e w1 ⟨v, rfl, hown, hb1⟩
  obtain ⟨a, c, rfl⟩ := own_form hown
  have dd : ∀ i v, (#[Value.string x.key, .slice x.la x.e.lab.length x.lc, .bool x.e.mark, .int .u64 x.e.bits, .bool x.e.st, .int .i64 x.e.time, .int .i64 x.e.stamp] : Array Value)[i]? = some v → w1.cell? ⟨w.heap.size, i, none⟩ = some v := fun i v hv => by
    rw [hb1.cell (p := ⟨w.heap.size, i, none⟩) (by simp; omega), World.cell?_alloc_lt _ _ _ (by simp)]
    exact new_cell _ _ _ _ _ hv
  have dz : ∀ i v, (#[Value.string ⟨#[]⟩, .slice none 0 0, .bool false, .int .u64 0, .bool false, .int .i64 0, .int .i64 0] : Array Value)[i]? = some v → w1.cell? ⟨w.heap.size + 1, i, none⟩ = some v := fun i v hv => by
    rw [hb1.cell (p := ⟨w.heap.size + 1, i, none⟩) (by simp)]
    have := new_cell (w.alloc (.cells #[.string x.key, .slice x.la x.e.lab.length x.lc, .bool x.e.mark, .int .u64 x.e.bits, .bool x.e.st, .int .i64 x.e.time, .int .i64 x.e.stamp] 40)) _ 40 i v hv
    simpa using this
  have ff : ∀ b i, b = w.heap.size ∨ b = w.heap.size + 1 → w1.frozen? ⟨b, i, none⟩ = false := fun b i hb => by
    rw [hb1.frozen (p := ⟨b, i, none⟩) (by simp; omega)]
    rcases hb with rfl | rfl
    · rw [World.frozen?_alloc_past _ _ _ (by simp)]
      exact new_frozN _ _ _ 0 _
    · simp
  have hT : ∀ b, b = w.heap.size ∨ b = w.heap.size + 1 → isT w1 b 40 := fun b hb => by
    rcases hb with rfl | rfl
    · exact ⟨_, _, ((hb1.block _ (by simp; omega)).trans (Below.heap_alloc _ _ _ (by simp))).trans (heap_alloc_new w _)⟩
    · have := heap_alloc_new (w.alloc (.cells #[.string x.key, .slice x.la x.e.lab.length x.lc, .bool x.e.mark, .int .u64 x.e.bits, .bool x.e.st, .int .i64 x.e.time, .int .i64 x.e.stamp] 40)) (.cells #[.string ⟨#[]⟩, .slice none 0 0, .bool false, .int .u64 0, .bool false, .int .i64 0, .int .i64 0] 40)
      exact ⟨_, _, (hb1.block _ (by simp)).trans (by simpa using this)⟩
  have HT := Lib.hid hT
  have e0 := dd 0 _ rfl
  have e1 := dd 1 _ rfl
  have e2 := dd 2 _ rfl
  have e3 := dd 3 _ rfl
  have e4 := dd 4 _ rfl
  have e5 := dd 5 _ rfl
  have e6 := dd 6 _ rfl
  have z0 := dz 0 _ rfl
  have z1 := dz 1 _ rfl
  have z2 := dz 2 _ rfl
  have z3 := dz 3 _ rfl
  have z4 := dz 4 _ rfl
  have z5 := dz 5 _ rfl
  have z6 := dz 6 _ rfl
  have g1 := ff _ 1 (.inl rfl)
  have q0 := ff _ 0 (.inr rfl)
  have q1 := ff _ 1 (.inr rfl)
  have q2 := ff _ 2 (.inr rfl)
  have q3 := ff _ 3 (.inr rfl)
  have q4 := ff _ 4 (.inr rfl)
  have q5 := ff _ 5 (.inr rfl)
  have q6 := ff _ 6 (.inr rfl)
  have hz1 : w.heap.size + 1 < w1.heap.size := by have := hb1.size; simp at this; omega
  have HL := Lib.hid (Ll.of_own hown)
  have HB1 : Hid (Below w.heap.size w w1) := Lib.hid ((((Below.refl _ _).alloc (Nat.le_refl _) _).alloc (by simp) _).trans (hb1.mono (by simp; omega)))
  have HNW : Hid (∀ q, a = some q → w.heap.size ≤ q.block) := Lib.hid (fun q e => by
    rcases hown.2 with ⟨hv, h0⟩ | ⟨g, cap', cur, hv, hb, _⟩
    · rw [e] at hv; cases hv
    · rw [e] at hv; cases hv; simp at hb ⊢; omega)
  clear hown hb1 dd dz ff h hT
  go_wp2
  refine bodyPost_ret (v := .agg #[.string x.key, .slice a x.e.lab.length c, .bool x.e.mark, .int .u64 x.e.bits, .bool x.e.st, .int .i64 x.e.time, .int .i64 x.e.stamp]) (by simp [results, Tryz.results35, go_sem, z0, z1, z2, z3, z4, z5, z6]) rfl ⟨a, c, rfl, ?_, ?_, HNW.out⟩
  · refine HL.out.fr (X := fun k => k = w.heap.size ∨ k = w.heap.size + 1) ?_ (fun b hb hx => (hb.ne (HT.out b hx) (by decide)) rfl)
    iterate 8 (refine Fr.setCell ?_ (by first | exact .inl rfl | exact .inr rfl) _)
    exact Fr.refl _ _
  · iterate 8 (refine Below.setCell ?_ (by simp only; omega) _)
    exact HB1.out
end Go.Proofs.YtmagojckhfkcdaaGreatDoor.Sk
