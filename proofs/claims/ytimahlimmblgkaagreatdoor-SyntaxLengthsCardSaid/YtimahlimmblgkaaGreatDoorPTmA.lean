/- Texts of the claim, put together: TmA. -/
import Derived.Test.YtimahlimmblgkaaGreatDoorPTpA
import Derived.Test.YtimahlimmblgkaaGreatDoorPSlB
import Derived.Laws.AppendOwn
import Derived.Deep.Draws
import Derived.Maps.AppendAt
namespace Go.Proofs.YtimahlimmblgkaaGreatDoor.Sy
open Go Go.RowKit
/-- a block of cells of a type -/
def isT (w : World) (b : Nat) (t : TypeId) : Prop := ∃ cur fz, w.heap[b]? = some (.cells cur t fz)
theorem isT.lt {w : World} {b : Nat} {t : TypeId} (h : isT w b t) : b < w.heap.size := by
  obtain ⟨cur, fz, h⟩ := h
  exact (Array.getElem?_eq_some_iff.1 h).1
theorem isT.ne {w : World} {b c : Nat} {t u : TypeId} (h : isT w b t) (k : isT w c u) (hne : t ≠ u) : b ≠ c := by
  rintro rfl
  obtain ⟨cur, fz, h⟩ := h
  obtain ⟨cur', fz', k⟩ := k
  rw [h] at k
  injection k with k
  injection k with _ ht
  exact hne ht
theorem isT_of {w : World} {b : Nat} {cs : Array Value} {t : TypeId} {fz : Nat × Nat} (h : w.heap[b]? = some (.cells cs t fz)) : isT w b t := ⟨cs, fz, h⟩
/-- all blocks but those of X are as they were -/
structure Fr (X : Nat → Prop) (w w' : World) : Prop where
  os : w'.os = w.os
  tape : w'.tape = w.tape
  output : w'.output = w.output
  size : w.heap.size ≤ w'.heap.size
  block : ∀ k, k < w.heap.size → ¬ X k → w'.heap[k]? = w.heap[k]?
section
variable {X Y : Nat → Prop} {w w' w'' : World}
theorem Fr.refl (X : Nat → Prop) (w : World) : Fr X w w := ⟨rfl, rfl, rfl, Nat.le_refl _, fun _ _ _ => rfl⟩
theorem Fr.trans (h : Fr X w w') (k : Fr X w' w'') : Fr X w w'' :=
  ⟨k.os.trans h.os, k.tape.trans h.tape, k.output.trans h.output, Nat.le_trans h.size k.size, fun i hi hx => (k.block i (Nat.lt_of_lt_of_le hi h.size) hx).trans (h.block i hi hx)⟩
theorem Fr.mono (h : Fr X w w') (hXY : ∀ k, k < w.heap.size → X k → Y k) : Fr Y w w' := ⟨h.os, h.tape, h.output, h.size, fun i hi hy => h.block i hi (fun hx => hy (hXY i hi hx))⟩
theorem Fr.below {B : Nat} (h : Fr X w w') (hX : ∀ k, k < B → ¬ X k) (hB : B ≤ w.heap.size) : Below B w w' := ⟨h.os, h.tape, h.output, h.size, fun i hi => h.block i (Nat.lt_of_lt_of_le hi hB) (hX i hi)⟩
theorem Fr.cell (h : Fr X w w') {b o : Nat} (hb : b < w.heap.size) (hx : ¬ X b) : w'.cell? ⟨b, o, none⟩ = w.cell? ⟨b, o, none⟩ := by
  simp only [World.cell?, h.block b hb hx]
theorem Fr.setCell (h : Fr X w w') {p : Addr} (hp : X p.block) (v : Value) : Fr X w (w'.setCell p v) := by
  refine ⟨h.os, h.tape, h.output, ?_, fun k hk hx => ?_⟩
  · show _ ≤ (w'.heap.modify p.block _).size
    rw [Array.size_modify]; exact h.size
  · show (w'.heap.modify p.block _)[k]? = _
    rw [Array.getElem?_modify, if_neg (by intro e; rw [← e] at hx; exact hx hp)]
    exact h.block k hk hx
end
theorem Bthen {a b c : World} (h : Below a.heap.size a b) (k : Below b.heap.size b c) : Below a.heap.size a c := h.trans (k.mono h.size)
theorem cell_lt {W : World} {g o : Nat} {v : Value} (h : W.cell? ⟨g, o, none⟩ = some v) : g < W.heap.size := by
  unfold World.cell? at h
  rcases Nat.lt_or_ge g W.heap.size with h' | h'
  · exact h'
  · simp [Array.getElem?_eq_none h'] at h
theorem block_cell {w : World} {b : Nat} {cs : Array Value} {t : TypeId} {fz : Nat × Nat} (h : w.heap[b]? = some (.cells cs t fz)) (j : Nat) (v : Value) (hv : cs[j]? = some v) : w.cell? ⟨b, j, none⟩ = some v := by
  simp only [World.cell?, h]; exact hv
theorem block_froz {w : World} {b : Nat} {cs : Array Value} {t : TypeId} (h : w.heap[b]? = some (.cells cs t (0, 0))) (j : Nat) : w.frozen? ⟨b, j, none⟩ = false := by simp [World.frozen?, h]
theorem own_form {w : World} {base k : Nat} {T : TypeId} {size : Nat} {v : Value} {xs : List Value} (h : w.ownsRow base T size v k xs) : ∃ a cap, v = .slice a k cap := by
  rcases h.2 with ⟨rfl, h0⟩ | ⟨g, cap, cur, rfl, hb, hg, h1, h2, h3, h4⟩
  · exact ⟨none, 0, by rw [h0]⟩
  · exact ⟨_, cap, rfl⟩
/-- what owns a row: nil, or a block of its own -/
theorem own_cases {w : World} {base n size : Nat} {T : TypeId} {a : Option Addr} {cap k : Nat} {xs : List Value} (h : w.ownsRow base T size (.slice a n cap) k xs) :
    (a = none ∧ n = 0 ∧ cap = 0 ∧ k = 0) ∨ ∃ g, a = some ⟨g, 0, none⟩ ∧ n = k ∧ base ≤ g ∧ isT w g T ∧ k ≤ cap := by
  rcases h.2 with ⟨e, h0⟩ | ⟨g, cap', cur, hv, hb, hg, h1, _⟩
  · cases e; exact .inl ⟨rfl, rfl, rfl, h0⟩
  · cases hv; exact .inr ⟨g, rfl, rfl, hb, ⟨cur, (0, 0), hg⟩, h1⟩
theorem own_at0 {w : World} {base n size : Nat} {T : TypeId} {a : Option Addr} {cap k : Nat} {xs : List Value} (h : w.ownsRow base T size (.slice a n cap) k xs) (hx : xs ≠ []) :
    ∃ g, a = some ⟨g, 0, none⟩ ∧ base ≤ g ∧ isT w g T ∧ ∀ j u, xs[j]? = some u → w.cell? ⟨g, j, none⟩ = some u := by
  rcases h.2 with ⟨_, h0⟩ | ⟨g, cap', cur, hv, hb, hg, h1, h2, h3, h4⟩
  · have h1 := h.1
    rw [h0, Nat.zero_mul] at h1
    exact absurd (List.eq_nil_of_length_eq_zero h1) hx
  · cases hv
    refine ⟨g, rfl, hb, ⟨cur, (0, 0), hg⟩, fun j u hu => ?_⟩
    rw [← h4, List.getElem?_take] at hu
    split at hu
    · simp only [World.cell?, hg]
      simpa using hu
    · cases hu
/-- the slice at a reads, in w, as the cells xs -/
def RdF (w : World) (a : Option Addr) (xs : List Value) : Prop := xs ≠ [] → ∃ b off, a = some ⟨b, off, none⟩ ∧ b < w.heap.size ∧ ∀ j u, xs[j]? = some u → w.cell? ⟨b, off + j, none⟩ = some u
theorem RdF.of_own {w : World} {base n cap k size : Nat} {T : TypeId} {a : Option Addr} {xs : List Value} (h : w.ownsRow base T size (.slice a n cap) k xs) : RdF w a xs := by
  intro hx
  obtain ⟨g, e, _, ht, hc⟩ := own_at0 h hx
  exact ⟨g, 0, e, ht.lt, fun j u hu => by rw [Nat.zero_add]; exact hc j u hu⟩
theorem RdF.nil (w : World) (a : Option Addr) : RdF w a [] := fun h => absurd rfl h
theorem RdF.chg {w w' : World} {a : Option Addr} {xs : List Value} (h : RdF w a xs) (hb : ∀ q, a = some q → q.block < w.heap.size → w'.heap[q.block]? = w.heap[q.block]?) (hs : w.heap.size ≤ w'.heap.size) : RdF w' a xs := by
  intro hl
  obtain ⟨b, off, e, h1, h2⟩ := h hl
  refine ⟨b, off, e, Nat.lt_of_lt_of_le h1 hs, fun j u hu => ?_⟩
  have h3 := hb _ e h1
  have h4 := h2 j u hu
  simp only [World.cell?] at h4 ⊢
  rw [h3]; exact h4
theorem RdF.below {w w' : World} {a : Option Addr} {xs : List Value} (h : RdF w a xs) (hb : Below w.heap.size w w') : RdF w' a xs := h.chg (fun _q _ hq => hb.block _ hq) hb.size
theorem Sl.chg {w w' : World} {a : Option Addr} {cap : Nat} {l : Rs.S} (h : Sl w a cap l) (hb : ∀ q, a = some q → q.block < w.heap.size → w'.heap[q.block]? = w.heap[q.block]?) (hs : w.heap.size ≤ w'.heap.size) : Sl w' a cap l := by
  refine ⟨fun hl => ?_, h.nil, fun q e => ⟨(h.sp q e).1, Nat.lt_of_lt_of_le (h.sp q e).2 hs⟩⟩
  obtain ⟨b, off, e, h1, h2⟩ := h.rd hl
  refine ⟨b, off, e, Nat.lt_of_lt_of_le h1 hs, fun i r hr => ?_⟩
  have h3 := hb _ e h1
  have h4 := h2 i r hr
  simp only [World.cell?] at h4 ⊢
  rw [h3]; exact h4
theorem at_world {P : Program} {f : FuncId} {args : Array Value} {w : World} {Q : Ending → World → Prop} (h : ∀ W, W = w → Calls P f args W Q) : Calls P f args w Q := h w rfl
theorem flat_len {α : Type} (f : α → List Value) (n : Nat) (h : ∀ x, (f x).length = n) : ∀ l : List α, (l.flatMap f).length = l.length * n
  | [] => by simp
  | x :: l => by
    simp only [List.flatMap_cons, List.length_append, h, flat_len f n h l, List.length_cons, Nat.add_mul]
    omega
theorem flat_at {α : Type} (f : α → List Value) (n : Nat) (h : ∀ x, (f x).length = n) : ∀ {l : List α} {i j : Nat} {x : α} {v : Value}, l[i]? = some x → (f x)[j]? = some v → (l.flatMap f)[i * n + j]? = some v
  | [], i, _, _, _, hi, _ => by simp at hi
  | y :: l, 0, j, x, v, hi, hj => by
    simp at hi
    subst hi
    rw [List.flatMap_cons, Nat.zero_mul, Nat.zero_add, List.getElem?_append_left (List.getElem?_eq_some_iff.1 hj).1]
    exact hj
  | y :: l, i + 1, j, x, v, hi, hj => by
    have ih := flat_at f n h (l := l) (i := i) (j := j) (by simpa using hi) hj
    rw [List.flatMap_cons, List.getElem?_append_right (by rw [h, Nat.add_mul]; omega), h, show (i + 1) * n + j - n = i * n + j by rw [Nat.add_mul]; omega]
    exact ih
/-- append of cells onto a row of the call's own -/
theorem wpList_app {P : Program} {W : World} {ops : Array Oper} {rest : List Oper} {o : Oper} {a : Act} {Q : Exit → Act → World → Prop} (hg : o.guard = none) (s x : Operand) (ST T : TypeId) (size bytes : Nat) (z : Value)
    (hop : o.op = Op.call { callee := Callee.builtin Builtin.append, args := #[s, x], argTypes := #[ST, ST] }) (hu : P.underlying ST = some (.slice T)) (hinfo : (P.info? T).map (fun i => (i.zero, i.size, i.bytes)) = some (some z, size, bytes)) (hzs : z.cells.size = size) (hsz : 0 < size)
    (hby : bytes ≤ 100) (base : Nat) (v : Value) (k : Nat) (xs : List Value) (hs : a.eval s = v) (hown : W.ownsRow base T size v k xs) (ad : Addr) (m c : Nat) (news : List Value) (hx : a.eval x = .slice (some ad) m c) (hl : news.length = m * size)
    (hnews : ∀ j u, news[j]? = some u → W.cell? (ad.add j) = some u) (h1 : ∀ u ∈ news, u.oneCell' = true) (hk : k + m ≤ 1000000000) (hbase : base ≤ W.heap.size)
    (hK : ∀ v' w', w'.ownsRow base T size v' (k + m) (xs ++ news) → W.grownBy w' v.ownBlock → (v'.ownBlock = v.ownBlock ∨ v'.ownBlock = some W.heap.size) → (∀ w0, Below base w0 W → Below base w0 w') → wpList P ops Q rest (a.put o.dst v') w') : wpList P ops Q (o :: rest) a W := by
  obtain ⟨i0, hi0, hz0, hz1, hz2⟩ := info_parts hinfo
  have hb2 : (k + m) * bytes ≤ 1000000000 * 100 := Nat.mul_le_mul hk hby
  refine wpList_append_own_at W hg s x ST hop base T i0 z size bytes hu hi0 hz0 hz1 hz2 hzs hsz v k xs hs hown ad m c news hx hl hnews h1 (by unfold maxLen; omega) (by omega) hbase (fun v' w' h1 h2 _ h4 => hK v' w' h1 h2 h4 (fun w0 hb => hb.grown h2 hbase fun j e => ?_))
  rcases hown.2 with ⟨rfl, _⟩ | ⟨g, cap, cur, rfl, hg, _⟩
  · simp [Value.ownBlock] at e
  · obtain rfl : g = j := by simpa [Value.ownBlock] using e
    exact hg
/-- a tree, with the places of its set and of its parts -/
inductive L where
  | mk (kind : Int) (sa : Option Addr) (sc : Nat) (set : Rs.S) (mn mx : Int) (lz : Bool) (na : Option Addr) (nc : Nat) (subs : List L)
def L.cs : L → List Value
  | .mk k sa sc s mn mx lz na nc l => [.int .u8 k, .slice sa s.length sc, .int .i64 mn, .int .i64 mx, .bool lz, .slice na l.length nc]
def L.val (x : L) : Value := .agg x.cs.toArray
theorem L.cs_len (x : L) : x.cs.length = 6 := by cases x; rfl
def nFlat (l : List L) : List Value := l.flatMap L.cs
theorem nFlat_append (l m : List L) : nFlat (l ++ m) = nFlat l ++ nFlat m := by simp [nFlat]
theorem nFlat_length (l : List L) : (nFlat l).length = l.length * 6 := flat_len L.cs 6 L.cs_len l
theorem cs_one (x : L) : ∀ u ∈ x.cs, u.oneCell' = true := by
  intro u hu
  cases x
  simp only [L.cs, List.mem_cons, List.not_mem_nil, or_false] at hu
  rcases hu with rfl | rfl | rfl | rfl | rfl | rfl <;> rfl
theorem nFlat_one {l : List L} : ∀ u ∈ nFlat l, u.oneCell' = true := by
  intro u hu
  simp only [nFlat, List.mem_flatMap] at hu
  obtain ⟨x, _, hu⟩ := hu
  exact cs_one x u hu
mutual
def L.tree : L → T
  | .mk k _ _ s mn mx lz _ _ l => .mk k s mn mx lz (treeL l)
def treeL : List L → List T
  | [] => []
  | x :: l => x.tree :: treeL l
end
theorem treeL_map : ∀ l : List L, treeL l = l.map L.tree
  | [] => rfl
  | x :: l => by rw [treeL, treeL_map l, List.map_cons]
theorem treeL_len (l : List L) : (treeL l).length = l.length := by rw [treeL_map, List.length_map]
theorem treeL_append (l m : List L) : treeL (l ++ m) = treeL l ++ treeL m := by simp [treeL_map]
def i64 (x : Int) : Prop := -9223372036854775808 ≤ x ∧ x ≤ 9223372036854775807
/-- the tree lies in w, in blocks of P alone -/
inductive RdT (P : Nat → Prop) (w : World) : L → Prop
  | mk {k : Int} {sa : Option Addr} {sc : Nat} {s : Rs.S} {mn mx : Int} {lz : Bool} {na : Option Addr} {nc : Nat} {l : List L} (hk : 0 ≤ k ∧ k ≤ 255) (hmn : i64 mn) (hmx : i64 mx)
      (hs : Sl w sa sc s) (hsl : s.length < 4611686018427387904) (hn : RdF w na (nFlat l)) (hnl : l.length ≤ 1000000000) (hnb : ∀ q, na = some q → q.spot = none ∧ q.block < w.heap.size)
      (hP : ∀ q, sa = some q ∨ na = some q → P q.block) (sub : ∀ x, x ∈ l → RdT P w x) : RdT P w (.mk k sa sc s mn mx lz na nc l)
theorem RdT.chg {P Q : Nat → Prop} {w w' : World} {x : L} (h : RdT P w x) (hb : ∀ b, P b → b < w.heap.size → w'.heap[b]? = w.heap[b]?) (hs : w.heap.size ≤ w'.heap.size) (hPQ : ∀ b, P b → b < w.heap.size → Q b) : RdT Q w' x := by
  induction h with
  | mk hk hmn hmx hs' hsl hn hnl hnb hP sub ih =>
    refine .mk hk hmn hmx (Sl.chg hs' (fun q e hq => hb _ (hP q (.inl e)) hq) hs) hsl (hn.chg (fun q e hq => hb _ (hP q (.inr e)) hq) hs) hnl (fun q e => ⟨(hnb q e).1, Nat.lt_of_lt_of_le (hnb q e).2 hs⟩) (fun q e => hPQ _ (hP q e) ?_) ih
    rcases e with e | e
    · exact (hs'.sp q e).2
    · exact (hnb q e).2
theorem RdT.mono {P Q : Nat → Prop} {w : World} {x : L} (h : RdT P w x) (hPQ : ∀ b, P b → b < w.heap.size → Q b) : RdT Q w x := h.chg (fun _ _ _ => rfl) (Nat.le_refl _) hPQ
theorem RdT.bel {P : Nat → Prop} {w w' : World} {x : L} (h : RdT P w x) (hb : Below w.heap.size w w') : RdT P w' x := h.chg (fun b _ hl => hb.block b hl) hb.size (fun _ h _ => h)
theorem RdT.fr {P X : Nat → Prop} {w w' : World} {x : L} (h : RdT P w x) (hf : Fr X w w') (hd : ∀ b, P b → b < w.heap.size → ¬ X b) : RdT P w' x := h.chg (fun b hp hl => hf.block b hl (hd b hp hl)) hf.size (fun _ h _ => h)
theorem RdT.all {P : Nat → Prop} {w : World} {x : L} (h : RdT P w x) : RdT (fun _ => True) w x := h.mono (fun _ _ _ => trivial)
/-- the cells of a part -/
theorem RdF.nat {w : World} {a : Option Addr} {l : List L} (h : RdF w a (nFlat l)) {i : Nat} {x : L} (hi : l[i]? = some x) : ∃ b off, a = some ⟨b, off, none⟩ ∧ b < w.heap.size ∧ ∀ j u, x.cs[j]? = some u → w.cell? ⟨b, off + i * 6 + j, none⟩ = some u := by
  obtain ⟨b, off, e, h1, h2⟩ := h (by
    intro e
    have h1 := flat_at L.cs 6 L.cs_len (j := 0) hi (v := .int .u8 (match x with | .mk k _ _ _ _ _ _ _ _ _ => k)) (by cases x; rfl)
    rw [show l.flatMap L.cs = nFlat l from rfl, e] at h1
    cases h1)
  exact ⟨b, off, e, h1, fun j u hu => by rw [Nat.add_assoc]; exact h2 _ _ (flat_at L.cs 6 L.cs_len hi hu)⟩
end Go.Proofs.YtimahlimmblgkaaGreatDoor.Sy
