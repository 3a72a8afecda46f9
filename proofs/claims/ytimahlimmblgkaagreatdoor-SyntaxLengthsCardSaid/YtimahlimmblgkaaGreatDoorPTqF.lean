/- Texts of the claim, put together: TqF, TqG. -/
import Derived.Test.YtimahlimmblgkaaGreatDoorPTqE
import Derived.Test.YtimahlimmblgkaaGreatDoorPSlC
import Derived.Test.YtimahlimmblgkaaGreatDoorPSlD
namespace Go.Proofs.YtimahlimmblgkaaGreatDoor.Sy
open Go Go.RowKit
/-- a tree that a call makes, in blocks of P -/
def GivesP (P : Nat → Prop) (w : World) (t : T) (e : Ending) (w' : World) : Prop := ∃ x : L, e = .returned x.val ∧ x.tree = t ∧ RdT P w' x ∧ Below w.heap.size w w'
abbrev Gives (w : World) (t : T) (e : Ending) (w' : World) : Prop := GivesP (fun k => w.heap.size ≤ k) w t e w'
theorem GivesP.mono {P Q : Nat → Prop} {w w' : World} {t : T} {e : Ending} (h : GivesP P w t e w') (hPQ : ∀ b, P b → Q b) : GivesP Q w t e w' := by
  obtain ⟨x, h1, h2, h3, h4⟩ := h
  exact ⟨x, h1, h2, h3.mono (fun b hb _ => hPQ b hb), h4⟩
theorem RdT.leaf {P : Nat → Prop} {w : World} {k : Int} {sa : Option Addr} {sc : Nat} {s : Rs.S} (hk : 0 ≤ k ∧ k ≤ 255) (hs : Sl w sa sc s) (hsl : s.length < 4611686018427387904) (hP : ∀ q, sa = some q → P q.block) : RdT P w (.mk k sa sc s 0 0 false none 0 []) :=
  .mk hk ⟨by decide, by decide⟩ ⟨by decide, by decide⟩ hs hsl (RdF.nil _ _) (by decide) (fun _ e => by cases e) (fun q e => e.elim (hP q) (fun e => by cases e)) (fun _ h => by cases h)
/-- a node without a set -/
theorem RdT.node {P : Nat → Prop} {w : World} {k mn mx : Int} {lz : Bool} {na : Option Addr} {nc : Nat} {l : List L} (hk : 0 ≤ k ∧ k ≤ 255) (hmn : i64 mn) (hmx : i64 mx) (hn : RdF w na (nFlat l)) (hnl : l.length ≤ 1000000000)
    (hnb : ∀ q, na = some q → q.spot = none ∧ q.block < w.heap.size) (hP : ∀ q, na = some q → P q.block) (sub : ∀ x, x ∈ l → RdT P w x) : RdT P w (.mk k none 0 [] mn mx lz na nc l) :=
  .mk hk hmn hmx (Sl.nil0 w) (by decide) hn hnl hnb (fun q e => e.elim (fun e => by cases e) (hP q)) sub
theorem RdT.empty (P : Nat → Prop) (w : World) : RdT P w (.mk 1 none 0 [] 0 0 false none 0 []) := RdT.leaf (by decide) (Sl.nil0 w) (by decide) (fun _ e => by cases e)
/-- a row of ranges in a block of its own -/
theorem Sl.blk {w : World} {g : Nat} {l : Rs.S} (h : w.heap[g]? = some (.cells (rFlat l).toArray 84 (0, 0))) (hl : l.length ≤ 1000000) : Sl w (some ⟨g, 0, none⟩) l.length l := by
  have ho : w.ownsRow g 84 2 (.slice (some ⟨g, 0, none⟩) l.length l.length) l.length (rFlat l) :=
    ⟨rFlat_length l, .inr ⟨g, _, _, rfl, Nat.le_refl _, h, Nat.le_refl _, by unfold maxLen; omega, by simp [rFlat_length], by simp [← rFlat_length l]⟩⟩
  obtain ⟨a, cap, e, _, hs⟩ := Sl.of_own ho
  cases e
  exact hs
theorem alloc_at {g : Nat} (w : World) (h : w.heap.size = g) (o : Obj) : (w.alloc o).heap[g]? = some o := by subst h; exact heap_alloc_new w o
section
variable {w5 : World} {g : Nat} {a0 a1 a2 a3 a4 a5 u0 u1 u2 u3 u4 u5 : Value} {TI : TypeId}
theorem six_cells (h : w5.heap[g]? = some (.cells #[a0, a1, a2, a3, a4, a5] TI (0, 0))) : (((((((w5.setCell ⟨g, 0, none⟩ u0).setCell ⟨g, 1, none⟩ u1).setCell ⟨g, 2, none⟩ u2).setCell ⟨g, 3, none⟩ u3).setCell ⟨g, 4, none⟩ u4).setCell ⟨g, 5, none⟩ u5)).heap[g]? = some (.cells #[u0, u1, u2, u3, u4, u5] TI (0, 0)) := by
  unfold World.setCell
  simp only [Array.getElem?_modify, h]
  rfl
theorem six_fr : Fr (fun k => k = g) w5 (((((((w5.setCell ⟨g, 0, none⟩ u0).setCell ⟨g, 1, none⟩ u1).setCell ⟨g, 2, none⟩ u2).setCell ⟨g, 3, none⟩ u3).setCell ⟨g, 4, none⟩ u4).setCell ⟨g, 5, none⟩ u5)) := by
  iterate 6 (refine Fr.setCell ?_ (by exact rfl) _)
  exact Fr.refl _ _
theorem six_gives {P : Nat → Prop} {w : World} {t : T} (x : L) (hx : RdT P w5 x) (hP : ∀ b, P b → b < w5.heap.size → b ≠ g) (hb : Below w.heap.size w w5) (hg : w.heap.size ≤ g) (ht : x.tree = t) (hv : x.val = .agg #[u0, u1, u2, u3, u4, u5]) :
    GivesP P w t (.returned (.agg #[u0, u1, u2, u3, u4, u5])) (((((((w5.setCell ⟨g, 0, none⟩ u0).setCell ⟨g, 1, none⟩ u1).setCell ⟨g, 2, none⟩ u2).setCell ⟨g, 3, none⟩ u3).setCell ⟨g, 4, none⟩ u4).setCell ⟨g, 5, none⟩ u5)) :=
  ⟨x, by rw [hv], ht, hx.fr six_fr (fun b h1 h2 => hP b h1 h2), hb.trans (six_fr.below (B := w.heap.size) (fun k hk e => by omega) hb.size)⟩
end
theorem gives_set {w wE : World} {g : Nat} {l : Rs.S} (hg : wE.heap[g]? = some (.cells (rFlat l).toArray 84 (0, 0))) (hge : w.heap.size ≤ g) (hb : Below w.heap.size w wE) (hl : l.length ≤ 1000) :
    Gives w (.mk 2 l 0 0 false []) (.returned (.agg #[.int .u8 2, .slice (some ⟨g, 0, none⟩) l.length l.length, .int .i64 0, .int .i64 0, .bool false, .slice none 0 0])) wE :=
  ⟨.mk 2 (some ⟨g, 0, none⟩) l.length l 0 0 false none 0 [], rfl, rfl, RdT.leaf (by decide) (Sl.blk hg (by omega)) (by omega) (fun q e => by cases e; exact hge), hb⟩
set_option maxRecDepth 100000 in
set_option maxHeartbeats 2000000 in
theorem one_calls (c : Int) (w : World) : Calls Tryz.prog 139 #[.int .i64 c] w (Gives w (one c)) := by
  go_enter Tryz.func139, Tryz.ntmps139
  go_wp2_with fail
  refine bodyPost_ret (v := .agg #[.int .u8 2, .slice (some ⟨w.heap.size + 1, 0, none⟩) 1 1, .int .i64 0, .int .i64 0, .bool false, .slice none 0 0]) (by simp [results, Tryz.results139, go_sem]) rfl ?_
  refine gives_set (l := [(c, c)]) ?_ (by omega) (((Below.refl _ _).alloc (Nat.le_refl _) _).alloc (by simp) _) (by simp)
  exact alloc_at (w.alloc _) (by simp) _
theorem notE_nil : Rs.notE [] = allSet ∧ Rs.right [] = true := by decide +kernel
set_option maxRecDepth 100000 in
set_option maxHeartbeats 2000000 in
theorem all_calls (w : World) : Calls Tryz.prog 102 #[] w (Gives w all) := by
  have hc : Hid (∀ W, Calls Tryz.prog 131 #[.slice none 0 0] W fun e w' => ∃ v, e = .returned (.tuple #[v, .int .i64 0]) ∧ w'.ownsRow W.heap.size 84 2 v 2 (rFlat allSet) ∧ Below W.heap.size W w') := Lib.hid (fun W => by
    have h := Not_calls none 0 [] W (Sl.nil0 W) (by decide)
    rw [notE_nil.1, notE_nil.2] at h
    exact h)
  go_enter Tryz.func102, Tryz.ntmps102
  go_wp2_with fail
  refine at_world ?_
  intro W hW
  have hbW : Below w.heap.size w W := by rw [hW]; exact (Below.refl _ _).alloc (Nat.le_refl _) _
  have g0 : W.heap[w.heap.size]? = some (.cells #[.int .u8 0, .slice none 0 0, .int .i64 0, .int .i64 0, .bool false, .slice none 0 0] 27 (0, 0)) := by rw [hW]; exact heap_alloc_new w _
  clear hW
  refine (hc.out W).mono ?_
  rintro e w5 ⟨v, rfl, hown, hb5⟩
  obtain ⟨a, cap, rfl⟩ := own_form hown
  have g5 := (hb5.block _ (isT_of g0).lt).trans g0
  have z0 := block_cell g5 0 _ rfl
  have z1 := block_cell g5 1 _ rfl
  have z2 := block_cell g5 2 _ rfl
  have z3 := block_cell g5 3 _ rfl
  have z4 := block_cell g5 4 _ rfl
  have z5 := block_cell g5 5 _ rfl
  have y0 := block_froz g5 0
  have y1 := block_froz g5 1
  have y2 := block_froz g5 2
  have y3 := block_froz g5 3
  have y4 := block_froz g5 4
  have y5 := block_froz g5 5
  have HO := Lib.hid (And.intro hown (And.intro g5 (And.intro (Bthen hbW hb5) (And.intro hbW (isT_of g0).lt))))
  clear hown g5 g0 hbW hb5
  go_wp2_with fail
  obtain ⟨wE, hwE⟩ : ∃ q, q = ((((((w5.setCell ⟨w.heap.size, 0, none⟩ (.int .u8 2)).setCell ⟨w.heap.size, 1, none⟩ (.slice a 2 cap)).setCell ⟨w.heap.size, 2, none⟩ (.int .i64 0)).setCell ⟨w.heap.size, 3, none⟩ (.int .i64 0)).setCell ⟨w.heap.size, 4, none⟩ (.bool false)).setCell ⟨w.heap.size, 5, none⟩ (.slice none 0 0)) := ⟨_, rfl⟩
  rw [← hwE]
  have hsl : Sl w5 a cap allSet := by
    obtain ⟨a', cap', e, _, h⟩ := Sl.of_own HO.out.1
    cases e
    exact h
  have hgv : Gives w all (.returned (.agg #[.int .u8 2, .slice a 2 cap, .int .i64 0, .int .i64 0, .bool false, .slice none 0 0])) wE := by
    rw [hwE]
    refine (six_gives (.mk 2 a cap allSet 0 0 false none 0 []) (RdT.leaf (P := fun k => w.heap.size ≤ k ∧ k ≠ w.heap.size) (by decide) hsl (by decide) (fun q e => ?_)) (fun b h1 _ => h1.2) HO.out.2.2.1 (Nat.le_refl _) rfl rfl).mono (fun b hb => hb.1)
    subst e
    rcases own_cases HO.out.1 with ⟨e, _⟩ | ⟨q', e, _, h3, _⟩
    · cases e
    · cases e
      have := HO.out.2.2.2.2
      have := HO.out.2.2.2.1.size
      dsimp only
      omega
  have hE : wE.heap[w.heap.size]? = some (.cells #[.int .u8 2, .slice a 2 cap, .int .i64 0, .int .i64 0, .bool false, .slice none 0 0] 27 (0, 0)) := by rw [hwE]; exact six_cells HO.out.2.1
  have s0 := block_cell hE 0 _ rfl
  have s1 := block_cell hE 1 _ rfl
  have s2 := block_cell hE 2 _ rfl
  have s3 := block_cell hE 3 _ rfl
  have s4 := block_cell hE 4 _ rfl
  have s5 := block_cell hE 5 _ rfl
  clear hwE hE
  exact bodyPost_ret (v := .agg #[.int .u8 2, .slice a 2 cap, .int .i64 0, .int .i64 0, .bool false, .slice none 0 0]) (by simp [results, Tryz.results102, go_sem, s0, s1, s2, s3, s4, s5]) rfl hgv
set_option maxRecDepth 100000 in
set_option maxHeartbeats 4000000 in
/-- parts as one tree -/
theorem join_calls {P : Nat → Prop} (k : Int) (hk : 0 ≤ k ∧ k ≤ 255) (na : Option Addr) (nc : Nat) (l : List L) (w : World) (hn : RdF w na (nFlat l)) (hnl : l.length ≤ 1000000000) (hnb : ∀ q, na = some q → q.spot = none ∧ q.block < w.heap.size)
    (hP : ∀ q, na = some q → P q.block) (sub : ∀ x, x ∈ l → RdT P w x) : Calls Tryz.prog 81 #[.int .u8 k, .slice na l.length nc] w (GivesP P w (join k (treeL l))) := by
  have HN := Lib.hid (And.intro hn (And.intro hnb (And.intro hP sub)))
  clear hn hnb hP sub
  match l, hnl, HN with
  | [], _, HN =>
    show Calls Tryz.prog 81 #[.int .u8 k, .slice na 0 nc] w _
    go_enter Tryz.func81, Tryz.ntmps81
    go_wp2_with fail
    exact bodyPost_ret (v := .agg #[.int .u8 1, .slice none 0 0, .int .i64 0, .int .i64 0, .bool false, .slice none 0 0]) (by simp [results, Tryz.results81, go_sem]) rfl ⟨.mk 1 none 0 [] 0 0 false none 0 [], rfl, rfl, RdT.empty _ _, (Below.refl _ _).alloc (Nat.le_refl _) _⟩
  | [x], _, HN =>
    obtain ⟨b, off, rfl, hbs, hcell⟩ := RdF.nat HN.out.1 (i := 0) (x := x) rfl
    obtain ⟨kx, sax, scx, sx, mnx, mxx, lzx, nax, ncx, lx⟩ := x
    have hx := Lib.hid (HN.out.2.2.2 _ (List.mem_singleton.2 rfl))
    have d0 := hcell 0 _ rfl
    have d1 := hcell 1 _ rfl
    have d2 := hcell 2 _ rfl
    have d3 := hcell 3 _ rfl
    have d4 := hcell 4 _ rfl
    have d5 := hcell 5 _ rfl
    simp only [Nat.zero_mul, Nat.add_zero] at d0 d1 d2 d3 d4 d5
    clear hcell
    show Calls Tryz.prog 81 #[.int .u8 k, .slice (some ⟨b, off, none⟩) 1 nc] w _
    go_enter Tryz.func81, Tryz.ntmps81
    go_wp2_with fail
    exact bodyPost_ret (v := .agg #[.int .u8 kx, .slice sax sx.length scx, .int .i64 mnx, .int .i64 mxx, .bool lzx, .slice nax lx.length ncx]) (by simp [results, Tryz.results81, go_sem]) rfl ⟨_, rfl, rfl, hx.out.bel ((Below.refl _ _).alloc (Nat.le_refl _) _), (Below.refl _ _).alloc (Nat.le_refl _) _⟩
  | x :: y :: r, hnl, HN =>
    obtain ⟨n, hn⟩ : ∃ n, n = (x :: y :: r).length := ⟨_, rfl⟩
    have HL := Lib.hid hn
    have h2 : 2 ≤ n := by rw [hn]; simp
    rw [← hn] at hnl ⊢
    clear hn
    have h0' : ((n : Int) == 0) = false := beq_eq_false_iff_ne.2 (by omega)
    have h1' : ((n : Int) == 1) = false := beq_eq_false_iff_ne.2 (by omega)
    go_enter Tryz.func81, Tryz.ntmps81
    go_wp2_with fail
    refine bodyPost_ret (v := .agg #[.int .u8 k, .slice none 0 0, .int .i64 0, .int .i64 0, .bool false, .slice na n nc]) (by simp [results, Tryz.results81, go_sem]) rfl ⟨.mk k none 0 [] 0 0 false na nc (x :: y :: r), by rw [HL.out]; rfl, ?_, ?_, (Below.refl _ _).alloc (Nat.le_refl _) _⟩
    · rw [join_many (by rw [treeL_len]; simp)]; rfl
    · refine RdT.bel (w := w) (RdT.node hk ⟨by decide, by decide⟩ ⟨by decide, by decide⟩ HN.out.1 (by rw [← HL.out]; exact hnl) HN.out.2.1 HN.out.2.2.1 HN.out.2.2.2) ((Below.refl _ _).alloc (Nat.le_refl _) _)
end Go.Proofs.YtimahlimmblgkaaGreatDoor.Sy
namespace Go.Proofs.YtimahlimmblgkaaGreatDoor.Sy
open Go Go.RowKit
theorem leaf_form (a b : Int) : leaf a b = (let c := a % 8
  if c = 0 then all else if c = 1 then .mk 2 [(97, 99)] 0 0 false [] else if c = 2 then .mk 2 [(48, 57), (97, 98)] 0 0 false [] else if c = 3 then one 8364 else if c = 4 then one ((([42, 46, 124, 92, 45, 93] : B).getD (b % 6).toNat 0).toNat : Int) else one (97 + b % 4)) := rfl
set_option maxRecDepth 100000 in
set_option maxHeartbeats 4000000 in
theorem leaf_calls (a b : Int) (a0 : 0 ≤ a) (a1 : a ≤ 255) (b0 : 0 ≤ b) (b1 : b ≤ 255) (w : World) : Calls Tryz.prog 42 #[.int .u8 a, .int .u8 b] w (Gives w (leaf a b)) := by
  rcases (show a % 8 = 0 ∨ a % 8 = 1 ∨ a % 8 = 2 ∨ a % 8 = 3 ∨ a % 8 = 4 ∨ (5 ≤ a % 8 ∧ a % 8 ≤ 7) by omega) with h | h | h | h | h | h
  · have he : Hid (leaf a b = all) := Lib.hid (by rw [leaf_form, h]; rfl)
    go_enter Tryz.func42, Tryz.ntmps42
    go_wp2_with fail
    refine bodyPost_ret (v := .agg #[.int .u8 2, .slice (some ⟨w.heap.size + 1 + 1, 0, none⟩) 2 2, .int .i64 0, .int .i64 0, .bool false, .slice none 0 0]) (by simp [results, Tryz.results42, go_sem]) rfl ?_
    rw [he.out]
    exact gives_set (g := w.heap.size + 1 + 1) (l := allSet) (alloc_at ((w.alloc _).alloc _) (by simp) _) (by omega) ((((Below.refl _ _).alloc (Nat.le_refl _) _).alloc (by simp) _).alloc (by simp; omega) _) (by decide)
  · have he : Hid (leaf a b = .mk 2 [(97, 99)] 0 0 false []) := Lib.hid (by rw [leaf_form, h]; rfl)
    go_enter Tryz.func42, Tryz.ntmps42
    go_wp2_with fail
    refine bodyPost_ret (v := .agg #[.int .u8 2, .slice (some ⟨w.heap.size + 1 + 1, 0, none⟩) 1 1, .int .i64 0, .int .i64 0, .bool false, .slice none 0 0]) (by simp [results, Tryz.results42, go_sem]) rfl ?_
    rw [he.out]
    exact gives_set (g := w.heap.size + 1 + 1) (l := [(97, 99)]) (alloc_at ((w.alloc _).alloc _) (by simp) _) (by omega) ((((Below.refl _ _).alloc (Nat.le_refl _) _).alloc (by simp) _).alloc (by simp; omega) _) (by simp)
  · have he : Hid (leaf a b = .mk 2 [(48, 57), (97, 98)] 0 0 false []) := Lib.hid (by rw [leaf_form, h]; rfl)
    go_enter Tryz.func42, Tryz.ntmps42
    go_wp2_with fail
    refine bodyPost_ret (v := .agg #[.int .u8 2, .slice (some ⟨w.heap.size + 1 + 1, 0, none⟩) 2 2, .int .i64 0, .int .i64 0, .bool false, .slice none 0 0]) (by simp [results, Tryz.results42, go_sem]) rfl ?_
    rw [he.out]
    exact gives_set (g := w.heap.size + 1 + 1) (l := [(48, 57), (97, 98)]) (alloc_at ((w.alloc _).alloc _) (by simp) _) (by omega) ((((Below.refl _ _).alloc (Nat.le_refl _) _).alloc (by simp) _).alloc (by simp; omega) _) (by simp)
  · have he : Hid (leaf a b = one 8364) := Lib.hid (by rw [leaf_form, h]; rfl)
    go_enter Tryz.func42, Tryz.ntmps42
    go_wp2_with fail
    refine bodyPost_ret (v := .agg #[.int .u8 2, .slice (some ⟨w.heap.size + 1 + 1, 0, none⟩) 1 1, .int .i64 0, .int .i64 0, .bool false, .slice none 0 0]) (by simp [results, Tryz.results42, go_sem]) rfl ?_
    rw [he.out]
    exact gives_set (g := w.heap.size + 1 + 1) (l := [(8364, 8364)]) (alloc_at ((w.alloc _).alloc _) (by simp) _) (by omega) ((((Below.refl _ _).alloc (Nat.le_refl _) _).alloc (by simp) _).alloc (by simp; omega) _) (by simp)
  · rcases (show b % 6 = 0 ∨ b % 6 = 1 ∨ b % 6 = 2 ∨ b % 6 = 3 ∨ b % 6 = 4 ∨ b % 6 = 5 by omega) with g | g | g | g | g | g
    · have he : Hid (leaf a b = one 42) := Lib.hid (by rw [leaf_form, h, g]; rfl)
      go_enter Tryz.func42, Tryz.ntmps42
      go_wp2_with fail
      refine bodyPost_ret (v := .agg #[.int .u8 2, .slice (some ⟨w.heap.size + 1 + 1, 0, none⟩) 1 1, .int .i64 0, .int .i64 0, .bool false, .slice none 0 0]) (by simp [results, Tryz.results42, go_sem]) rfl ?_
      have e : (wrap64 (({ data := #[42, 46, 124, 92, 45, 93] } : ByteArray)[0].toNat : Int)) = 42 := by decide +kernel
      rw [he.out, e]
      exact gives_set (g := w.heap.size + 1 + 1) (l := [(42, 42)]) (alloc_at ((w.alloc _).alloc _) (by simp) _) (by omega) ((((Below.refl _ _).alloc (Nat.le_refl _) _).alloc (by simp) _).alloc (by simp; omega) _) (by simp)
    · have he : Hid (leaf a b = one 46) := Lib.hid (by rw [leaf_form, h, g]; rfl)
      go_enter Tryz.func42, Tryz.ntmps42
      go_wp2_with fail
      refine bodyPost_ret (v := .agg #[.int .u8 2, .slice (some ⟨w.heap.size + 1 + 1, 0, none⟩) 1 1, .int .i64 0, .int .i64 0, .bool false, .slice none 0 0]) (by simp [results, Tryz.results42, go_sem]) rfl ?_
      have e : (wrap64 (({ data := #[42, 46, 124, 92, 45, 93] } : ByteArray)[1].toNat : Int)) = 46 := by decide +kernel
      rw [he.out, e]
      exact gives_set (g := w.heap.size + 1 + 1) (l := [(46, 46)]) (alloc_at ((w.alloc _).alloc _) (by simp) _) (by omega) ((((Below.refl _ _).alloc (Nat.le_refl _) _).alloc (by simp) _).alloc (by simp; omega) _) (by simp)
    · have he : Hid (leaf a b = one 124) := Lib.hid (by rw [leaf_form, h, g]; rfl)
      go_enter Tryz.func42, Tryz.ntmps42
      go_wp2_with fail
      refine bodyPost_ret (v := .agg #[.int .u8 2, .slice (some ⟨w.heap.size + 1 + 1, 0, none⟩) 1 1, .int .i64 0, .int .i64 0, .bool false, .slice none 0 0]) (by simp [results, Tryz.results42, go_sem]) rfl ?_
      have e : (wrap64 (({ data := #[42, 46, 124, 92, 45, 93] } : ByteArray)[2].toNat : Int)) = 124 := by decide +kernel
      rw [he.out, e]
      exact gives_set (g := w.heap.size + 1 + 1) (l := [(124, 124)]) (alloc_at ((w.alloc _).alloc _) (by simp) _) (by omega) ((((Below.refl _ _).alloc (Nat.le_refl _) _).alloc (by simp) _).alloc (by simp; omega) _) (by simp)
    · have he : Hid (leaf a b = one 92) := Lib.hid (by rw [leaf_form, h, g]; rfl)
      go_enter Tryz.func42, Tryz.ntmps42
      go_wp2_with fail
      refine bodyPost_ret (v := .agg #[.int .u8 2, .slice (some ⟨w.heap.size + 1 + 1, 0, none⟩) 1 1, .int .i64 0, .int .i64 0, .bool false, .slice none 0 0]) (by simp [results, Tryz.results42, go_sem]) rfl ?_
      have e : (wrap64 (({ data := #[42, 46, 124, 92, 45, 93] } : ByteArray)[3].toNat : Int)) = 92 := by decide +kernel
      rw [he.out, e]
      exact gives_set (g := w.heap.size + 1 + 1) (l := [(92, 92)]) (alloc_at ((w.alloc _).alloc _) (by simp) _) (by omega) ((((Below.refl _ _).alloc (Nat.le_refl _) _).alloc (by simp) _).alloc (by simp; omega) _) (by simp)
    · have he : Hid (leaf a b = one 45) := Lib.hid (by rw [leaf_form, h, g]; rfl)
      go_enter Tryz.func42, Tryz.ntmps42
      go_wp2_with fail
      refine bodyPost_ret (v := .agg #[.int .u8 2, .slice (some ⟨w.heap.size + 1 + 1, 0, none⟩) 1 1, .int .i64 0, .int .i64 0, .bool false, .slice none 0 0]) (by simp [results, Tryz.results42, go_sem]) rfl ?_
      have e : (wrap64 (({ data := #[42, 46, 124, 92, 45, 93] } : ByteArray)[4].toNat : Int)) = 45 := by decide +kernel
      rw [he.out, e]
      exact gives_set (g := w.heap.size + 1 + 1) (l := [(45, 45)]) (alloc_at ((w.alloc _).alloc _) (by simp) _) (by omega) ((((Below.refl _ _).alloc (Nat.le_refl _) _).alloc (by simp) _).alloc (by simp; omega) _) (by simp)
    · have he : Hid (leaf a b = one 93) := Lib.hid (by rw [leaf_form, h, g]; rfl)
      go_enter Tryz.func42, Tryz.ntmps42
      go_wp2_with fail
      refine bodyPost_ret (v := .agg #[.int .u8 2, .slice (some ⟨w.heap.size + 1 + 1, 0, none⟩) 1 1, .int .i64 0, .int .i64 0, .bool false, .slice none 0 0]) (by simp [results, Tryz.results42, go_sem]) rfl ?_
      have e : (wrap64 (({ data := #[42, 46, 124, 92, 45, 93] } : ByteArray)[5].toNat : Int)) = 93 := by decide +kernel
      rw [he.out, e]
      exact gives_set (g := w.heap.size + 1 + 1) (l := [(93, 93)]) (alloc_at ((w.alloc _).alloc _) (by simp) _) (by omega) ((((Below.refl _ _).alloc (Nat.le_refl _) _).alloc (by simp) _).alloc (by simp; omega) _) (by simp)
  · have he : Hid (leaf a b = one (97 + b % 4)) := Lib.hid (by rw [leaf_form]; dsimp only; rw [if_neg (by omega), if_neg (by omega), if_neg (by omega), if_neg (by omega), if_neg (by omega)])
    go_enter Tryz.func42, Tryz.ntmps42
    go_wp2_with fail
    refine bodyPost_ret (v := .agg #[.int .u8 2, .slice (some ⟨w.heap.size + 1 + 1, 0, none⟩) 1 1, .int .i64 0, .int .i64 0, .bool false, .slice none 0 0]) (by simp [results, Tryz.results42, go_sem]) rfl ?_
    rw [he.out]
    exact gives_set (g := w.heap.size + 1 + 1) (l := [(97 + b % 4, 97 + b % 4)]) (alloc_at ((w.alloc _).alloc _) (by simp) _) (by omega) ((((Below.refl _ _).alloc (Nat.le_refl _) _).alloc (by simp) _).alloc (by simp; omega) _) (by simp)
end Go.Proofs.YtimahlimmblgkaaGreatDoor.Sy
