/- Chapter 38's sink: From, All. -/
import Derived.Test.YtmagojckhfkcdaaGreatDoorKsE
import Derived.Test.YtmagojckhfkcdaaGreatDoorKxC
namespace Go.Proofs.YtmagojckhfkcdaaGreatDoor.Sk
open Go Go.RowKit
/-- the slice at a reads as the items l -/
structure RdI (w : World) (a : Option Addr) (l : List SI) : Prop where
  rd : l ≠ [] → ∃ b off, a = some ⟨b, off, none⟩ ∧ isT w b 40 ∧ ∀ j u, (iFlat l)[j]? = some u → w.cell? ⟨b, off + j, none⟩ = some u
  lab : ∀ x ∈ l, Ll w x.la x.lc x.e.lab
theorem RdI.fr {X : Nat → Prop} {w w' : World} {a : Option Addr} {l : List SI} (h : RdI w a l) (hf : Fr X w w') (hx : ∀ b, isT w b 66 → ¬ X b) (hi : ∀ p, a = some p → ¬ X p.block) : RdI w' a l := by
  refine ⟨fun hl => ?_, fun x hx' => (h.lab x hx').fr hf hx⟩
  obtain ⟨b, off, e, ht, hc⟩ := h.rd hl
  have hb : ¬ X b := hi _ e
  exact ⟨b, off, e, hf.isT ht hb, fun j u hu => (hf.cell ht.lt hb).trans (hc j u hu)⟩
theorem RdI.below {B : Nat} {w w' : World} {a : Option Addr} {l : List SI} (h : RdI w a l) (hb : Below B w w') (hB : w.heap.size ≤ B) : RdI w' a l := by
  refine ⟨fun hl => ?_, fun x hx' => (h.lab x hx').below hb hB⟩
  obtain ⟨b, off, e, ht, hc⟩ := h.rd hl
  exact ⟨b, off, e, (Fr.of_below hb).isT ht (by have := ht.lt; omega), fun j u hu => ((Fr.of_below hb).cell ht.lt (by have := ht.lt; omega)).trans (hc j u hu)⟩
/-- the seven cells of the item at k -/
theorem RdI.at_ {w : World} {a : Option Addr} {l : List SI} (h : RdI w a l) {k : Nat} {x : SI} (hx : l[k]? = some x) :
    ∃ b off, a = some ⟨b, off, none⟩ ∧ b < w.heap.size ∧ isT w b 40 ∧ ∀ j u, (iB x)[j]? = some u → w.cell? ⟨b, off + k * 7 + j, none⟩ = some u := by
  obtain ⟨b, off, e, ht, hc⟩ := h.rd (by intro e; subst e; simp at hx)
  refine ⟨b, off, e, ht.lt, ht, fun j u hu => ?_⟩
  rw [Nat.add_assoc]
  exact hc _ _ (flat_at iB 7 (fun _ => rfl) hx hu)
theorem own_at0 {w : World} {base n size : Nat} {T : TypeId} {a : Option Addr} {cap k : Nat} {xs : List Value} (h : w.ownsRow base T size (.slice a n cap) k xs) (hx : xs ≠ []) :
    ∃ g, a = some ⟨g, 0, none⟩ ∧ base ≤ g ∧ isT w g T ∧ ∀ j u, xs[j]? = some u → w.cell? ⟨g, j, none⟩ = some u := by
  rcases h.2 with ⟨_, h0⟩ | ⟨g, cap', cur, hv, hb, hg, h1, h2, h3, h4⟩
  · have h1 := h.1
    rw [h0, Nat.zero_mul] at h1
    exact absurd (List.eq_nil_of_length_eq_zero h1) hx
  · cases hv
    refine ⟨g, rfl, hb, ⟨cur, (0, 0), hg⟩, fun j u hu => ?_⟩
    rw [← h4, List.getElem?_take] at hu
    split at hu
    · simp only [World.cell?, hg]
      simpa using hu
    · cases hu
theorem iFlat_ne {l : List SI} (h : l ≠ []) : iFlat l ≠ [] := by
  cases l with
  | nil => exact absurd rfl h
  | cons x r => simp [iFlat, iB]
theorem RdI.of_own {w : World} {base n cap k : Nat} {a : Option Addr} {l : List SI} (h : w.ownsRow base 40 7 (.slice a n cap) k (iFlat l)) (hl : ∀ x ∈ l, Ll w x.la x.lc x.e.lab) : RdI w a l := by
  refine ⟨fun hx => ?_, hl⟩
  obtain ⟨g, e, _, ht, hc⟩ := own_at0 h (iFlat_ne hx)
  exact ⟨g, 0, e, ht, fun j u hu => by rw [Nat.zero_add]; exact hc j u hu⟩
theorem iFlat_drop (l : List SI) (n : Nat) : iFlat (l.drop n) = (iFlat l).drop (n * 7) := by
  induction n generalizing l with
  | zero => simp
  | succ n ih =>
    cases l with
    | nil => simp [iFlat]
    | cons x r =>
      rw [List.drop_succ_cons, ih r, show (n + 1) * 7 = 7 + n * 7 by omega]
      show _ = (iB x ++ iFlat r).drop (7 + n * 7)
      have h7 : (iB x).length = 7 := rfl
      rw [List.drop_append, List.drop_of_length_le (l := iB x) (by omega), List.nil_append, show 7 + n * 7 - (iB x).length = n * 7 by omega]
theorem RdI.drop {w : World} {b off : Nat} {l : List SI} (h : RdI w (some ⟨b, off, none⟩) l) (n : Nat) : RdI w (some ⟨b, off + n * 7, none⟩) (l.drop n) := by
  refine ⟨fun hl => ?_, fun x hx => h.lab x (List.mem_of_mem_drop hx)⟩
  obtain ⟨b', off', e, ht, hc⟩ := h.rd (by intro e; subst e; simp at hl)
  cases e
  refine ⟨b, off + n * 7, rfl, ht, fun j u hu => ?_⟩
  rw [iFlat_drop, List.getElem?_drop] at hu
  rw [Nat.add_assoc]
  exact hc _ _ hu
theorem ll_grown {W w' : World} {base k : Nat} {v : Value} {xs : List Value} {T : TypeId} {size : Nat} (hown : W.ownsRow base T size v k xs) (hT : 66 ≠ T) (hg : W.grownBy w' v.ownBlock) {a : Option Addr} {c : Nat} {m : List Lab} (hl : Ll W a c m) : Ll w' a c m :=
  hl.fr (fr_grown (X := fun k => v.ownBlock = some k) hg (fun _ hk => hk)) (fun _ hb e => hb.ne (own_isT hown e) hT rfl)
/-- what a call gives that makes items of its own -/
def OutI (w : World) (its : List It) (e : Ending) (w' : World) : Prop :=
  ∃ a c lo, e = .returned (.slice a (List.length lo) c) ∧ w'.ownsRow w.heap.size 40 7 (.slice a lo.length c) lo.length (iFlat lo) ∧ (∀ x ∈ lo, Ll w' x.la x.lc x.e.lab) ∧ lo.map SI.it = its ∧ Below w.heap.size w w'
def FrInv (w : World) (l : List SI) (out i : Value) (wr : World) : Prop :=
  ∃ (k : Nat) (lo : List SI), k ≤ l.length ∧ i = .int .i64 k ∧ wr.ownsRow w.heap.size 40 7 out lo.length (iFlat lo) ∧ (∀ x ∈ lo, Ll wr x.la x.lc x.e.lab) ∧ lo.map SI.it = (l.take k).map SI.it ∧ Below w.heap.size w wr
theorem FrInv.step {w wr w5 w6 : World} {l lo : List SI} {k : Nat} {x : SI} {a5 : Option Addr} {c5 : Nat} {o o' : Obj} {out out' : Value} (hx : l[k]? = some x) (hown : wr.ownsRow w.heap.size 40 7 out lo.length (iFlat lo)) (hl : ∀ x ∈ lo, Ll wr x.la x.lc x.e.lab) (hm : lo.map SI.it = (l.take k).map SI.it) (hb : Below w.heap.size w wr)
    (hb5 : Below (wr.alloc o).heap.size (wr.alloc o) w5) (hl5 : Ll w5 a5 c5 x.e.lab) (hown' : w6.ownsRow w.heap.size 40 7 out' (lo.length + 1) (iFlat lo ++ iB ⟨x.key, a5, c5, x.e⟩)) (hg : (w5.alloc o').grownBy w6 out.ownBlock) : FrInv w l out' (.int .i64 ((k + 1 : Nat) : Int)) w6 := by
  have hb1 : Below wr.heap.size wr w5 := ((Below.refl _ _).alloc (Nat.le_refl _) o).trans (hb5.mono (by simp))
  have hb2 : Below wr.heap.size wr (w5.alloc o') := hb1.alloc hb1.size o'
  have hown2 : (w5.alloc o').ownsRow w.heap.size 40 7 out lo.length (iFlat lo) := own_fr hown (X := fun k => wr.heap.size ≤ k) (Fr.of_below hb2) (fun k hk => by have := (own_isT hown hk).lt; omega)
  have hbw := hb.size
  refine ⟨k + 1, lo ++ [⟨x.key, a5, c5, x.e⟩], by have := (List.getElem?_eq_some_iff.1 hx).1; omega, rfl, ?_, ?_, ?_, ?_⟩
  · rw [iFlat_append]
    simpa [iFlat] using hown'
  · intro y hy
    rcases List.mem_append.1 hy with hy | hy
    · exact ll_grown hown2 (by decide) hg ((hl y hy).below hb2 (Nat.le_refl _))
    · obtain rfl : y = _ := by simpa using hy
      exact ll_grown hown2 (by decide) hg (hl5.below ((Below.refl _ _).alloc (Nat.le_refl _) o') (Nat.le_refl _))
  · rw [List.map_append, hm, List.take_add_one, hx, List.map_append]
    rfl
  · have h2 : Below w.heap.size w (w5.alloc o') := hb.trans (hb2.mono hbw)
    exact below_own h2 h2.size hown2 hg
set_option maxRecDepth 100000 in
set_option maxHeartbeats 2000000 in
theorem from_some (n : Nat) (w : World) {p base mb n' : Nat} {v : Value} {l : List SI} (h : SinkAt w p base mb n' v l) (hn : n < l.length) :
    Calls Tryz.prog 40 #[.pointer (some ⟨p, 0, none⟩), .int .i64 (n : Int)] w (OutI w ((l.drop n).map SI.it)) := by
  have c1 : w.cell? ⟨p, 1, none⟩ = some (.map (some mb)) := by simp [World.cell?, h.cells]
  have c0 : w.cell? ⟨p, 0, none⟩ = some v := by simp [World.cell?, h.cells]
  obtain ⟨va, vc, rfl⟩ := own_form h.own
  obtain ⟨g, rfl, hg1, hg2, hg3⟩ := own_at0 h.own (iFlat_ne (by intro e; subst e; simp at hn))
  have hrd : RdI w (some ⟨g, 0 + n * 7, none⟩) (l.drop n) := (RdI.of_own h.own h.lab).drop n
  rw [Nat.zero_add] at hrd
  have hok : ∀ x ∈ l.drop n, x.e.lab.length ≤ 1000000000 := fun x hx => by
    have := (labRight_ok (right_lab (h.ok x (List.mem_of_mem_drop hx)).1)).1
    omega
  have hcap : l.length ≤ vc := by
    rcases h.own.2 with ⟨_, h0⟩ | ⟨g', cap', cur, hv, _, _, h1, _⟩
    · omega
    · cases hv; exact h1
  have hle := h.len
  obtain ⟨m, hm⟩ : ∃ m, m = (l.drop n).length := ⟨_, rfl⟩
  have hml : m = l.length - n := by rw [hm, List.length_drop]
  have hvc : ¬ (vc = n) := by omega
  have hvm : vc ≤ 9223372036854775807 := by
    rcases h.own.2 with ⟨_, h0⟩ | ⟨g', cap', cur, hv, _, _, _, h2, _⟩
    · omega
    · cases hv; unfold maxLen at h2; omega
  have hn0 : decide ((n : Int) < 0) = false := by simp
  have hn1 : decide (l.length < n) = false := by simp; omega
  have HOK := Lib.hid (And.intro hok hrd)
  have HM := Lib.hid hm
  clear h hok hg1 hg2 hg3 hrd hm
  go_enter Tryz.func40, Tryz.ntmps40
  go_wp2_with fail
  go_at_call 30
  refine (none_cell _ (mb := mb) c1).mono ?_
  rintro e w1 ⟨rfl, rfl⟩
  go_wp2_with fail
  go_loopw [5, 30] (fun out i wr => FrInv w (l.drop n) out i wr) (fun _ i _ => (l.length - n) - (intOf i).toNat)
  case atStart => exact ⟨0, [], Nat.zero_le _, rfl, World.ownsRow_nil _ _ _ _, (fun x hx => by cases hx), rfl, Below.refl _ _⟩
  case round =>
    obtain ⟨k, lo, hk, rfl, hown, hll, hm, hb⟩ := hrel
    rw [← HM.out, hml] at hk
    have hbs := hb.size
    have HB := Lib.hid hb
    have HO := Lib.hid (And.intro hown (And.intro hll hm))
    have hlo : lo.length ≤ 65536 := by
      have := congrArg List.length hm
      rw [List.length_map, List.length_map, List.length_take] at this
      omega
    clear hown hll hm hb
    by_cases hlt : k < l.length - n
    · obtain ⟨x, hx⟩ : ∃ x, (l.drop n)[k]? = some x := ⟨_, List.getElem?_eq_getElem (by rw [List.length_drop]; exact hlt)⟩
      obtain ⟨b, off, e, hbl, ht, hc⟩ := (HOK.out.2.below HB.out (Nat.le_refl _)).at_ hx
      cases e
      have hxm := List.mem_of_getElem? hx
      have HX := Lib.hid (And.intro hx (And.intro (HOK.out.1 x hxm) ((HOK.out.2.lab x hxm).below HB.out (Nat.le_refl _))))
      have c0 := hc 0 _ rfl
      rw [Nat.add_zero] at c0
      have c1 := hc 1 _ rfl
      have c2 := hc 2 _ rfl
      have c3 := hc 3 _ rfl
      have c4 := hc 4 _ rfl
      have c5 := hc 5 _ rfl
      have c6 := hc 6 _ rfl
      obtain ⟨w0, hw0⟩ : ∃ q, q = wr := ⟨_, rfl⟩
      subst hw0
      clear hc hx hxm ht
      go_wp2_with fail
      go_at_call 35
      refine (copied_calls x _ (HX.out.2.2.below ((Below.refl _ _).alloc (Nat.le_refl _) _) (Nat.le_refl _)) HX.out.2.1).mono ?_
      rintro e w5 ⟨a5, c5', rfl, hl5, hb5, _⟩
      have hb05 : Below w0.heap.size w0 w5 := ((Below.refl _ _).alloc (Nat.le_refl _) _).trans (hb5.mono (by simp))
      have HO5 : Hid (w5.ownsRow w.heap.size 40 7 u5 lo.length (iFlat lo)) := Lib.hid (own_fr HO.out.1 (X := fun k => w0.heap.size ≤ k) (Fr.of_below hb05) (fun k hk => by have := (own_isT HO.out.1 hk).lt; omega))
      have hs5 := hb05.size
      have H5 := Lib.hid (And.intro hb5 hl5)
      clear hb5 hl5 hb05 c0 c1 c2 c3 c4 c5 c6
      go_wp2_with (at_builtin; refine wpList_app rfl _ _ 28 40 7 80 _ rfl Tryz.underlying28 Tryz.info40 rfl (by decide) (by decide) w.heap.size _ lo.length (iFlat lo) rfl (HO5.out.alloc _) ⟨w5.heap.size, 0, none⟩ 1 1 (iB ⟨x.key, a5, c5', x.e⟩) rfl rfl (cells_new w5 #[.string x.key, .slice a5 x.e.lab.length c5', .bool x.e.mark, .int .u64 x.e.bits, .bool x.e.st, .int .i64 x.e.time, .int .i64 x.e.stamp] _ _ rfl) (by intro u hu; simp [iB] at hu; rcases hu with rfl | rfl | rfl | rfl | rfl | rfl | rfl <;> rfl) (by omega) (by simp; omega) ?_; intro v6 w6 hown6 hgrow6 _ _; have H6 := Lib.hid (And.intro hown6 hgrow6); clear hown6 hgrow6)
      go_roundw
      case rel => exact FrInv.step HX.out.1 HO.out.1 HO.out.2.1 HO.out.2.2 HB.out H5.out.1 H5.out.2 H6.out.1 H6.out.2
      case measure => simp [intOf]; omega
    · obtain rfl : k = l.length - n := by omega
      have hm2 := HO.out.2.2
      rw [List.take_of_length_le (by simp)] at hm2
      have HM2 := Lib.hid hm2
      clear hm2
      obtain ⟨ao, co, rfl⟩ := own_form HO.out.1
      go_wp2
      go_ret
      exact ⟨ao, co, lo, rfl, HO.out.1, HO.out.2.1, HM2.out, HB.out⟩
theorem OutI.nil (w : World) : OutI w [] (.returned (.slice none 0 0)) w := ⟨none, 0, [], rfl, World.ownsRow_nil _ _ _ _, (fun x hx => by cases hx), rfl, Below.refl _ _⟩
set_option maxRecDepth 100000 in
set_option maxHeartbeats 2000000 in
theorem from_end (w : World) {p base mb n' : Nat} {v : Value} {l : List SI} (h : SinkAt w p base mb n' v l) :
    Calls Tryz.prog 40 #[.pointer (some ⟨p, 0, none⟩), .int .i64 (l.length : Int)] w (OutI w []) := by
  have c1 : w.cell? ⟨p, 1, none⟩ = some (.map (some mb)) := by simp [World.cell?, h.cells]
  have c0 : w.cell? ⟨p, 0, none⟩ = some v := by simp [World.cell?, h.cells]
  have hle := h.len
  have hown := h.own
  have hn1 : decide (l.length < l.length) = false := by simp
  have hn0 : decide ((l.length : Int) < 0) = false := by simp
  rcases (show (v = .slice none 0 0 ∧ l.length = 0) ∨ ∃ g vc, v = .slice (some ⟨g, 0, none⟩) l.length vc ∧ l.length ≤ vc ∧ vc ≤ maxLen by
    rcases hown.2 with ⟨e, h0⟩ | ⟨g, cap', cur, hv, _, _, h1, h2, _⟩
    · exact .inl ⟨e, h0⟩
    · exact .inr ⟨g, cap', hv, h1, h2⟩) with ⟨rfl, h0⟩ | ⟨g, vc, rfl, h1, h2⟩
  · rw [h0]
    clear h hown hle hn0 hn1 h0
    go_enter Tryz.func40, Tryz.ntmps40
    go_wp2_with fail
    go_at_call 30
    refine (none_cell _ (mb := mb) c1).mono ?_
    rintro e w1 ⟨rfl, rfl⟩
    go_wp2_with fail
    go_loopw [5, 30] (fun out i wr => out = .slice none 0 0 ∧ i = .int .i64 0 ∧ wr = w) (fun _ _ _ => 0)
    case atStart => exact ⟨rfl, rfl, rfl⟩
    case round =>
      obtain ⟨rfl, rfl, rfl⟩ := hrel
      go_wp2
      go_ret
      exact OutI.nil _
  · by_cases hvc : vc = l.length
    · subst hvc
      obtain ⟨m, hm⟩ : ∃ m, m = l.length := ⟨_, rfl⟩
      rw [← hm] at c0 hle hn0 hn1 h2 ⊢
      unfold maxLen at h2
      clear h hown hm h1
      go_enter Tryz.func40, Tryz.ntmps40
      go_wp2_with fail
      go_at_call 30
      refine (none_cell _ (mb := mb) c1).mono ?_
      rintro e w1 ⟨rfl, rfl⟩
      go_wp2_with fail
      go_loopw [5, 30] (fun out i wr => out = .slice none 0 0 ∧ i = .int .i64 0 ∧ wr = w) (fun _ _ _ => 0)
      case atStart => exact ⟨rfl, rfl, rfl⟩
      case round =>
        obtain ⟨rfl, rfl, rfl⟩ := hrel
        go_wp2
        go_ret
        exact OutI.nil _
    · obtain ⟨m, hm⟩ : ∃ m, m = l.length := ⟨_, rfl⟩
      rw [← hm] at c0 hle hn0 hn1 h1 hvc ⊢
      unfold maxLen at h2
      clear h hown hm
      go_enter Tryz.func40, Tryz.ntmps40
      go_wp2_with fail
      go_at_call 30
      refine (none_cell _ (mb := mb) c1).mono ?_
      rintro e w1 ⟨rfl, rfl⟩
      go_wp2_with fail
      go_loopw [5, 30] (fun out i wr => out = .slice none 0 0 ∧ i = .int .i64 0 ∧ wr = w) (fun _ _ _ => 0)
      case atStart => exact ⟨rfl, rfl, rfl⟩
      case round =>
        obtain ⟨rfl, rfl, rfl⟩ := hrel
        go_wp2
        go_ret
        exact OutI.nil _
set_option maxRecDepth 100000 in
theorem from_no (i : Int) (w : World) {p base mb n' : Nat} {v : Value} {l : List SI} (h : SinkAt w p base mb n' v l) (hi : i < 0 ∨ (l.length : Int) < i) :
    Calls Tryz.prog 40 #[.pointer (some ⟨p, 0, none⟩), .int .i64 i] w (OutI w []) := by
  have c1 : w.cell? ⟨p, 1, none⟩ = some (.map (some mb)) := by simp [World.cell?, h.cells]
  have c0 : w.cell? ⟨p, 0, none⟩ = some v := by simp [World.cell?, h.cells]
  obtain ⟨va, vc, rfl⟩ := own_form h.own
  rcases (show i < 0 ∨ (0 ≤ i ∧ (l.length : Int) < i) by omega) with h1 | ⟨h1, h2⟩
  · have hn0 : decide (i < 0) = true := by simpa using h1
    clear h hi
    go_enter Tryz.func40, Tryz.ntmps40
    go_wp2_with (go_at_call 30; refine (none_cell _ (mb := mb) c1).mono ?_; rintro e w1 ⟨rfl, rfl⟩)
    go_ret
    exact OutI.nil _
  · have hn0 : decide (i < 0) = false := by simpa using h1
    have hn1 : decide ((l.length : Int) < i) = true := by simpa using h2
    clear h hi
    go_enter Tryz.func40, Tryz.ntmps40
    go_wp2_with (go_at_call 30; refine (none_cell _ (mb := mb) c1).mono ?_; rintro e w1 ⟨rfl, rfl⟩)
    go_ret
    exact OutI.nil _
/-- all items but the first ones -/
def fromS (l : List It) (i : Int) : List It := if 0 ≤ i ∧ i ≤ l.length then l.drop i.toNat else []
theorem from_calls (i : Int) (w : World) {p base mb n' : Nat} {v : Value} {l : List SI} (h : SinkAt w p base mb n' v l) :
    Calls Tryz.prog 40 #[.pointer (some ⟨p, 0, none⟩), .int .i64 i] w (OutI w (fromS (l.map SI.it) i)) := by
  unfold fromS
  rw [List.length_map]
  by_cases hi : 0 ≤ i ∧ i ≤ l.length
  · rw [if_pos hi]
    obtain ⟨n, rfl⟩ := Int.eq_ofNat_of_zero_le hi.1
    rw [show (n : Int).toNat = n from rfl, ← List.map_drop]
    by_cases hn : n < l.length
    · exact from_some n w h hn
    · obtain rfl : n = l.length := by omega
      rw [List.drop_of_length_le (Nat.le_refl _)]
      exact from_end w h
  · rw [if_neg hi]
    exact from_no i w h (by omega)
set_option maxRecDepth 100000 in
theorem all_calls (w : World) {p base mb n' : Nat} {v : Value} {l : List SI} (h : SinkAt w p base mb n' v l) :
    Calls Tryz.prog 13 #[.pointer (some ⟨p, 0, none⟩)] w (OutI w (l.map SI.it)) := by
  have hf := from_calls 0 w h
  rw [show fromS (l.map SI.it) 0 = l.map SI.it by unfold fromS; rw [if_pos ⟨by decide, by omega⟩]; rfl] at hf
  have HF := Lib.hid hf
  clear hf h
  go_enter Tryz.func13, Tryz.ntmps13
  go_wp2_with fail
  go_at_call 40
  refine HF.out.mono ?_
  rintro e w1 ⟨a, c, lo, rfl, hown, hl, hm, hb⟩
  have H := Lib.hid (And.intro hown (And.intro hl (And.intro hm hb)))
  clear hown hl hm hb
  go_wp2
  go_ret
  exact ⟨a, c, lo, rfl, H.out⟩
end Go.Proofs.YtmagojckhfkcdaaGreatDoor.Sk
