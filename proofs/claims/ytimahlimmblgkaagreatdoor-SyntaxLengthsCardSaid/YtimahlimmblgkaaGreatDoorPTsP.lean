/- Chapter 07: what several laws want: made trees, two trees in boxes, Text. -/
import Derived.Test.YtimahlimmblgkaaGreatDoorPTsH
import Derived.Test.YtimahlimmblgkaaGreatDoorPTsF
import Derived.Test.YtimahlimmblgkaaGreatDoorPTsK
namespace Go.Proofs.YtimahlimmblgkaaGreatDoor.Sy
open Go Go.RowKit
theorem parse_err4 {s : B} {x : Int} (h : parse s = .error x) (hl : s.length ≤ 1024) : x = 70 ∨ x = 71 ∨ x = 5 ∨ x = 72 := by
  unfold parse at h
  rw [if_neg (by omega)] at h
  split at h
  · cases h; exact .inl rfl
  · split at h
    · cases h; exact .inl rfl
    · split at h
      · cases h; exact .inr (.inl rfl)
      · split at h
        · cases h; exact .inr (.inr (.inl rfl))
        · split at h
          · cases h; exact .inr (.inr (.inr rfl))
          · cases h
/-- what a made tree is -/
structure MadeOK (t : T) : Prop where
  good : Good t
  right : right t = true
  cnt : cnt t ≤ 21
  len : (wr [] t).length ≤ 420
theorem made_ok (l : List Sm) : MadeOK (made l) := by
  obtain ⟨h1, h2, h3⟩ := made_good l
  exact ⟨h1, h1.right' (by omega), h2, by have := h1.len; omega⟩
theorem text_eq {t u : T} (h : MadeOK t) (k : MadeOK u) : (wr [] t == wr [] u) = same t u := by
  cases hs : same t u
  · refine beq_eq_false_iff_ne.2 (fun e2 => ?_)
    have h1 := parse_text h.right (by have := h.len; omega)
    have h2 := parse_text k.right (by have := k.len; omega)
    rw [e2, h2] at h1
    cases h1
    rw [same_self] at hs
    cases hs
  · rw [(same_eq _ _).1 hs]; simp
abbrev zeroL : L := .mk 0 none 0 [] 0 0 false none 0 []
theorem zero_rd (P : Nat → Prop) (w : World) : RdT P w zeroL := RdT.leaf (by decide) (Sl.nil0 w) (by decide) (fun _ e => by cases e)
/-- two located trees, each in a box of its own -/
structure TwoAt (w : World) (x y : L) (A C : Nat) (W : World) : Prop where
  bel : Below w.heap.size w W
  a : W.heap[A]? = some (.cells x.cs.toArray 27 (0, 0))
  c : W.heap[C]? = some (.cells y.cs.toArray 27 (0, 0))
  r1 : RdT (fun _ => True) W x
  r2 : RdT (fun _ => True) W y
theorem TwoAt.next {w W W' : World} {x y : L} {A C : Nat} (h : TwoAt w x y A C W) (hb : Below W.heap.size W W') : TwoAt w x y A C W' :=
  ⟨h.bel.trans (hb.mono h.bel.size), (hb.block _ (isT_of h.a).lt).trans h.a, (hb.block _ (isT_of h.c).lt).trans h.c, h.r1.bel hb, h.r2.bel hb⟩
/-- Text of a right tree, as a caller meets it -/
theorem text_made {P : Nat → Prop} (x : L) (t : T) (u : B) (w W : World) (hV : Vs w) (hb : Below w.heap.size w W) (h : RdT P W x) (hx : x.tree = t) (hm : MadeOK t) (hu : u = wr [] t) :
    Calls Tryz.prog 17 #[x.val] W fun e w' => e = .returned (.tuple #[.string ⟨u.toArray⟩, .int .i64 0]) ∧ Below W.heap.size W w' :=
  text_known x W h (hV.below hb) (by rw [hx]; exact hm.right) (by rw [hx, hu]) (by rw [hu]; have := hm.len; omega)
theorem RdF.take {w : World} {a : Option Addr} {xs : List Value} (h : RdF w a xs) (n : Nat) : RdF w a (xs.take n) := by
  intro hx
  obtain ⟨b, off, e, hl, hc⟩ := h (by intro e; subst e; simp at hx)
  refine ⟨b, off, e, hl, fun j u hu => hc j u ?_⟩
  rw [List.getElem?_take] at hu
  split at hu
  · exact hu
  · cases hu
theorem sFlat_take (l : List Sm) (n : Nat) : sFlat (l.take n) = (sFlat l).take (n * 3) := by
  induction n generalizing l with
  | zero => simp [sFlat]
  | succ n ih =>
    cases l with
    | nil => simp [sFlat]
    | cons x r =>
      rw [List.take_succ_cons, show (n + 1) * 3 = 3 + n * 3 by omega]
      show smC x ++ sFlat (r.take n) = (smC x ++ sFlat r).take (3 + n * 3)
      have h7 : (smC x).length = 3 := rfl
      rw [List.take_append, List.take_of_length_le (l := smC x) (by omega), show 3 + n * 3 - (smC x).length = n * 3 by omega, ih r]
/-- Made at the first ones of a slice -/
theorem made_take (a : Option Addr) (cap : Nat) (l : List Sm) (N k : Nat) (w : World) (hrd : RdF w a (sFlat l)) (hnil : a = none → l = [] ∧ cap = 0) (hok : ∀ x ∈ l, SmOK x) (hl : l.length ≤ cap) (hcap : cap ≤ maxLen) (hN : N = min l.length k) :
    Calls Tryz.prog 12 #[.slice a N cap] w (GivesP (fun b => w.heap.size ≤ b) w (made (l.take k))) := by
  have h := made_calls a cap (l.take k) w (by rw [sFlat_take]; exact hrd.take _) (fun e => ⟨by rw [(hnil e).1]; simp, (hnil e).2⟩) (fun x hx => hok x (List.mem_of_mem_take hx)) (by rw [List.length_take]; omega) hcap
  rw [List.length_take, Nat.min_comm, ← hN] at h
  exact h
set_option maxRecDepth 100000 in
set_option maxHeartbeats 4000000 in
/-- Text of a tree that is not right -/
theorem text_no {P : Nat → Prop} (x : L) (w : World) (h : RdT P w x) (hr : right x.tree = false) : Calls Tryz.prog 17 #[x.val] w fun e w' => e = .returned (.tuple #[.string ⟨#[]⟩, .int .i64 73]) ∧ Below w.heap.size w w' := by
  have HL : Hid (∀ W, Below w.heap.size w W → Calls Tryz.prog 45 #[x.val] W fun e w' => e = .returned (.bool false) ∧ Below W.heap.size W w') := Lib.hid (fun W hb => (right_tree x W (h.bel hb)).mono (fun e w' h2 => ⟨by rw [h2.1, hr], h2.2⟩))
  clear h hr
  obtain ⟨k, sa, sc, s, mn, mx, lz, na, nc, l⟩ := x
  rw [val_mk] at HL ⊢
  go_enter Tryz.func17, Tryz.ntmps17
  go_wp2_with fail
  refine at_world ?_
  intro W hW
  have hbW : Below w.heap.size w W := by rw [hW]; exact (Below.refl _ _).alloc (Nat.le_refl _) _
  clear hW
  refine (HL.out W hbW).mono ?_
  rintro e w5 ⟨rfl, hb5⟩
  have H5 := Lib.hid (Bthen hbW hb5)
  clear hb5 hbW
  go_wp2_with fail
  go_ret2
  exact ⟨rfl, H5.out⟩
end Go.Proofs.YtimahlimmblgkaaGreatDoor.Sy
