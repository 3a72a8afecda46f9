/- Chapter 07, plain: for the law SyntaxLengths. -/
import Derived.Test.YtimahlimmblgkaaGreatDoorPTpA
import Derived.Test.YtimahlimmblgkaaGreatDoorPBkQ
namespace Go.Proofs.YtimahlimmblgkaaGreatDoor.Sy
theorem T.ind {p : T → Prop} (h : ∀ k s a b z l, (∀ t, t ∈ l → p t) → p (.mk k s a b z l)) : ∀ t, p t
  | .mk k s a b z l => h k s a b z l (fun t _ht => T.ind h t)
termination_by t => SizeOf.sizeOf t
decreasing_by
  have := List.sizeOf_lt_of_mem _ht
  simp
  omega
theorem lookL_shaped (k : Int) : ∀ (l : List T) (f : F), (lookL k l f).shaped = (f.shaped && l.all (fun t => (look t).shaped))
  | [], f => by simp [lookL]
  | t :: r, f => by rw [lookL, lookL_shaped k r]; simp [stepF, Bool.and_assoc]
theorem lookL_firm (k : Int) : ∀ (l : List T) (f : F), (lookL k l f).firm = (f.firm && l.all (fun t => (look t).firm))
  | [], f => by simp [lookL]
  | t :: r, f => by rw [lookL, lookL_firm k r]; simp [stepF, Bool.and_assoc]
theorem lookL_nul3 : ∀ (l : List T) (f : F), (lookL 3 l f).nul = (f.nul && l.all (fun t => (look t).nul))
  | [], f => by simp [lookL]
  | t :: r, f => by rw [lookL, lookL_nul3 r]; simp [stepF, Bool.and_assoc]
theorem lookL_nul {k : Int} (hk : k ≠ 3) : ∀ (l : List T) (f : F), (lookL k l f).nul = (f.nul || l.any (fun t => (look t).nul))
  | [], f => by simp [lookL]
  | t :: r, f => by rw [lookL, lookL_nul hk r]; simp [stepF, hk, Bool.or_assoc]
theorem endF_shaped (k a b : Int) (f : F) : (endF k a b f).shaped = f.shaped := by
  unfold endF
  split
  · rfl
  · split <;> rfl
theorem look_shaped (k : Int) (s : Rs.S) (a b : Int) (z : Bool) (l : List T) : (look (.mk k s a b z l)).shaped = (shapedN k s a b z l.length && l.all (fun t => (look t).shaped)) := by
  rw [look, endF_shaped, lookL_shaped]; rfl
theorem look_firm (k : Int) (s : Rs.S) (a b : Int) (z : Bool) (l : List T) : (look (.mk k s a b z l)).firm = (l.all (fun t => (look t).firm) && !(decide (k = 5) && l.any (fun t => (look t).nul) && (decide (b = -1) || decide (1 < b)))) := by
  rw [look]
  unfold endF
  by_cases h6 : k = 6
  · rw [if_pos h6]; subst h6; simp [lookL_firm, startF]
  · rw [if_neg h6]
    by_cases h5 : k = 5
    · rw [if_pos h5]; subst h5; simp [lookL_firm, startF, lookL_nul]
    · rw [if_neg h5]; simp [lookL_firm, startF, h5]
theorem look_nul (k : Int) (s : Rs.S) (a b : Int) (z : Bool) (l : List T) : (look (.mk k s a b z l)).nul = (if k = 3 then l.all (fun t => (look t).nul) else decide (k = 1) || l.any (fun t => (look t).nul) || (decide (k = 5) && decide (a = 0))) := by
  rw [look]
  unfold endF
  by_cases h3 : k = 3
  · subst h3; simp [lookL_nul3, startF]
  by_cases h6 : k = 6
  · subst h6; simp [lookL_nul, startF]
  · rw [if_neg h6, if_neg h3]
    by_cases h5 : k = 5
    · subst h5; simp [lookL_nul, startF]
    · rw [if_neg h5]; simp [lookL_nul h3, startF, h5, h3]
theorem shapedN_cases {k : Int} {s : Rs.S} {a b : Int} {z : Bool} {n : Nat} (h : shapedN k s a b z n = true) :
    (k = 1 ∧ s = [] ∧ a = 0 ∧ b = 0 ∧ z = false ∧ n = 0) ∨ (k = 2 ∧ Rs.right s = true ∧ a = 0 ∧ b = 0 ∧ z = false ∧ n = 0) ∨ (k = 3 ∧ s = [] ∧ a = 0 ∧ b = 0 ∧ z = false ∧ 2 ≤ n) ∨
    (k = 4 ∧ s = [] ∧ a = 0 ∧ b = 0 ∧ z = false ∧ 2 ≤ n) ∨ (k = 5 ∧ s = [] ∧ (0 ≤ a ∧ a ≤ 1000) ∧ (b = -1 ∨ (a ≤ b ∧ b ≤ 1000)) ∧ n = 1) ∨ (k = 6 ∧ s = [] ∧ a = 0 ∧ b = 0 ∧ z = false ∧ n = 1) := by
  unfold shapedN at h
  dsimp only at h
  by_cases h1 : k = 1
  · rw [if_pos h1] at h
    simp at h
    exact .inl ⟨h1, h.2.1, h.1.1.1, h.1.1.2, h.1.2, h.2.2⟩
  rw [if_neg h1] at h
  by_cases h2 : k = 2
  · rw [if_pos h2] at h
    simp at h
    exact .inr (.inl ⟨h2, h.1.2, h.1.1.1.1, h.1.1.1.2, h.1.1.2, h.2⟩)
  rw [if_neg h2] at h
  by_cases h3 : k = 3 ∨ k = 4
  · rw [if_pos h3] at h
    simp at h
    rcases h3 with h3 | h3
    · exact .inr (.inr (.inl ⟨h3, h.1.2, h.1.1.1.1, h.1.1.1.2, h.1.1.2, h.2⟩))
    · exact .inr (.inr (.inr (.inl ⟨h3, h.1.2, h.1.1.1.1, h.1.1.1.2, h.1.1.2, h.2⟩)))
  rw [if_neg h3] at h
  by_cases h6 : k = 6
  · rw [if_pos h6] at h
    simp at h
    exact .inr (.inr (.inr (.inr (.inr ⟨h6, h.1.2, h.1.1.1.1, h.1.1.1.2, h.1.1.2, h.2⟩))))
  rw [if_neg h6] at h
  by_cases h5 : k = 5
  · rw [if_pos h5] at h
    simp at h
    exact .inr (.inr (.inr (.inr (.inl ⟨h5, h.1.2, ⟨h.1.1.1.1, h.1.1.1.2⟩, h.1.1.2, h.2⟩))))
  · rw [if_neg h5] at h
    cases h
mutual
def cnt : T → Nat
  | .mk _ _ _ _ _ l => cntL l + 1
def cntL : List T → Nat
  | [] => 0
  | t :: l => cnt t + cntL l
end
mutual
def dep : T → Nat
  | .mk _ _ _ _ _ l => depL l + 1
def depL : List T → Nat
  | [] => 0
  | t :: l => max (dep t) (depL l)
end
mutual
def grp : T → Nat
  | .mk k _ _ _ _ l => grpL l + (if k = 6 then 1 else 0)
def grpL : List T → Nat
  | [] => 0
  | t :: l => grp t + grpL l
end
mutual
theorem dep_cnt : ∀ t : T, dep t ≤ cnt t
  | .mk _ _ _ _ _ l => by rw [dep, cnt]; have := depL_cnt l; omega
theorem depL_cnt : ∀ l : List T, depL l ≤ cntL l
  | [] => Nat.le_refl _
  | t :: l => by rw [depL, cntL]; have := dep_cnt t; have := depL_cnt l; omega
end
mutual
theorem grp_cnt : ∀ t : T, grp t ≤ cnt t
  | .mk k _ _ _ _ l => by rw [grp, cnt]; have := grpL_cnt l; split <;> omega
theorem grpL_cnt : ∀ l : List T, grpL l ≤ cntL l
  | [] => Nat.le_refl _
  | t :: l => by rw [grpL, cntL]; have := grp_cnt t; have := grpL_cnt l; omega
end
theorem W_in {x : Int} (h0 : -1000000000 ≤ x) (h1 : x ≤ 1000000000000) : W x = x := by
  unfold W Go.RowKit.wrap64; omega
mutual
theorem look_nums : ∀ t : T, cnt t ≤ 1000000000 → (look t).depth = dep t ∧ (look t).groups = grp t
  | .mk k s a b z l, h => by
    rw [cnt] at h
    obtain ⟨h1, h2⟩ := lookL_nums k l (startF k (shapedN k s a b z l.length)) 0 (by simp [startF]) (by simp [startF]) (by simp [startF]) (by omega)
    have hd := depL_cnt l
    have hg := grpL_cnt l
    rw [look, dep, grp]
    unfold endF
    have e1 : (startF k (shapedN k s a b z l.length)).depth = 0 := rfl
    have e2 : (startF k (shapedN k s a b z l.length)).groups = 0 := rfl
    rw [e1] at h1
    rw [e2] at h2
    split
    · rename_i h6
      simp only
      rw [h1, h2]
      exact ⟨by rw [W_in (by omega) (by omega)]; omega, by rw [W_in (by omega) (by omega)]; omega⟩
    · split
      · simp only
        rw [h1, h2]
        exact ⟨by rw [W_in (by omega) (by omega)]; omega, by omega⟩
      · simp only
        rw [h1, h2]
        exact ⟨by rw [W_in (by omega) (by omega)]; omega, by omega⟩
theorem lookL_nums : ∀ (k : Int) (l : List T) (f : F) (n : Nat), 0 ≤ f.depth → 0 ≤ f.groups → f.groups ≤ n → cntL l + n ≤ 1000000000 → (lookL k l f).depth = max f.depth (depL l) ∧ (lookL k l f).groups = f.groups + grpL l
  | k, [], f, n, hd, h0, h1, h => by
    rw [lookL, depL, grpL]
    omega
  | k, t :: l, f, n, hd, h0, h1, h => by
    rw [cntL] at h
    obtain ⟨h2, h3⟩ := look_nums t (by omega)
    have hg := grp_cnt t
    have hw : W (f.groups + (look t).groups) = f.groups + grp t := by rw [h3]; exact W_in (by omega) (by omega)
    obtain ⟨h4, h5⟩ := lookL_nums k l (stepF k f (look t)) (n + cnt t) (by show 0 ≤ max _ _; omega) (by show 0 ≤ W _; rw [hw]; omega) (by show W _ ≤ _; rw [hw]; omega) (by omega)
    rw [lookL, h4, h5, depL, grpL]
    show max (max f.depth (look t).depth) _ = _ ∧ W _ + _ = _
    rw [hw, h2]
    omega
end
end Go.Proofs.YtimahlimmblgkaaGreatDoor.Sy
namespace Go.Proofs.YtimahlimmblgkaaGreatDoor.Sy
open Go.Lib in
theorem parse_append : ∀ (l m : B) (acc a : Nat), parseUint10 acc l = .ok a → parseUint10 acc (l ++ m) = parseUint10 a m
  | [], m, acc, a, h => by simp only [parseUint10] at h; cases h; rfl
  | c :: r, m, acc, a, h => by
    simp only [List.cons_append, parseUint10] at h ⊢
    split at h
    · rename_i h1
      rw [if_pos h1]
      split at h
      · cases h
      · rename_i h2
        rw [if_neg h2]
        split at h
        · cases h
        · rename_i h3
          rw [if_neg h3]
          exact parse_append r m _ _ h
    · cases h
open Go.Lib in
theorem parse_dec : ∀ (n u : Nat), u ≤ n → u < 18446744073709551616 → parseUint10 0 (decDigits u) = .ok u
  | n, u, hn, hu => by
    rw [decDigits]
    split
    · rename_i h
      have e : (UInt8.ofNat (48 + u)).toNat = 48 + u := by simp; omega
      simp only [parseUint10, e]
      rw [if_pos (by omega), if_neg (by omega), if_neg (by omega)]
      congr 1
      omega
    · rename_i h
      match n, hn with
      | n + 1, hn =>
        have ih := parse_dec n (u / 10) (by omega) (by omega)
        have e : (UInt8.ofNat (48 + u % 10)).toNat = 48 + u % 10 := by simp; omega
        rw [parse_append _ _ _ _ ih]
        simp only [parseUint10, e]
        rw [if_pos (by omega), if_neg (by omega), if_neg (by omega)]
        congr 1
        omega
      | 0, hn => omega
open Go.Lib in
theorem dec_head (u : Nat) : ∃ c r, decDigits u = c :: r ∧ 48 ≤ c.toNat ∧ c.toNat ≤ 57 := by
  induction u using Nat.strongRecOn with
  | _ u ih =>
    rw [decDigits]
    split
    · exact ⟨_, [], rfl, by simp; omega, by simp; omega⟩
    · obtain ⟨c, r, e, h⟩ := ih (u / 10) (by omega)
      exact ⟨c, r ++ [_], by rw [e]; rfl, h⟩
open Go.Lib in
theorem atoi_itoa {n : Int} (h0 : 0 ≤ n) (h1 : n ≤ 9223372036854775807) : atoiAll (itoa n) = .ok n := by
  unfold itoa
  rw [if_neg (by omega)]
  obtain ⟨c, r, e, h2, h3⟩ := dec_head n.toNat
  have hp : parseMag (decDigits n.toNat) = .ok n.toNat := by
    unfold parseMag
    rw [if_neg (by rw [e]; simp), parse_dec _ _ (Nat.le_refl _) (by omega)]
  rw [e] at hp ⊢
  have e43 : ¬ c.toNat = 43 := by omega
  have e45 : ¬ c.toNat = 45 := by omega
  have h4 : ¬ 9223372036854775808 ≤ n.toNat := by omega
  simp only [atoiAll, e43, e45, or_self, if_false, hp, h4, false_and, and_false, not_false_eq_true]
  congr 1
  omega
open Go.Lib in
theorem dec_bytes (u : Nat) : ∀ c ∈ decDigits u, 48 ≤ c.toNat ∧ c.toNat ≤ 57 := by
  induction u using Nat.strongRecOn with
  | _ u ih =>
    intro c hc
    rw [decDigits] at hc
    split at hc
    · rw [List.mem_singleton.1 hc]; simp; omega
    · rcases List.mem_append.1 hc with h | h
      · exact ih (u / 10) (by omega) c h
      · rw [List.mem_singleton.1 h]; simp; omega
theorem itoa_bytes {n : Int} (h : 0 ≤ n) : ∀ c ∈ Lib.itoa n, 48 ≤ c.toNat ∧ c.toNat ≤ 57 := by
  unfold Lib.itoa
  rw [if_neg (by omega)]
  exact dec_bytes _
theorem itoa_ne {n : Int} (h : 0 ≤ n) : Lib.itoa n ≠ [] := by
  unfold Lib.itoa
  rw [if_neg (by omega)]
  obtain ⟨c, r, e, _⟩ := dec_head n.toNat
  rw [e]; simp
theorem itoa_not {n : Int} (h : 0 ≤ n) {c : UInt8} (hc : c.toNat < 48 ∨ 57 < c.toNat) : c ∉ Lib.itoa n := fun hm => by have := itoa_bytes h c hm; omega
theorem number_itoa {n : Int} (h0 : 0 ≤ n) (h1 : n ≤ 1000) : number (Lib.itoa n) = some n := by
  unfold number
  rw [atoi_itoa h0 (by omega)]
  simp [h0, h1]
theorem cutAt_hit {c : UInt8} : ∀ {p : B} (r : B), c ∉ p → cutAt c (p ++ c :: r) = (p, some r)
  | [], r, _ => by simp [cutAt]
  | x :: p, r, h => by
    have hx : x ≠ c := fun e => h (by subst e; exact List.mem_cons_self ..)
    rw [List.cons_append, cutAt, if_neg hx, cutAt_hit r (fun hm => h (List.mem_cons_of_mem _ hm))]
theorem cutAt_miss {c : UInt8} : ∀ {p : B}, c ∉ p → cutAt c p = (p, none)
  | [], _ => rfl
  | x :: p, h => by
    have hx : x ≠ c := fun e => h (by subst e; exact List.mem_cons_self ..)
    rw [cutAt, if_neg hx, cutAt_miss (fun hm => h (List.mem_cons_of_mem _ hm))]
theorem quant_brace {w r : B} {p : Int × Int} (hw : (125 : UInt8) ∉ w) (hb : braces w = some p) : quant ([123] ++ w ++ [125] ++ r) = some (some p, w.length + 2) := by
  have e : [123] ++ w ++ [125] ++ r = 123 :: (w ++ 125 :: r) := by simp
  rw [e, quant]
  simp [cutAt_hit r hw, hb]
/-- the text of a quantifier is read back -/
theorem quant_text {a b : Int} (h0 : 0 ≤ a) (h1 : a ≤ 1000) (hb : b = -1 ∨ (a ≤ b ∧ b ≤ 1000)) (r : B) : quant (quantT a b ++ r) = some (some (a, b), (quantT a b).length) := by
  have n44 := itoa_not h0 (c := 44) (by decide)
  have n125 := itoa_not h0 (c := 125) (by decide)
  unfold quantT
  by_cases c1 : a = 0 ∧ b = -1
  · rw [if_pos c1, c1.1, c1.2]; rfl
  rw [if_neg c1]
  by_cases c2 : a = 1 ∧ b = -1
  · rw [if_pos c2, c2.1, c2.2]; rfl
  rw [if_neg c2]
  by_cases c3 : a = 0 ∧ b = 1
  · rw [if_pos c3, c3.1, c3.2]; rfl
  rw [if_neg c3]
  by_cases c4 : a = b
  · rw [if_pos c4, quant_brace (p := (a, b)) n125 (by unfold braces; rw [cutAt_miss n44]; simp only [c4]; rw [← c4, number_itoa h0 h1]; rfl)]
    simp
  rw [if_neg c4]
  by_cases c5 : b = -1
  · rw [if_pos c5]
    have e : [123] ++ Lib.itoa a ++ [44, 125] = [123] ++ (Lib.itoa a ++ [44]) ++ [125] := by simp
    rw [e, quant_brace (p := (a, b)) (by simp; exact n125) (by unfold braces; rw [cutAt_hit [] n44]; simp [number_itoa h0 h1, c5])]
    simp
  rw [if_neg c5]
  have hb2 : a ≤ b ∧ b ≤ 1000 := by omega
  have n125b := itoa_not (n := b) (by omega) (c := 125) (by decide)
  have e : [123] ++ Lib.itoa a ++ [44] ++ Lib.itoa b ++ [125] = [123] ++ (Lib.itoa a ++ 44 :: Lib.itoa b) ++ [125] := by simp
  rw [e, quant_brace (p := (a, b)) (by simp; exact ⟨n125, n125b⟩) (by
    unfold braces
    rw [cutAt_hit _ n44]
    have hne := itoa_ne (n := b) (by omega)
    cases hq : Lib.itoa b with
    | nil => exact absurd hq hne
    | cons x y => rw [← hq]; simp [number_itoa h0 h1, number_itoa (n := b) (by omega) (by omega), hb2])]
  simp
  omega
theorem isMeta_byte : ∀ c : Fin 256, isMeta (c.val : Int) = decide (UInt8.ofNat c.val ∈ metas) := by decide +kernel
theorem plain_fin : ∀ c : Fin 128, 33 ≤ c.val → isMeta (c.val : Int) = false → c.val ≠ 127 → (c.val ≠ 40 ∧ c.val ≠ 41 ∧ c.val ≠ 42 ∧ c.val ≠ 43 ∧ c.val ≠ 63 ∧ c.val ≠ 123 ∧ c.val ≠ 124 ∧ c.val ≠ 46 ∧ c.val ≠ 91 ∧ c.val ≠ 92) := by decide +kernel
theorem meta_fin : ∀ c : Fin 128, isMeta (c.val : Int) = true → Rs.namedO (c.val : Int) = none ∧ Rs.escS [92, UInt8.ofNat c.val] = some ((c.val : Int), 2) ∧ Rs.sign (c.val : Int) = none ∧ c.val ≠ 120 ∧ 32 < c.val ∧ c.val < 127 ∧ Rs.letterB (c.val : Int) = false := by decide +kernel
theorem escS_meta {c : Int} (h0 : 33 ≤ c) (h1 : c ≤ 126) (hm : isMeta c = true) (rest : B) : Rs.escS (92 :: UInt8.ofNat c.toNat :: rest) = some (c, 2) ∧ Rs.namedO c = none := by
  obtain ⟨k, rfl⟩ : ∃ k : Nat, c = (k : Int) := ⟨c.toNat, by omega⟩
  obtain ⟨a1, _, a3, a4, a5, a6, a7⟩ := meta_fin ⟨k, by omega⟩ hm
  dsimp only at a1 a3 a4 a5 a6 a7
  refine ⟨?_, a1⟩
  have e : Rs.bt (92 :: UInt8.ofNat (k : Int).toNat :: rest) 1 = (k : Int) := by
    show ((UInt8.ofNat (k : Int).toNat).toNat : Int) = _
    simp; omega
  unfold Rs.escS
  have e0 : Rs.bt (92 :: UInt8.ofNat (k : Int).toNat :: rest) 0 = 92 := rfl
  rw [if_neg (by simp), if_neg (by rw [e0]; simp), e, a3]
  simp only
  rw [if_neg (by omega), if_neg (by omega), if_pos ⟨by omega, by omega, a7⟩]
theorem dec_ascii {b : UInt8} (h : b.toNat < 128) (rest : B) : Rs.decS (b :: rest) = (b.toNat, 1) := by
  unfold Rs.decS
  rw [if_neg (by simp)]
  exact Lib.decodeL_ascii b rest h
/-- the first byte of a text -/
def hd (u : B) : Int := Rs.bt u 0
theorem hd_cons (b : UInt8) (r : B) : hd (b :: r) = (b.toNat : Int) := rfl
theorem hd_app {u : B} (h : u ≠ []) (r : B) : hd (u ++ r) = hd u := by
  cases u with
  | nil => exact absurd rfl h
  | cons b t => rfl
theorem textS_shape {l : Rs.S} : ∃ r, Rs.textS l = 91 :: r := by
  unfold Rs.textS
  split
  · exact ⟨_, rfl⟩
  · exact ⟨_, rfl⟩
theorem hexS_pt {c : Int} (hp : Rs.pt c = true) : Rs.hexS (Rs.hexT 16 c.toNat) = some c := by
  have hc := (Rs.pt_iff c).1 hp
  rw [Rs.hexS_hexT (by omega)]
  congr 1
  omega
theorem hex_atom {c : Int} (hp : Rs.pt c = true) (rest : B) : atom1 ([92, 120, 123] ++ Rs.hexT 16 c.toNat ++ [125] ++ rest) = some (one c, ([92, 120, 123] ++ Rs.hexT 16 c.toNat ++ [125]).length) := by
  have hc := (Rs.pt_iff c).1 hp
  have h1 := Rs.escS_digits (d := Rs.hexT 16 c.toNat) (x := c) rest (hexS_pt hp) (Rs.hexT_len 16 c.toNat 6 (by omega) (by omega)) (Rs.hexT_ne 16 c.toNat)
  rw [if_pos hp] at h1
  have e0 : Rs.bt ([92, 120, 123] ++ Rs.hexT 16 c.toNat ++ [125] ++ rest) 0 = 92 := rfl
  have e1 : Rs.bt ([92, 120, 123] ++ Rs.hexT 16 c.toNat ++ [125] ++ rest) 1 = 120 := rfl
  have e2 : Rs.namedO 120 = none := by decide
  unfold atom1
  rw [e0, if_neg (by decide), if_neg (by decide), if_pos rfl, e1, e2, ite_self]
  simp only [h1, Option.map_some]
  simp
/-- the text of a set is read back as an atom -/
theorem atom_set {l : Rs.S} (h : Rs.right l = true) (rest : B) : atom1 (setT l ++ rest) = some (.mk 2 l 0 0 false [], (setT l).length) := by
  have hread : ∀ r, atom1 (Rs.textS l ++ r) = some (.mk 2 l 0 0 false [], (Rs.textS l).length) := fun r => by
    obtain ⟨t, ht⟩ := textS_shape (l := l)
    have e0 : Rs.bt (Rs.textS l ++ r) 0 = 91 := by rw [ht]; rfl
    unfold atom1
    rw [e0, if_neg (by decide), if_pos rfl, Rs.read_text h r]
    rfl
  unfold setT
  by_cases ha : l = allSet
  · rw [if_pos ha, ha]; rfl
  rw [if_neg ha]
  match l, h, hread with
  | [], h, hread => simp only [h, if_true]; exact hread rest
  | (a, b) :: (p :: q), h, hread => simp only [h, if_true]; exact hread rest
  | [(a, b)], h, hread =>
    simp only
    by_cases hab : a ≠ b
    · rw [if_pos hab, h, if_pos rfl]; exact hread rest
    rw [if_neg hab]
    obtain rfl : a = b := by omega
    have hp : Rs.pt a = true := (Rs.okAll h (a, a) (by simp)).1
    have hpi := (Rs.pt_iff a).1 hp
    by_cases hc : a < 33 ∨ 126 < a
    · rw [if_pos hc]
      exact hex_atom hp rest
    rw [if_neg hc]
    by_cases hm : isMeta a = true
    · rw [if_pos hm]
      obtain ⟨e1, e2⟩ := escS_meta (c := a) (by omega) (by omega) hm rest
      show atom1 (92 :: UInt8.ofNat a.toNat :: rest) = _
      have e0 : Rs.bt (92 :: UInt8.ofNat a.toNat :: rest) 0 = 92 := rfl
      have e3 : Rs.bt (92 :: UInt8.ofNat a.toNat :: rest) 1 = a := by
        show ((UInt8.ofNat a.toNat).toNat : Int) = _
        simp; omega
      unfold atom1
      rw [e0, if_neg (by decide), if_neg (by decide), if_pos rfl, e3, e2, ite_self]
      simp only [e1, Option.map_some]
      rfl
    · rw [if_neg hm]
      obtain ⟨k, rfl⟩ : ∃ k : Nat, a = (k : Int) := ⟨a.toNat, by omega⟩
      have hm' : isMeta (k : Int) = false := by simpa using hm
      have hf := plain_fin ⟨k, by omega⟩ (by simp; omega) hm' (by simp; omega)
      have e : (UInt8.ofNat (k : Int).toNat).toNat = k := by simp; omega
      have e0 : Rs.bt ([UInt8.ofNat (k : Int).toNat] ++ rest) 0 = (k : Int) := by
        show ((UInt8.ofNat (k : Int).toNat).toNat : Int) = _
        rw [e]
      have ed : Rs.decS ([UInt8.ofNat (k : Int).toNat] ++ rest) = (k, 1) := by
        show Rs.decS (UInt8.ofNat (k : Int).toNat :: rest) = _
        rw [dec_ascii (by rw [e]; omega), e]
      dsimp only at hf
      unfold atom1
      rw [e0, if_neg (by omega), if_neg (by omega), if_neg (by omega), ed]
      simp only
      rw [if_pos ⟨.inl (by omega), hm'⟩]
      rfl
/-- how the text of a set begins -/
theorem set_hd {l : Rs.S} (h : Rs.right l = true) : setT l ≠ [] ∧ hd (setT l) ≠ 40 ∧ hd (setT l) ≠ 41 ∧ hd (setT l) ≠ 42 ∧ hd (setT l) ≠ 43 ∧ hd (setT l) ≠ 63 ∧ hd (setT l) ≠ 123 ∧ hd (setT l) ≠ 124 := by
  have ht : Rs.textS l ≠ [] ∧ hd (Rs.textS l) = 91 := by
    obtain ⟨t, ht⟩ := textS_shape (l := l)
    rw [ht]; exact ⟨by simp, rfl⟩
  have fin : ∀ u : B, u ≠ [] ∧ hd u = 91 → u ≠ [] ∧ hd u ≠ 40 ∧ hd u ≠ 41 ∧ hd u ≠ 42 ∧ hd u ≠ 43 ∧ hd u ≠ 63 ∧ hd u ≠ 123 ∧ hd u ≠ 124 := by
    rintro u ⟨h1, h2⟩
    rw [h2]
    exact ⟨h1, by decide, by decide, by decide, by decide, by decide, by decide, by decide⟩
  unfold setT
  by_cases ha : l = allSet
  · rw [if_pos ha]; exact ⟨by simp, by decide, by decide, by decide, by decide, by decide, by decide, by decide⟩
  rw [if_neg ha]
  match l, h, ht with
  | [], h, ht => simp only [h, if_true]; exact fin _ ht
  | (a, b) :: (p :: q), h, ht => simp only [h, if_true]; exact fin _ ht
  | [(a, b)], h, ht =>
    simp only
    by_cases hab : a ≠ b
    · rw [if_pos hab, h, if_pos rfl]; exact fin _ ht
    rw [if_neg hab]
    by_cases hc : a < 33 ∨ 126 < a
    · rw [if_pos hc]
      show [92, 120, 123] ++ Rs.hexT 16 a.toNat ++ [125] ≠ [] ∧ _
      rw [show hd ([92, 120, 123] ++ Rs.hexT 16 a.toNat ++ [125]) = 92 from rfl]
      exact ⟨by simp, by decide, by decide, by decide, by decide, by decide, by decide, by decide⟩
    rw [if_neg hc]
    by_cases hm : isMeta a = true
    · rw [if_pos hm, show hd [92, UInt8.ofNat a.toNat] = 92 from rfl]
      exact ⟨by simp, by decide, by decide, by decide, by decide, by decide, by decide, by decide⟩
    · rw [if_neg hm]
      obtain ⟨k, rfl⟩ : ∃ k : Nat, a = (k : Int) := ⟨a.toNat, by omega⟩
      have hm' : isMeta (k : Int) = false := by simpa using hm
      have hf := plain_fin ⟨k, by omega⟩ (by simp; omega) hm' (by simp; omega)
      have e0 : hd [UInt8.ofNat (k : Int).toNat] = (k : Int) := by
        show ((UInt8.ofNat (k : Int).toNat).toNat : Int) = _
        simp; omega
      dsimp only at hf
      rw [e0]
      exact ⟨by simp, by omega, by omega, by omega, by omega, by omega, by omega, by omega⟩
end Go.Proofs.YtimahlimmblgkaaGreatDoor.Sy
namespace Go.Proofs.YtimahlimmblgkaaGreatDoor.Sy
/-- no quantifier begins here -/
def NQ (r : B) : Prop := hd r ≠ 42 ∧ hd r ≠ 43 ∧ hd r ≠ 63 ∧ hd r ≠ 123
/-- a sequence ends here -/
def Stop (r : B) : Prop := r = [] ∨ hd r = 124 ∨ hd r = 41
def Shut (r : B) : Prop := r = [] ∨ hd r = 41
theorem Shut.stop {r : B} (h : Shut r) : Stop r := h.elim .inl (fun h => .inr (.inr h))
theorem Stop.nq {r : B} (h : Stop r) : NQ r := by
  rcases h with rfl | h | h
  · exact ⟨by decide, by decide, by decide, by decide⟩
  · unfold NQ; rw [h]; exact ⟨by decide, by decide, by decide, by decide⟩
  · unfold NQ; rw [h]; exact ⟨by decide, by decide, by decide, by decide⟩
theorem byte_ne {c d : UInt8} (h : (c.toNat : Int) ≠ d.toNat) : c ≠ d := fun e => h (by rw [e])
theorem quant_none {r : B} (h : NQ r) : quant r = some (none, 0) := by
  cases r with
  | nil => rfl
  | cons c t =>
    obtain ⟨h1, h2, h3, h4⟩ := h
    rw [hd_cons] at h1 h2 h3 h4
    rw [quant, if_neg (byte_ne (d := 42) h1), if_neg (byte_ne (d := 43) h2), if_neg (byte_ne (d := 63) h3), if_neg (byte_ne (d := 123) h4)]
theorem quantifier_none {r : B} (h : NQ r) (t : T) : quantifier t r = some (t, 0) := by
  unfold quantifier
  rw [quant_none h]
theorem pCat_stop {f : Nat} {r : B} {acc : List T} (h : Stop r) : pCat (f + 1) r acc = some (join 3 acc, 0) := by
  cases r with
  | nil => rw [pCat]
  | cons c t =>
    rw [pCat]
    rcases h with h | h | h
    · cases h
    · rw [if_pos (.inl (by rw [hd_cons] at h; exact UInt8.toNat_inj.1 (by simp; omega)))]
    · rw [if_pos (.inr (by rw [hd_cons] at h; exact UInt8.toNat_inj.1 (by simp; omega)))]
theorem pCat_step {f : Nat} {s : B} {acc : List T} {n m : T} {k j : Nat} (h0 : s ≠ []) (h1 : hd s ≠ 124) (h2 : hd s ≠ 41) (ha : pAtom f s = some (n, k)) (hq : quantifier n (s.drop k) = some (m, j)) :
    pCat (f + 1) s acc = (pCat f (s.drop (k + j)) (acc ++ [m])).map (fun p => (p.1, k + j + p.2)) := by
  cases s with
  | nil => exact absurd rfl h0
  | cons c t =>
    rw [hd_cons] at h1 h2
    rw [pCat, if_neg (fun e => e.elim (byte_ne (d := 124) h1) (byte_ne (d := 41) h2))]
    simp only [ha, hq]
structure Hd (u : B) : Prop where
  ne : u ≠ []
  h1 : hd u ≠ 124
  h2 : hd u ≠ 41
  nq : NQ u
theorem Hd.open {u : B} (h : hd u = 40) : Hd u := by
  refine ⟨fun e => by rw [e] at h; exact absurd h (by decide), ?_, ?_, ?_⟩
  · rw [h]; decide
  · rw [h]; decide
  · unfold NQ; rw [h]; exact ⟨by decide, by decide, by decide, by decide⟩
theorem nq_of {u : B} {c : Int} (h : hd u = c) (hc : c = 40 ∨ c = 124) : NQ u := by
  unfold NQ; rw [h]; omega
structure AtomOK (t : T) (u : B) : Prop extends Hd u where
  at_ : ∀ f rest, 3 * (u.length + rest.length) + 1 ≤ f → pAtom f (u ++ rest) = some (t, u.length)
structure ItemOK (t : T) (u : B) : Prop extends Hd u where
  it : ∀ f rest acc, NQ rest → 3 * (u.length + rest.length) + 1 ≤ f → pCat (f + 1) (u ++ rest) acc = (pCat f rest (acc ++ [t])).map (fun p => (p.1, u.length + p.2))
def CatOK (t : T) (u : B) : Prop := ∀ f rest, Stop rest → 3 * (u.length + rest.length) + 2 ≤ f → pCat f (u ++ rest) [] = some (t, u.length)
def AltOK (t : T) (u : B) : Prop := ∀ f rest, Shut rest → 3 * (u.length + rest.length) + 3 ≤ f → pAlt f (u ++ rest) [] = some (t, u.length)
theorem AtomOK.item {t : T} {u : B} (h : AtomOK t u) : ItemOK t u := by
  refine ⟨h.toHd, fun f rest acc hq hf => ?_⟩
  rw [pCat_step (s := u ++ rest) (n := t) (k := u.length) (m := t) (j := 0) (by simp [h.ne]) (by rw [hd_app h.ne]; exact h.h1) (by rw [hd_app h.ne]; exact h.h2) (h.at_ f rest hf) (by rw [List.drop_left]; exact quantifier_none hq t)]
  simp
theorem AtomOK.quant {t : T} {u : B} (h : AtomOK t u) {a b : Int} (z : Bool) (h0 : 0 ≤ a) (h1 : a ≤ 1000) (hb : b = -1 ∨ (a ≤ b ∧ b ≤ 1000)) : ItemOK (.mk 5 [] a b z [t]) (u ++ quantT a b ++ (if z then [63] else [])) := by
  refine ⟨⟨by simp [h.ne], by rw [List.append_assoc, hd_app h.ne]; exact h.h1, by rw [List.append_assoc, hd_app h.ne]; exact h.h2, by unfold NQ; rw [List.append_assoc, hd_app h.ne]; exact h.nq⟩, fun f rest acc hq hf => ?_⟩
  have e : u ++ quantT a b ++ (if z then [63] else []) ++ rest = u ++ (quantT a b ++ ((if z then [63] else []) ++ rest)) := by simp
  have hqq : quantifier t (quantT a b ++ ((if z then [63] else []) ++ rest)) = some (.mk 5 [] a b z [t], (quantT a b ++ (if z then [63] else [])).length) := by
    unfold quantifier
    rw [quant_text h0 h1 hb]
    simp only
    have e2 : (quantT a b ++ ((if z then [63] else []) ++ rest))[(quantT a b).length]? = ((if z then [63] else []) ++ rest)[0]? := by
      rw [List.getElem?_append_right (Nat.le_refl _), Nat.sub_self]
    rw [e2]
    cases z with
    | true => simp
    | false =>
      rw [if_neg (by
        cases rest with
        | nil => simp
        | cons c r =>
          obtain ⟨_, _, h3, _⟩ := hq
          rw [hd_cons] at h3
          simp
          exact byte_ne (d := 63) h3)]
      simp
  rw [e, pCat_step (s := u ++ (quantT a b ++ ((if z then [63] else []) ++ rest))) (n := t) (k := u.length) (by simp [h.ne]) (by rw [hd_app h.ne]; exact h.h1) (by rw [hd_app h.ne]; exact h.h2)
    (h.at_ f _ (by simp at hf ⊢; omega)) (by rw [List.drop_left]; exact hqq)]
  have e3 : (u ++ (quantT a b ++ ((if z then [63] else []) ++ rest))).drop (u.length + (quantT a b ++ (if z then [63] else [])).length) = rest := by
    rw [← List.length_append, show u ++ (quantT a b ++ ((if z then [63] else []) ++ rest)) = (u ++ (quantT a b ++ (if z then [63] else []))) ++ rest by simp, List.drop_left]
  rw [e3]
  simp [Nat.add_assoc]
theorem ItemOK.cat {t : T} {u : B} (h : ItemOK t u) : CatOK t u := by
  intro f rest hs hf
  obtain ⟨g, rfl⟩ : ∃ g, f = g + 1 + 1 := ⟨f - 2, by omega⟩
  rw [h.it (g + 1) rest [] hs.nq (by omega), pCat_stop hs]
  rfl
theorem CatOK.alt {t : T} {u : B} (h : CatOK t u) : AltOK t u := by
  intro f rest hs hf
  obtain ⟨g, rfl⟩ : ∃ g, f = g + 1 := ⟨f - 1, by omega⟩
  rw [pAlt, h g rest hs.stop (by omega)]
  simp only
  rw [if_neg (by
    rw [List.getElem?_append_right (Nat.le_refl _), Nat.sub_self]
    cases rest with
    | nil => simp
    | cons c r =>
      rcases hs with hs | hs
      · cases hs
      · rw [hd_cons] at hs
        simp
        exact byte_ne (d := 124) (by simp; omega))]
  rfl
theorem AltOK.brk {t : T} {u : B} (h : AltOK t u) : AtomOK t (brk true u) := by
  refine ⟨.open rfl, fun f rest hf => ?_⟩
  have hl : (Sy.brk true u).length = u.length + 4 := by simp [Sy.brk]
  obtain ⟨g, rfl⟩ : ∃ g, f = g + 1 := ⟨f - 1, by omega⟩
  have e : Sy.brk true u ++ rest = 40 :: 63 :: 58 :: (u ++ 41 :: rest) := by simp [Sy.brk]
  rw [e, pAtom, if_pos (by rfl)]
  rw [show (40 :: 63 :: 58 :: (u ++ 41 :: rest) : B).drop 3 = u ++ 41 :: rest from rfl, h g (41 :: rest) (.inr rfl) (by simp at hf ⊢; omega)]
  simp only
  rw [if_pos (by
    show (40 :: 63 :: 58 :: (u ++ 41 :: rest) : B)[u.length + 3]? = _
    simp), hl]
theorem AltOK.group {t : T} {u : B} (h : AltOK t u) (hq : hd u ≠ 63) : AtomOK (.mk 6 [] 0 0 false [t]) ([40] ++ u ++ [41]) := by
  refine ⟨.open rfl, fun f rest hf => ?_⟩
  have hl : ([40] ++ u ++ [41] : B).length = u.length + 2 := by simp
  obtain ⟨g, rfl⟩ : ∃ g, f = g + 1 := ⟨f - 1, by omega⟩
  have e : [40] ++ u ++ [41] ++ rest = 40 :: (u ++ 41 :: rest) := by simp
  rw [e, pAtom, if_neg (by
    intro e
    cases u with
    | nil => simp at e
    | cons c r => simp at e; rw [hd_cons, e.1] at hq; exact hq rfl), if_pos (by rfl)]
  rw [show (40 :: (u ++ 41 :: rest) : B).drop 1 = u ++ 41 :: rest from rfl, h g (41 :: rest) (.inr rfl) (by simp at hf ⊢; omega)]
  simp only
  rw [if_pos (by
    show (40 :: (u ++ 41 :: rest) : B)[u.length + 1]? = _
    simp), hl]
theorem items_ok : ∀ (l : List T) (f : Nat) (rest : B) (acc : List T), (∀ t ∈ l, ItemOK t (wr [3, 4, 1] t)) → Stop rest → 3 * ((wrL [3, 4, 1] l).length + rest.length) + 2 ≤ f →
    pCat f (wrL [3, 4, 1] l ++ rest) acc = some (join 3 (acc ++ l), (wrL [3, 4, 1] l).length)
  | [], f, rest, acc, _, hs, hf => by
    obtain ⟨g, rfl⟩ : ∃ g, f = g + 1 := ⟨f - 1, by omega⟩
    rw [wrL, List.nil_append, pCat_stop hs, List.append_nil]
    rfl
  | t :: r, f, rest, acc, hl, hs, hf => by
    have ht := hl t (List.mem_cons_self ..)
    have hnq : NQ (wrL [3, 4, 1] r ++ rest) := by
      cases r with
      | nil => rw [wrL]; exact hs.nq
      | cons x y =>
        have hx := hl x (by simp)
        rw [wrL, List.append_assoc]
        unfold NQ
        rw [hd_app hx.ne]
        exact hx.nq
    have hlen := List.length_pos_iff.2 ht.ne
    rw [wrL, List.length_append] at hf
    obtain ⟨g, rfl⟩ : ∃ g, f = g + 1 := ⟨f - 1, by omega⟩
    rw [wrL, List.append_assoc, ht.it g _ acc hnq (by rw [List.length_append]; omega), items_ok r g rest _ (fun x hx => hl x (List.mem_cons_of_mem _ hx)) hs (by omega)]
    simp
theorem wrA_cons (t u : T) (r : List T) : wrA true (t :: u :: r) = wr [4] t ++ 124 :: wrA true (u :: r) := by simp [wrA]
theorem alts_ok : ∀ (r : List T) (t : T) (f : Nat) (rest : B) (acc : List T), (∀ x ∈ t :: r, CatOK x (wr [4] x)) → Shut rest → 3 * ((wrA true (t :: r)).length + rest.length) + 3 ≤ f →
    pAlt f (wrA true (t :: r) ++ rest) acc = some (join 4 (acc ++ t :: r), (wrA true (t :: r)).length)
  | [], t, f, rest, acc, hl, hs, hf => by
    have e : wrA true [t] = wr [4] t := by simp [wrA]
    rw [e] at hf ⊢
    obtain ⟨g, rfl⟩ : ∃ g, f = g + 1 := ⟨f - 1, by omega⟩
    rw [pAlt, hl t (by simp) g rest hs.stop (by omega)]
    simp only
    rw [if_neg (by
      rw [List.getElem?_append_right (Nat.le_refl _), Nat.sub_self]
      cases rest with
      | nil => simp
      | cons c r =>
        rcases hs with hs | hs
        · cases hs
        · rw [hd_cons] at hs
          simp
          exact byte_ne (d := 124) (by simp; omega))]
  | u :: r, t, f, rest, acc, hl, hs, hf => by
    rw [wrA_cons] at hf ⊢
    rw [List.length_append, List.length_cons] at hf
    obtain ⟨g, rfl⟩ : ∃ g, f = g + 1 := ⟨f - 1, by omega⟩
    have e : wr [4] t ++ 124 :: wrA true (u :: r) ++ rest = wr [4] t ++ (124 :: (wrA true (u :: r) ++ rest)) := by simp
    rw [e, pAlt, hl t (by simp) g (124 :: (wrA true (u :: r) ++ rest)) (.inr (.inl rfl)) (by simp; omega)]
    simp only
    rw [if_pos (by rw [List.getElem?_append_right (Nat.le_refl _), Nat.sub_self]; rfl)]
    have e2 : (wr [4] t ++ 124 :: (wrA true (u :: r) ++ rest)).drop ((wr [4] t).length + 1) = wrA true (u :: r) ++ rest := by
      rw [← List.drop_drop, List.drop_left]; rfl
    rw [e2, alts_ok r u g rest (acc ++ [t]) (fun x hx => hl x (List.mem_cons_of_mem _ hx)) hs (by omega)]
    simp
    omega
theorem join_many {k : Int} {l : List T} (h : 2 ≤ l.length) : join k l = .mk k [] 0 0 false l := by
  match l, h with
  | a :: b :: r, _ => rfl
theorem wr_brk (ks : List Int) (t : T) : wr ks t = brk (decide (kindT t ∈ ks)) (wr [] t) := by
  cases t with
  | mk k s a b z l => simp only [wr, kindT]; rfl
/-- what is shown of a tree -/
structure Back (t : T) : Prop where
  alt : AltOK t (wr [] t)
  cat : kindT t ≠ 4 → CatOK t (wr [] t)
  atom : kindT t = 2 ∨ kindT t = 6 → AtomOK t (wr [] t)
  item : kindT t = 5 → ItemOK t (wr [] t)
  nq : NQ (wr [] t)
  kind : 1 ≤ kindT t ∧ kindT t ≤ 6
theorem Back.three {t : T} (h : Back t) : ItemOK t (wr [3, 4, 1] t) := by
  rw [wr_brk]
  by_cases hk : kindT t ∈ [3, 4, 1]
  · rw [decide_eq_true hk]; exact h.alt.brk.item
  · rw [decide_eq_false hk]
    have hk' : kindT t = 2 ∨ kindT t = 5 ∨ kindT t = 6 := by have := h.kind; simp at hk; omega
    show ItemOK t (wr [] t)
    rcases hk' with e | e | e
    · exact (h.atom (.inl e)).item
    · exact h.item e
    · exact (h.atom (.inr e)).item
theorem Back.four {t : T} (h : Back t) : AtomOK t (wr [1, 3, 4, 5] t) := by
  rw [wr_brk]
  by_cases hk : kindT t ∈ [1, 3, 4, 5]
  · rw [decide_eq_true hk]; exact h.alt.brk
  · rw [decide_eq_false hk]
    exact h.atom (by have := h.kind; simp at hk; omega)
theorem Back.one {t : T} (h : Back t) : CatOK t (wr [4] t) := by
  rw [wr_brk]
  by_cases hk : kindT t ∈ [4]
  · rw [decide_eq_true hk]; exact h.alt.brk.item.cat
  · rw [decide_eq_false hk]
    exact h.cat (by simpa using hk)
theorem Back.of_item {t : T} (h : ItemOK t (wr [] t)) (ha : kindT t = 2 ∨ kindT t = 6 → AtomOK t (wr [] t)) (hk : 1 ≤ kindT t ∧ kindT t ≤ 6) : Back t :=
  ⟨h.cat.alt, fun _ => h.cat, ha, fun _ => h, h.nq, hk⟩
theorem nq_nil : NQ [] := ⟨by decide, by decide, by decide, by decide⟩
/-- the text of a tree is read back -/
theorem back : ∀ t : T, (look t).shaped = true → Back t := by
  intro t
  induction t using T.ind with
  | _ k s a b z l ih =>
    intro hs
    rw [look_shaped, Bool.and_eq_true] at hs
    obtain ⟨h1, h2⟩ := hs
    have hsub : ∀ t, t ∈ l → Back t := fun t ht => ih t ht (List.all_eq_true.1 h2 t ht)
    rcases shapedN_cases h1 with ⟨rfl, rfl, rfl, rfl, rfl, hl⟩ | ⟨rfl, hr, rfl, rfl, rfl, hl⟩ | ⟨rfl, rfl, rfl, rfl, rfl, hl⟩ | ⟨rfl, rfl, rfl, rfl, rfl, hl⟩ | ⟨rfl, rfl, ha, hb, hl⟩ | ⟨rfl, rfl, rfl, rfl, rfl, hl⟩
    · obtain rfl := List.eq_nil_of_length_eq_zero hl
      have e : wr [] (.mk 1 [] 0 0 false []) = [] := rfl
      have hc : CatOK (.mk 1 [] 0 0 false []) [] := fun f rest hs hf => by
        obtain ⟨g, rfl⟩ : ∃ g, f = g + 1 := ⟨f - 1, by omega⟩
        rw [List.nil_append, pCat_stop hs]; rfl
      exact ⟨by rw [e]; exact hc.alt, fun _ => by rw [e]; exact hc, fun h => by simp [kindT] at h, fun h => by simp [kindT] at h, by rw [e]; exact nq_nil, by simp [kindT]⟩
    · obtain rfl := List.eq_nil_of_length_eq_zero hl
      have e : wr [] (.mk 2 s 0 0 false []) = setT s := rfl
      obtain ⟨g0, g1, g2, g3, g4, g5, g6, g7⟩ := set_hd hr
      have hA : AtomOK (.mk 2 s 0 0 false []) (setT s) := by
        refine ⟨⟨g0, g7, g2, ⟨g3, g4, g5, g6⟩⟩, fun f rest hf => ?_⟩
        obtain ⟨g, rfl⟩ : ∃ g, f = g + 1 := ⟨f - 1, by omega⟩
        have h40 : (setT s ++ rest).take 1 ≠ [40] := by
          cases hu : setT s with
          | nil => exact absurd hu g0
          | cons c r =>
            rw [hu, hd_cons] at g1
            simp
            exact byte_ne (d := 40) g1
        rw [pAtom, if_neg (fun e3 => h40 (by
          have := congrArg (List.take 1) e3
          rw [List.take_take] at this
          exact this)), if_neg h40, atom_set hr rest]
      exact Back.of_item (by rw [e]; exact hA.item) (fun _ => by rw [e]; exact hA) (by simp [kindT])
    · have e : wr [] (.mk 3 [] 0 0 false l) = wrL [3, 4, 1] l := rfl
      have hc : CatOK (.mk 3 [] 0 0 false l) (wrL [3, 4, 1] l) := fun f rest hs hf => by
        rw [items_ok l f rest [] (fun t ht => (hsub t ht).three) hs hf, List.nil_append, join_many hl]
      have hnq : NQ (wrL [3, 4, 1] l) := by
        match l, hl, hsub with
        | x :: y :: r, _, hsub =>
          have hx := (hsub x (by simp)).three
          rw [wrL]
          unfold NQ
          rw [hd_app hx.ne]
          exact hx.nq
      exact ⟨by rw [e]; exact hc.alt, fun _ => by rw [e]; exact hc, fun h => by simp [kindT] at h, fun h => by simp [kindT] at h, by rw [e]; exact hnq, by simp [kindT]⟩
    · have e : wr [] (.mk 4 [] 0 0 false l) = wrA true l := rfl
      have hA : AltOK (.mk 4 [] 0 0 false l) (wrA true l) := fun f rest hs hf => by
        match l, hl, hsub with
        | x :: y :: r, hl, hsub =>
          rw [alts_ok (y :: r) x f rest [] (fun t ht => (hsub t ht).one) hs hf, List.nil_append, join_many hl]
      have hnq : NQ (wrA true l) := by
        match l, hl, hsub with
        | x :: y :: r, _, hsub =>
          rw [wrA_cons]
          have hx := hsub x (by simp)
          rw [wr_brk]
          by_cases hk : kindT x ∈ [4]
          · rw [decide_eq_true hk]
            exact nq_of (c := 40) rfl (.inl rfl)
          · rw [decide_eq_false hk]
            show NQ (wr [] x ++ _)
            by_cases hn : wr [] x = []
            · rw [hn]; exact nq_of (c := 124) rfl (.inr rfl)
            · unfold NQ; rw [hd_app hn]; exact hx.nq
      exact ⟨by rw [e]; exact hA, fun h => by simp [kindT] at h, fun h => by simp [kindT] at h, fun h => by simp [kindT] at h, by rw [e]; exact hnq, by simp [kindT]⟩
    · match l, hl, hsub with
      | [x], _, hsub =>
        have e : wr [] (.mk 5 [] a b z [x]) = wr [1, 3, 4, 5] x ++ quantT a b ++ (if z then [63] else []) := rfl
        exact Back.of_item (by rw [e]; exact (hsub x (by simp)).four.quant z ha.1 ha.2 hb) (fun h => by simp [kindT] at h) (by simp [kindT])
    · match l, hl, hsub with
      | [x], _, hsub =>
        have e : wr [] (.mk 6 [] 0 0 false [x]) = [40] ++ wr [] x ++ [41] := rfl
        have hx := hsub x (by simp)
        have hA := hx.alt.group hx.nq.2.2.1
        exact Back.of_item (by rw [e]; exact hA.item) (fun _ => by rw [e]; exact hA) (by simp [kindT])
end Go.Proofs.YtimahlimmblgkaaGreatDoor.Sy
namespace Go.Proofs.YtimahlimmblgkaaGreatDoor.Sy
theorem right_one {c : Int} (h : Rs.pt c = true) : Rs.right [(c, c)] = true := by
  have hc := (Rs.pt_iff c).1 h
  simp [Rs.right, Rs.rightA, Rs.okR, h]
  omega
theorem leaf_shaped {l : Rs.S} (h : Rs.right l = true) : (look (.mk 2 l 0 0 false [])).shaped = true := by
  rw [look_shaped]; simp [shapedN, h]
theorem namedO_right {c : Int} {l : Rs.S} (h : Rs.namedO c = some l) : Rs.right l = true := by
  unfold Rs.namedO at h
  repeat' split at h
  · cases h; decide
  · cases h; decide
  · cases h; decide
  · cases h; exact Rs.notS_right (by decide)
  · cases h; exact Rs.notS_right (by decide)
  · cases h; exact Rs.notS_right (by decide)
  · cases h
theorem atom1_ok {s : B} {t : T} {k : Nat} (hs : s ≠ []) (h : atom1 s = some (t, k)) : (look t).shaped = true ∧ 1 ≤ k ∧ k ≤ s.length ∧ cnt t = 1 := by
  have hl := List.length_pos_iff.2 hs
  unfold atom1 at h
  split at h
  · cases h; exact ⟨leaf_shaped (by decide), by omega, by omega, rfl⟩
  split at h
  · rename_i h91
    cases hr : Rs.readF s with
    | none => rw [hr] at h; cases h
    | some p =>
      rw [hr] at h
      cases h
      obtain ⟨l, n⟩ := p
      cases s with
      | nil => exact absurd rfl hs
      | cons c r =>
        have hc : c = 91 := by
          have : (c.toNat : Int) = 91 := h91
          exact UInt8.toNat_inj.1 (by simp; omega)
        subst hc
        obtain ⟨h1, h2, h3, _⟩ := Rs.read_any hr
        exact ⟨leaf_shaped h1, by simp only; omega, by simp only [List.length_cons]; omega, rfl⟩
  split at h
  · split at h
    · rename_i l hn
      cases h
      split at hn
      · exact ⟨leaf_shaped (namedO_right hn), by omega, by omega, rfl⟩
      · cases hn
    · cases he : Rs.escS s with
      | none => rw [he] at h; cases h
      | some p =>
        rw [he] at h
        cases h
        obtain ⟨c, n⟩ := p
        obtain ⟨h1, h2, h3⟩ := Rs.escS_ok he
        exact ⟨leaf_shaped (right_one h1), by simp only; omega, h3, rfl⟩
  split at h
  · cases h
    obtain ⟨h1, h2, h3⟩ := Rs.decS_ok hs
    exact ⟨leaf_shaped (right_one h1), h2, h3, rfl⟩
  · cases h
theorem number_ok {w : B} {n : Int} (h : number w = some n) : 0 ≤ n ∧ n ≤ 1000 := by
  unfold number at h
  split at h
  · split at h
    · rename_i hc; cases h; exact ⟨hc.1, hc.2.1⟩
    · cases h
  · cases h
theorem cutAt_len {c : UInt8} : ∀ {s w r : B}, cutAt c s = (w, some r) → s = w ++ c :: r
  | [], w, r, h => by simp [cutAt] at h
  | x :: s, w, r, h => by
    rw [cutAt] at h
    split at h
    · rename_i hx
      simp only [Prod.mk.injEq, Option.some.injEq] at h
      obtain ⟨rfl, rfl⟩ := h
      rw [hx]; rfl
    · simp only [Prod.mk.injEq] at h
      obtain ⟨rfl, h2⟩ := h
      have := cutAt_len (s := s) (w := (cutAt c s).1) (r := r) (by rw [← h2])
      rw [List.cons_append, ← this]
theorem braces_ok {w : B} {a b : Int} (h : braces w = some (a, b)) : 0 ≤ a ∧ a ≤ 1000 ∧ (b = -1 ∨ (a ≤ b ∧ b ≤ 1000)) := by
  unfold braces at h
  split at h
  · rename_i low _
    cases hn : number low with
    | none => rw [hn] at h; cases h
    | some n => rw [hn] at h; cases h; have := number_ok hn; omega
  · rename_i low _
    cases hn : number low with
    | none => rw [hn] at h; cases h
    | some n => rw [hn] at h; cases h; have := number_ok hn; omega
  · split at h
    · rename_i x y hx hy
      have := number_ok hx
      have := number_ok hy
      split at h
      · cases h; omega
      · cases h
    · cases h
theorem quant_ok {s : B} {o : Option (Int × Int)} {k : Nat} (h : quant s = some (o, k)) : k ≤ s.length ∧ match o with
    | none => k = 0
    | some p => 1 ≤ k ∧ 0 ≤ p.1 ∧ p.1 ≤ 1000 ∧ (p.2 = -1 ∨ (p.1 ≤ p.2 ∧ p.2 ≤ 1000)) := by
  cases s with
  | nil => cases h; exact ⟨Nat.le_refl _, rfl⟩
  | cons c r =>
    rw [quant] at h
    split at h
    · cases h; exact ⟨by simp, by simp⟩
    split at h
    · cases h; exact ⟨by simp, by simp⟩
    split at h
    · cases h; exact ⟨by simp, by simp⟩
    split at h
    · split at h
      · cases h
      · rename_i w x hc
        cases hb : braces w with
        | none => rw [hb] at h; cases h
        | some p =>
          rw [hb] at h
          cases h
          have := cutAt_len hc
          obtain ⟨a, b⟩ := p
          have hbb := braces_ok hb
          refine ⟨by rw [this]; simp, by omega, hbb.1, hbb.2.1, hbb.2.2⟩
    · cases h; exact ⟨Nat.zero_le _, rfl⟩
theorem rep_shaped {a b : Int} {z : Bool} {n : T} (h : (look n).shaped = true) (h0 : 0 ≤ a) (h1 : a ≤ 1000) (hb : b = -1 ∨ (a ≤ b ∧ b ≤ 1000)) : (look (.mk 5 [] a b z [n])).shaped = true := by
  rw [look_shaped]; simp [shapedN, h, h0, h1]; exact hb
theorem quantifier_ok {n m : T} {s : B} {j : Nat} (hn : (look n).shaped = true) (h : quantifier n s = some (m, j)) : (look m).shaped = true ∧ j ≤ s.length ∧ ((j = 0 ∧ m = n) ∨ (1 ≤ j ∧ cnt m = cnt n + 1)) := by
  unfold quantifier at h
  split at h
  · cases h
  · cases h; exact ⟨hn, Nat.zero_le _, .inl ⟨rfl, rfl⟩⟩
  · rename_i a b k hq
    obtain ⟨h1, h2, h3, h4, h5⟩ := quant_ok hq
    have hc : ∀ z, cnt (.mk 5 [] a b z [n]) = cnt n + 1 := fun z => by simp [cnt, cntL]
    split at h
    · rename_i hk
      cases h
      have := (List.getElem?_eq_some_iff.1 hk).1
      exact ⟨rep_shaped hn h3 h4 h5, by omega, .inr ⟨by omega, hc _⟩⟩
    · cases h
      exact ⟨rep_shaped hn h3 h4 h5, h1, .inr ⟨h2, hc _⟩⟩
theorem cntL_append : ∀ l m : List T, cntL (l ++ m) = cntL l + cntL m
  | [], m => by simp [cntL]
  | t :: l, m => by rw [List.cons_append, cntL, cntL, cntL_append l m]; omega
theorem join_cnt (k : Int) (l : List T) : cnt (join k l) ≤ cntL l + 1 := by
  match l with
  | [] => exact Nat.le_refl _
  | [t] => simp [join, cntL]
  | a :: b :: r => simp [join, cnt]
theorem join_shaped {k : Int} (hk : k = 3 ∨ k = 4) {l : List T} (h : ∀ t ∈ l, (look t).shaped = true) : (look (join k l)).shaped = true := by
  match l, h with
  | [], _ => rfl
  | [t], h => exact h t (by simp)
  | a :: b :: r, h =>
    rw [join_many (by simp), look_shaped, Bool.and_eq_true]
    refine ⟨?_, List.all_eq_true.2 h⟩
    rcases hk with rfl | rfl <;> simp [shapedN]
def AllSh (l : List T) : Prop := ∀ t ∈ l, (look t).shaped = true
theorem AllSh.snoc {l : List T} {t : T} (h : AllSh l) (ht : (look t).shaped = true) : AllSh (l ++ [t]) := fun x hx => by
  rcases List.mem_append.1 hx with hx | hx
  · exact h x hx
  · rw [List.mem_singleton.1 hx]; exact ht
theorem p_ok : ∀ f : Nat, (∀ (s : B) (acc : List T) (t : T) (k : Nat), AllSh acc → pAlt f s acc = some (t, k) → (look t).shaped = true ∧ k ≤ s.length ∧ cnt t ≤ cntL acc + 2 * k + 2) ∧
    (∀ (s : B) (acc : List T) (t : T) (k : Nat), AllSh acc → pCat f s acc = some (t, k) → (look t).shaped = true ∧ k ≤ s.length ∧ cnt t ≤ cntL acc + 2 * k + 1) ∧
    (∀ (s : B) (t : T) (k : Nat), s ≠ [] → pAtom f s = some (t, k) → (look t).shaped = true ∧ 1 ≤ k ∧ k ≤ s.length ∧ cnt t ≤ 2 * k)
  | 0 => ⟨fun _ _ _ _ _ h => by simp [pAlt] at h, fun _ _ _ _ _ h => by simp [pCat] at h, fun _ _ _ _ h => by simp [pAtom] at h⟩
  | f + 1 => by
    obtain ⟨iA, iC, iT⟩ := p_ok f
    refine ⟨fun s acc t k ha h => ?_, fun s acc t k ha h => ?_, fun s t k hs h => ?_⟩
    · rw [pAlt] at h
      split at h
      · cases h
      · rename_i n j hc
        obtain ⟨h1, h2, h3⟩ := iC s [] n j (fun _ h => by cases h) hc
        rw [cntL] at h3
        split at h
        · rename_i hj
          have hj := (List.getElem?_eq_some_iff.1 hj).1
          cases hp : pAlt f (s.drop (j + 1)) (acc ++ [n]) with
          | none => rw [hp] at h; cases h
          | some p =>
            rw [hp] at h
            cases h
            obtain ⟨g1, g2, g3⟩ := iA _ _ p.1 p.2 (ha.snoc h1) hp
            rw [List.length_drop] at g2
            rw [cntL_append, cntL, cntL] at g3
            exact ⟨g1, by omega, by omega⟩
        · cases h
          refine ⟨join_shaped (.inr rfl) (ha.snoc h1), h2, ?_⟩
          have := join_cnt 4 (acc ++ [n])
          rw [cntL_append, cntL, cntL] at this
          omega
    · cases s with
      | nil =>
        rw [pCat] at h
        cases h
        have := join_cnt 3 acc
        exact ⟨join_shaped (.inl rfl) ha, Nat.zero_le _, by omega⟩
      | cons c r =>
        rw [pCat] at h
        split at h
        · cases h
          have := join_cnt 3 acc
          exact ⟨join_shaped (.inl rfl) ha, Nat.zero_le _, by omega⟩
        · split at h
          · cases h
          · rename_i n j hat
            obtain ⟨h1, h2, h3, h4⟩ := iT _ n j (by simp) hat
            split at h
            · cases h
            · rename_i m i hq
              obtain ⟨h5, h6, h7⟩ := quantifier_ok h1 hq
              rw [List.length_drop] at h6
              cases hp : pCat f ((c :: r).drop (j + i)) (acc ++ [m]) with
              | none => rw [hp] at h; cases h
              | some p =>
                rw [hp] at h
                cases h
                obtain ⟨g1, g2, g3⟩ := iC _ _ p.1 p.2 (ha.snoc h5) hp
                rw [List.length_drop] at g2
                rw [cntL_append, cntL, cntL] at g3
                have h8 : cnt m ≤ 2 * (j + i) := by
                  rcases h7 with ⟨_, e⟩ | ⟨_, e⟩
                  · rw [e]; omega
                  · omega
                exact ⟨g1, by omega, by omega⟩
    · rw [pAtom] at h
      split at h
      · rename_i h3
        have hl : 3 ≤ s.length := by
          have := congrArg List.length h3
          simp at this
          omega
        split at h
        · cases h
        · rename_i n j hc
          obtain ⟨g1, g2, g3⟩ := iA _ _ n j (fun _ h => by cases h) hc
          rw [List.length_drop] at g2
          rw [cntL] at g3
          split at h
          · rename_i hj
            have hj := (List.getElem?_eq_some_iff.1 hj).1
            cases h
            exact ⟨g1, by omega, by omega, by omega⟩
          · cases h
      · split at h
        · split at h
          · cases h
          · rename_i n j hc
            obtain ⟨g1, g2, g3⟩ := iA _ _ n j (fun _ h => by cases h) hc
            rw [List.length_drop] at g2
            rw [cntL] at g3
            split at h
            · rename_i hj
              have hj := (List.getElem?_eq_some_iff.1 hj).1
              cases h
              have hl := List.length_pos_iff.2 hs
              refine ⟨?_, by omega, by omega, by simp [cnt, cntL]; omega⟩
              rw [look_shaped]
              simp [shapedN, g1]
            · cases h
        · obtain ⟨g1, g2, g3, g4⟩ := atom1_ok hs h
          exact ⟨g1, g2, g3, by omega⟩
theorem parse_ok {s : B} {t : T} (h : parse s = .ok t) : right t = true ∧ cnt t ≤ 2050 ∧ s.length ≤ 1024 := by
  unfold parse at h
  split at h
  · cases h
  rename_i hl
  split at h
  · cases h
  rename_i n k hp
  obtain ⟨h1, h2, h3⟩ := (p_ok _).1 s [] n k (fun _ h => by cases h) hp
  rw [cntL] at h3
  split at h
  · cases h
  split at h
  · cases h
  rename_i hf
  split at h
  · cases h
  rename_i hg
  split at h
  · cases h
  rename_i hd
  cases h
  refine ⟨?_, by omega, by omega⟩
  unfold right rightF
  have hf' : (look t).firm = true := by simpa using hf
  rw [h1, hf']
  simp
  omega
theorem right_parts {t : T} (h : right t = true) : (look t).shaped = true ∧ (look t).firm = true ∧ (look t).groups ≤ 30 ∧ (look t).depth ≤ 40 := by
  unfold right rightF at h
  simp at h
  exact ⟨h.1.1.1, h.1.1.2, h.1.2, h.2⟩
/-- the text of a right tree is a pattern whose tree is that tree -/
theorem parse_text {t : T} (h : right t = true) (hl : (wr [] t).length ≤ 1024) : parse (wr [] t) = .ok t := by
  obtain ⟨h1, h2, h3, h4⟩ := right_parts h
  have hb := (back t h1).alt (3 * (wr [] t).length + 3) [] (.inl rfl) (by simp)
  rw [List.append_nil] at hb
  unfold parse
  rw [if_neg (by omega), hb]
  simp only
  rw [if_neg (by omega), if_neg (by rw [h2]; simp), if_neg (by omega), if_neg (by omega)]
mutual
theorem nulP_eq : ∀ t : T, nulP t = (look t).nul
  | .mk k s a b z l => by
    rw [nulP, nulL_eq l, look_nul]
    by_cases h1 : k = 1
    · subst h1; simp
    · by_cases h3 : k = 3
      · subst h3; simp
      · by_cases h5 : k = 5
        · subst h5; simp
        · simp [h1, h3, h5]
theorem nulL_eq : ∀ (l : List T) (p : Bool × Bool), nulL l p = (p.1 || l.any (fun t => (look t).nul), p.2 && l.all (fun t => (look t).nul))
  | [], p => by simp [nulL]
  | t :: l, p => by rw [nulL, nulL_eq l, nulP_eq t]; simp [Bool.or_assoc, Bool.and_assoc]
end
end Go.Proofs.YtimahlimmblgkaaGreatDoor.Sy
namespace Go.Proofs.YtimahlimmblgkaaGreatDoor.Sy
/-- a tree that is made: right but for its counts; its text is short -/
structure Good (t : T) : Prop where
  sh : (look t).shaped = true
  fi : (look t).firm = true
  len : (wr [] t).length + 4 ≤ 20 * cnt t
  col : hd (wr [] t) ≠ 58
theorem Good.any {t : T} (h : Good t) (ks : List Int) : (wr ks t).length ≤ 20 * cnt t := by
  have := h.len
  rw [wr_brk]
  unfold brk
  split
  · simp; omega
  · omega
theorem wrL_len : ∀ (ks : List Int) (l : List T), (∀ t ∈ l, Good t) → (wrL ks l).length ≤ 20 * cntL l
  | _, [], _ => by simp [wrL, cntL]
  | ks, t :: l, h => by
    have h1 := (h t (by simp)).any ks
    have h2 := wrL_len ks l (fun x hx => h x (List.mem_cons_of_mem _ hx))
    rw [wrL, cntL, List.length_append]
    omega
theorem wrA_len : ∀ (b : Bool) (l : List T), (∀ t ∈ l, Good t) → (wrA b l).length ≤ 20 * cntL l + l.length
  | _, [], _ => by simp [wrA]
  | b, t :: l, h => by
    have h1 := (h t (by simp)).any [4]
    have h2 := wrA_len false l (fun x hx => h x (List.mem_cons_of_mem _ hx))
    rw [wrA, cntL, List.length_append, List.length_append, List.length_cons]
    split <;> simp <;> omega
theorem leaf_good (a b : Int) : Good (leaf a b) := by
  have fin : ∀ l : Rs.S, Rs.right l = true → (setT l).length ≤ 12 → hd (setT l) ≠ 58 → Good (.mk 2 l 0 0 false []) := fun l h1 h2 h3 =>
    ⟨leaf_shaped h1, by rw [look_firm]; simp, by show (setT l).length + 4 ≤ 20 * (0 + 1); omega, h3⟩
  unfold leaf
  dsimp only
  split
  · exact fin _ (by decide) (by decide +kernel) (by decide +kernel)
  split
  · exact fin _ (by decide) (by decide +kernel) (by decide +kernel)
  split
  · exact fin _ (by decide) (by decide +kernel) (by decide +kernel)
  split
  · exact fin _ (by decide) (by decide +kernel) (by decide +kernel)
  split
  · have h : (b % 6).toNat = 0 ∨ (b % 6).toNat = 1 ∨ (b % 6).toNat = 2 ∨ (b % 6).toNat = 3 ∨ (b % 6).toNat = 4 ∨ (b % 6).toNat = 5 := by omega
    rcases h with e | e | e | e | e | e <;> rw [e] <;> exact fin _ (by decide +kernel) (by decide +kernel) (by decide +kernel)
  · have h : b % 4 = 0 ∨ b % 4 = 1 ∨ b % 4 = 2 ∨ b % 4 = 3 := by omega
    rcases h with e | e | e | e <;> rw [e] <;> exact fin _ (by decide +kernel) (by decide +kernel) (by decide +kernel)
theorem empty_good : Good (.mk 1 [] 0 0 false []) := ⟨rfl, rfl, by show 0 + 4 ≤ 20 * (0 + 1); omega, by decide⟩
theorem itoa_small {n : Int} (h0 : 0 ≤ n) (h1 : n ≤ 9) : (Lib.itoa n).length = 1 := by
  unfold Lib.itoa
  rw [if_neg (by omega), Lib.decDigits, dif_pos (by omega)]
  rfl
theorem quantT_len {a b : Int} (h0 : 0 ≤ a) (h1 : a ≤ 9) (hb : b = -1 ∨ (0 ≤ b ∧ b ≤ 9)) : (quantT a b).length ≤ 5 := by
  have ha := itoa_small h0 h1
  unfold quantT
  split
  · simp
  split
  · simp
  split
  · simp
  split
  · simp [ha]
  split
  · simp [ha]
  · have := itoa_small (n := b) (by omega) (by omega)
    simp [ha, this]
theorem group_good {t : T} (h : Good t) : Good (.mk 6 [] 0 0 false [t]) := by
  have hl := h.len
  refine ⟨by rw [look_shaped]; simp [shapedN, h.sh], by rw [look_firm]; simp [h.fi], ?_, by show (40 : Int) ≠ 58; decide⟩
  show ([40] ++ wr [] t ++ [41]).length + 4 ≤ 20 * (cnt t + 0 + 1)
  simp
  omega
theorem rep_good {t : T} (h : Good t) {a b : Int} (z : Bool) (h0 : 0 ≤ a) (h1 : a ≤ 9) (hb : b = -1 ∨ (a ≤ b ∧ b ≤ 9)) (hn : (look t).nul = true → b = 0 ∨ b = 1) : Good (.mk 5 [] a b z [t]) := by
  have hl := h.any [1, 3, 4, 5]
  have hq := quantT_len (b := b) h0 h1 (by omega)
  have hne := (back t h.sh).four.ne
  have hc := h.col
  refine ⟨rep_shaped h.sh h0 (by omega) (by omega), ?_, ?_, ?_⟩
  · rw [look_firm]
    simp [h.fi]
    cases e : (look t).nul with
    | false => exact .inl rfl
    | true => have := hn e; exact .inr (by omega)
  · show (wr [1, 3, 4, 5] t ++ quantT a b ++ (if z then [63] else [])).length + 4 ≤ 20 * (cnt t + 0 + 1)
    split <;> simp <;> omega
  · show hd (wr [1, 3, 4, 5] t ++ quantT a b ++ (if z then [63] else [])) ≠ 58
    rw [List.append_assoc, hd_app hne, wr_brk]
    unfold brk
    split
    · show (40 : Int) ≠ 58; decide
    · exact hc
theorem many_firm {k : Int} (hk : k ≠ 5) {l : List T} (h : ∀ t ∈ l, (look t).firm = true) : (look (.mk k [] 0 0 false l)).firm = true := by
  rw [look_firm]
  simp [hk]
  exact h
theorem hd_brk {t : T} (h : hd (wr [] t) ≠ 58) (ks : List Int) : hd (wr ks t) ≠ 58 := by
  rw [wr_brk]
  unfold brk
  split
  · show (40 : Int) ≠ 58; decide
  · exact h
theorem cat_good {l : List T} (h : ∀ t ∈ l, Good t) (hl : 2 ≤ l.length) : Good (.mk 3 [] 0 0 false l) := by
  refine ⟨?_, many_firm (by decide) (fun t ht => (h t ht).fi), ?_, ?_⟩
  · rw [look_shaped, Bool.and_eq_true]; exact ⟨by simp [shapedN]; omega, List.all_eq_true.2 (fun t ht => (h t ht).sh)⟩
  · have := wrL_len [3, 4, 1] l h
    show (wrL [3, 4, 1] l).length + 4 ≤ 20 * (cntL l + 1)
    omega
  · show hd (wrL [3, 4, 1] l) ≠ 58
    match l, hl, h with
    | x :: y :: r, _, h =>
      have hx := h x (by simp)
      rw [wrL, hd_app (back x hx.sh).three.ne]
      exact hd_brk hx.col _
theorem alt_good {l : List T} (h : ∀ t ∈ l, Good t) (hl : 2 ≤ l.length) (h16 : l.length ≤ 16) : Good (.mk 4 [] 0 0 false l) := by
  refine ⟨?_, many_firm (by decide) (fun t ht => (h t ht).fi), ?_, ?_⟩
  · rw [look_shaped, Bool.and_eq_true]; exact ⟨by simp [shapedN]; omega, List.all_eq_true.2 (fun t ht => (h t ht).sh)⟩
  · have := wrA_len true l h
    show (wrA true l).length + 4 ≤ 20 * (cntL l + 1)
    omega
  · show hd (wrA true l) ≠ 58
    match l, hl, h with
    | x :: y :: r, _, h =>
      have hx := h x (by simp)
      rw [wrA_cons]
      by_cases hn : wr [4] x = []
      · rw [hn]; show (124 : Int) ≠ 58; decide
      · rw [hd_app hn]; exact hd_brk hx.col _
theorem cntL_reverse (l : List T) : cntL l.reverse = cntL l := by
  induction l with
  | nil => rfl
  | cons t l ih => rw [List.reverse_cons, cntL_append, ih]; simp [cntL]; omega
theorem step_good {x : Sm} {st : List T} (h : ∀ t ∈ st, Good t) : (∀ t ∈ step x st, Good t) ∧ cntL (step x st) ≤ cntL st + 1 := by
  have cons : ∀ t, Good t → cnt t = 1 → (∀ y ∈ t :: st, Good y) ∧ cntL (t :: st) ≤ cntL st + 1 := fun t ht hc => ⟨fun y hy => by
    rcases List.mem_cons.1 hy with rfl | hy
    · exact ht
    · exact h y hy, by rw [cntL]; omega⟩
  have hlc : cnt (leaf x.a x.b) = 1 := by
    unfold leaf
    dsimp only
    repeat' split
    all_goals rfl
  unfold step
  dsimp only
  split
  · exact cons _ empty_good rfl
  cases st with
  | nil => exact ⟨fun y hy => by rw [List.mem_singleton.1 hy]; exact leaf_good _ _, by simp [cntL, hlc]⟩
  | cons t r =>
    dsimp only
    have ht := h t (by simp)
    have hr : ∀ y ∈ r, Good y := fun y hy => h y (List.mem_cons_of_mem _ hy)
    have up : ∀ u, Good u → cnt u = cnt t + 1 → (∀ y ∈ u :: r, Good y) ∧ cntL (u :: r) ≤ cntL (t :: r) + 1 := fun u hu hc => ⟨fun y hy => by
      rcases List.mem_cons.1 hy with rfl | hy
      · exact hu
      · exact hr y hy, by rw [cntL, cntL]; omega⟩
    split
    · exact cons _ (leaf_good _ _) hlc
    split
    · exact up _ (group_good ht) (by simp [cnt, cntL])
    split
    · by_cases hn : nulP t = true
      · rw [if_pos hn]
        exact up _ (rep_good ht _ (by omega) (by omega) (by omega) (fun _ => by omega)) (by simp [cnt, cntL])
      · rw [if_neg hn]
        refine up _ (rep_good ht _ (by omega) (by omega) ?_ (fun e => absurd (by rw [nulP_eq]; exact e) hn)) (by simp [cnt, cntL])
        split
        · exact .inl rfl
        · exact .inr (by omega)
    · rename_i h8
      have hr0 : 1 ≤ r.length := by
        rcases Nat.eq_zero_or_pos r.length with e | e
        · exact absurd (.inr (List.eq_nil_of_length_eq_zero e)) h8
        · exact e
      have hn : ∀ n : Nat, n = 2 ∨ n = 3 → (∀ y ∈ ((t :: r).take n).reverse, Good y) ∧ 2 ≤ ((t :: r).take n).reverse.length ∧ ((t :: r).take n).reverse.length ≤ 16 := fun n hn =>
        ⟨fun y hy => h y (List.mem_of_mem_take (List.mem_reverse.1 hy)), by simp; omega, by simp; omega⟩
      have hk : 3 + x.kind % 10 % 2 = 3 ∨ 3 + x.kind % 10 % 2 = 4 := by omega
      obtain ⟨g1, g2, g3⟩ := hn (if x.a % 2 = 1 then 3 else 2) (by split <;> omega)
      refine ⟨fun y hy => ?_, ?_⟩
      · rcases List.mem_cons.1 hy with rfl | hy
        · rcases hk with e | e
          · rw [e]; exact cat_good g1 g2
          · rw [e]; exact alt_good g1 g2 g3
        · exact h y (List.mem_of_mem_drop hy)
      · rw [cntL, cnt, cntL_reverse]
        have := cntL_append ((t :: r).take (if x.a % 2 = 1 then 3 else 2)) ((t :: r).drop (if x.a % 2 = 1 then 3 else 2))
        rw [List.take_append_drop] at this
        omega
theorem piled_good : ∀ (l : List Sm) (st : List T), (∀ t ∈ st, Good t) → (∀ t ∈ l.foldl (fun st x => step x st) st, Good t) ∧ cntL (l.foldl (fun st x => step x st) st) ≤ cntL st + l.length
  | [], st, h => ⟨h, by simp⟩
  | x :: l, st, h => by
    obtain ⟨h1, h2⟩ := step_good (x := x) h
    obtain ⟨h3, h4⟩ := piled_good l (step x st) h1
    exact ⟨h3, by rw [List.foldl_cons, List.length_cons]; omega⟩
theorem join_good {l : List T} (h : ∀ t ∈ l, Good t) : Good (join 3 l) := by
  match l, h with
  | [], _ => exact empty_good
  | [t], h => exact h t (by simp)
  | a :: b :: r, h => rw [join_many (by simp)]; exact cat_good h (by simp)
theorem made_good (l : List Sm) : Good (made l) ∧ cnt (made l) ≤ 21 ∧ cnt (made l) ≤ l.length + 1 := by
  obtain ⟨h1, h2⟩ := piled_good (l.take 20) [] (fun _ h => by cases h)
  have hj := join_cnt 3 (piled (l.take 20)).reverse
  rw [cntL_reverse] at hj
  unfold piled at hj
  rw [cntL, List.length_take] at h2
  refine ⟨join_good (fun t ht => h1 t (List.mem_reverse.1 ht)), ?_, ?_⟩
  · show cnt (join 3 (piled (l.take 20)).reverse) ≤ 21
    unfold piled
    omega
  · show cnt (join 3 (piled (l.take 20)).reverse) ≤ _
    unfold piled
    omega
theorem Good.right {t : T} (h : Good t) (hg : grp t ≤ 30) (hd : dep t ≤ 40) (hc : cnt t ≤ 1000000000) : right t = true := by
  obtain ⟨h1, h2⟩ := look_nums t hc
  unfold Sy.right rightF
  rw [h.sh, h.fi, h1, h2]
  simp
  omega
theorem Good.right' {t : T} (h : Good t) (hc : cnt t ≤ 30) : Sy.right t = true := h.right (by have := grp_cnt t; omega) (by have := dep_cnt t; omega) (by omega)
end Go.Proofs.YtimahlimmblgkaaGreatDoor.Sy
namespace Go.Proofs.YtimahlimmblgkaaGreatDoor.Sy
/-- what lengths of a right tree are -/
def LenOK (n : Bool) (p : Int × Int) : Prop := 0 ≤ p.1 ∧ p.1 ≤ 1073741824 ∧ (p.2 = -1 ∨ (p.1 ≤ p.2 ∧ p.2 ≤ 1073741824)) ∧ (n = true ↔ p.1 = 0)
theorem plus_ok {m n : Bool} {p q : Int × Int} (h : LenOK m p) (k : LenOK n q) : LenOK (m && n) (plusP p.1 q.1, plusP p.2 q.2) := by
  obtain ⟨a1, a2, a3, a4⟩ := h
  obtain ⟨b1, b2, b3, b4⟩ := k
  unfold LenOK plusP
  dsimp only
  rw [if_neg (show ¬ (p.1 = -1 ∨ q.1 = -1) by omega)]
  refine ⟨by omega, by omega, ?_, ?_⟩
  · by_cases hm : p.2 = -1 ∨ q.2 = -1
    · rw [if_pos hm]; exact .inl rfl
    · rw [if_neg hm]; exact .inr ⟨by omega, by omega⟩
  · rw [Bool.and_eq_true, a4, b4]; omega
theorem lensL_cat {k a b : Int} (hk : k ≠ 5) (hk4 : k ≠ 4) : ∀ (l : List T) (first : Bool) (n : Bool) (r : Int × Int), LenOK n r → (∀ t ∈ l, LenOK (look t).nul (lens t)) → LenOK (n && l.all (fun t => (look t).nul)) (lensL k a b first l r)
  | [], _, n, r, h, _ => by simpa [lensL] using h
  | t :: l, first, n, r, h, hl => by
    rw [lensL, List.all_cons, ← Bool.and_assoc]
    refine lensL_cat hk hk4 l false _ _ ?_ (fun x hx => hl x (List.mem_cons_of_mem _ hx))
    unfold stepLen
    rw [if_neg hk, if_pos (.inl hk4)]
    exact plus_ok h (hl t (by simp))
theorem lensL_alt {a b : Int} : ∀ (l : List T) (n : Bool) (r : Int × Int), LenOK n r → (∀ t ∈ l, LenOK (look t).nul (lens t)) → LenOK (n || l.any (fun t => (look t).nul)) (lensL 4 a b false l r)
  | [], n, r, h, _ => by simpa [lensL] using h
  | t :: l, n, r, h, hl => by
    rw [lensL, List.any_cons, ← Bool.or_assoc]
    refine lensL_alt l _ _ ?_ (fun x hx => hl x (List.mem_cons_of_mem _ hx))
    obtain ⟨a1, a2, a3, a4⟩ := h
    obtain ⟨b1, b2, b3, b4⟩ := hl t (by simp)
    unfold stepLen
    rw [if_neg (by decide), if_neg (by simp)]
    refine ⟨by dsimp only; omega, by dsimp only; omega, ?_, ?_⟩
    · dsimp only
      split <;> omega
    · dsimp only
      rw [Bool.or_eq_true, a4, b4]; omega
theorem zero_ok : LenOK true (0, 0) := ⟨by decide, by decide, by decide, by decide⟩
theorem first_alt {t : T} {a b : Int} (h : LenOK (look t).nul (lens t)) : stepLen 4 a b true (0, 0) (lens t) = lens t := by
  obtain ⟨b1, b2, b3, b4⟩ := h
  unfold stepLen plusP
  rw [if_neg (by decide), if_pos (by simp)]
  generalize lens t = p at *
  obtain ⟨x, y⟩ := p
  dsimp only at *
  rw [if_neg (by omega)]
  refine Prod.ext (by dsimp only; omega) ?_
  dsimp only
  split <;> omega
theorem times_ok {n : Bool} {p : Int × Int} {a b : Int} (h : LenOK n p) (h0 : 0 ≤ a) (h1 : a ≤ 1000) (hb : b = -1 ∨ (a ≤ b ∧ b ≤ 1000)) : LenOK (n || decide (a = 0)) (timesP p.1 a, timesP p.2 b) := by
  obtain ⟨x, y⟩ := p
  obtain ⟨a1, a2, a3, a4⟩ := h
  dsimp only at a1 a2 a3 a4
  have e1 : timesP x a = min (x * a) 1073741824 := by
    unfold timesP
    by_cases hc : x = 0 ∨ a = 0
    · rw [if_pos hc]
      rcases hc with e | e <;> rw [e] <;> simp only [Int.zero_mul, Int.mul_zero] <;> omega
    · rw [if_neg hc, if_neg (by omega)]
  have hxa : 0 ≤ x * a := Int.mul_nonneg a1 h0
  have hz : x * a = 0 ↔ x = 0 ∨ a = 0 := Int.mul_eq_zero
  unfold LenOK
  dsimp only
  rw [e1]
  refine ⟨by omega, by omega, ?_, ?_⟩
  · unfold timesP
    by_cases hc : y = 0 ∨ b = 0
    · rw [if_pos hc]
      have : x * a = 0 := hz.2 (by omega)
      exact .inr ⟨by omega, by omega⟩
    · rw [if_neg hc]
      by_cases hd : y = -1 ∨ b = -1
      · rw [if_pos hd]; exact .inl rfl
      · rw [if_neg hd]
        have : x * a ≤ y * b := Int.mul_le_mul (by omega) (by omega) h0 (by omega)
        exact .inr ⟨by omega, by omega⟩
  · rw [Bool.or_eq_true, a4, decide_eq_true_eq]
    omega
theorem lens_ok : ∀ t : T, (look t).shaped = true → LenOK (look t).nul (lens t) := by
  intro t
  induction t using T.ind with
  | _ k s a b z l ih =>
    intro hs
    rw [look_shaped, Bool.and_eq_true] at hs
    obtain ⟨h1, h2⟩ := hs
    have hsub : ∀ t, t ∈ l → LenOK (look t).nul (lens t) := fun t ht => ih t ht (List.all_eq_true.1 h2 t ht)
    rw [look_nul, lens]
    rcases shapedN_cases h1 with ⟨rfl, rfl, rfl, rfl, rfl, hl⟩ | ⟨rfl, hr, rfl, rfl, rfl, hl⟩ | ⟨rfl, rfl, rfl, rfl, rfl, hl⟩ | ⟨rfl, rfl, rfl, rfl, rfl, hl⟩ | ⟨rfl, rfl, ha, hb, hl⟩ | ⟨rfl, rfl, rfl, rfl, rfl, hl⟩
    · obtain rfl := List.eq_nil_of_length_eq_zero hl
      exact zero_ok
    · obtain rfl := List.eq_nil_of_length_eq_zero hl
      exact ⟨by decide, by decide, by decide, by decide⟩
    · exact lensL_cat (by decide) (by decide) l true true (0, 0) zero_ok hsub
    · match l, hl, hsub with
      | x :: y :: r, _, hsub =>
        have := lensL_alt (a := 0) (b := 0) (y :: r) _ _ (hsub x (by simp)) (fun t ht => hsub t (List.mem_cons_of_mem _ ht))
        rw [lensL, if_neg (show ¬ ((4 : Int) = 2) by decide), first_alt (hsub x (by simp))]
        simpa using this
    · match l, hl, hsub with
      | [x], _, hsub =>
        have := times_ok (hsub x (by simp)) ha.1 ha.2 hb
        rw [lensL, lensL]
        unfold stepLen
        simpa using this
    · match l, hl, hsub with
      | [x], _, hsub =>
        have := lensL_cat (k := 6) (a := 0) (b := 0) (by decide) (by decide) [x] true true (0, 0) zero_ok hsub
        simpa using this
end Go.Proofs.YtimahlimmblgkaaGreatDoor.Sy
namespace Go.Proofs.YtimahlimmblgkaaGreatDoor.Sy
mutual
theorem same_eq : ∀ a b : T, same a b = true ↔ a = b
  | .mk k s a b z l, .mk k' s' a' b' z' l' => by
    have h := sameL_eq l l'
    simp only [same, Bool.and_eq_true, decide_eq_true_eq, beq_iff_eq, T.mk.injEq, h]
    constructor
    · rintro ⟨⟨⟨⟨⟨h1, h2⟩, h3⟩, h4⟩, h5⟩, h6⟩; exact ⟨h1, h5, h2, h3, h4, h6⟩
    · rintro ⟨h1, h2, h3, h4, h5, h6⟩; exact ⟨⟨⟨⟨⟨h1, h3⟩, h4⟩, h5⟩, h2⟩, h6⟩
theorem sameL_eq : ∀ a b : List T, sameL a b = true ↔ a = b
  | [], [] => by simp [sameL]
  | [], _ :: _ => by simp [sameL]
  | _ :: _, [] => by simp [sameL]
  | x :: l, y :: m => by
    have h1 := same_eq x y
    have h2 := sameL_eq l m
    simp only [sameL, Bool.and_eq_true, List.cons.injEq, h1, h2]
end
theorem same_self (a : T) : same a a = true := (same_eq a a).2 rfl
theorem same_dec (a b : T) : (same a b = true) = (a = b) := propext (same_eq a b)
theorem parse_alt {t : T} {u : B} (h : AltOK t u) (hl : u.length ≤ 1024) :
    parse u = if (look t).firm = false then .error 71 else if 30 < (look t).groups then .error 5 else if 40 < (look t).depth then .error 72 else .ok t := by
  have hb := h (3 * u.length + 3) [] (.inl rfl) (by simp)
  rw [List.append_nil] at hb
  unfold parse
  rw [if_neg (by omega), hb]
  simp only
  rw [if_neg (by omega)]
theorem parse_right {t : T} {u : B} (h : AltOK t u) (hr : right t = true) (hl : u.length ≤ 1024) : parse u = .ok t := by
  obtain ⟨_, h2, h3, h4⟩ := right_parts hr
  rw [parse_alt h hl, if_neg (by rw [h2]; simp), if_neg (by omega), if_neg (by omega)]
theorem cat2 {t v : T} {u x : B} (h : ItemOK t u) (k : ItemOK v x) : CatOK (.mk 3 [] 0 0 false [t, v]) (u ++ x) := by
  intro f rest hs hf
  rw [List.length_append] at hf
  have hu := List.length_pos_iff.2 h.ne
  obtain ⟨g, rfl⟩ : ∃ g, f = g + 1 + 1 + 1 := ⟨f - 3, by omega⟩
  have hq : NQ (x ++ rest) := by unfold NQ; rw [hd_app k.ne]; exact k.nq
  rw [List.append_assoc, h.it (g + 1 + 1) (x ++ rest) [] hq (by rw [List.length_append]; omega), k.it (g + 1) rest _ hs.nq (by omega), pCat_stop hs]
  show some _ = some _
  rw [List.length_append]
  rfl
theorem alt2 {t v : T} {u x : B} (h : CatOK t u) (k : CatOK v x) : AltOK (.mk 4 [] 0 0 false [t, v]) (u ++ 124 :: x) := by
  intro f rest hs hf
  rw [List.length_append, List.length_cons] at hf
  obtain ⟨g, rfl⟩ : ∃ g, f = g + 1 + 1 := ⟨f - 2, by omega⟩
  have e : u ++ 124 :: x ++ rest = u ++ (124 :: (x ++ rest)) := by simp
  rw [e, pAlt, h (g + 1) (124 :: (x ++ rest)) (.inr (.inl rfl)) (by simp; omega)]
  simp only
  rw [if_pos (by rw [List.getElem?_append_right (Nat.le_refl _), Nat.sub_self]; rfl)]
  have e2 : (u ++ 124 :: (x ++ rest)).drop (u.length + 1) = x ++ rest := by
    rw [← List.drop_drop, List.drop_left]; rfl
  rw [e2, pAlt, k g rest hs.stop (by omega)]
  simp only
  rw [if_neg (by
    rw [List.getElem?_append_right (Nat.le_refl _), Nat.sub_self]
    cases rest with
    | nil => simp
    | cons c r =>
      rcases hs with hs | hs
      · cases hs
      · rw [hd_cons] at hs
        simp
        exact byte_ne (d := 124) (by simp; omega))]
  show some _ = some _
  rw [List.length_append, List.length_cons]
  simp only [List.nil_append, List.singleton_append, join]
  rw [show u.length + 1 + x.length = u.length + (x.length + 1) by omega]
/-- the text of a tree between brackets -/
theorem back_brk {t : T} (h : right t = true) : AtomOK t (brk true (wr [] t)) := (back t (right_parts h).1).alt.brk
theorem brk_len (u : B) : (brk true u).length = u.length + 4 := by simp [brk]
theorem brackets_one {t : T} (h : right t = true) (hl : (wr [] t).length ≤ 1020) : parse (brk true (wr [] t)) = .ok t :=
  parse_right (back_brk h).item.cat.alt h (by rw [brk_len]; omega)
theorem brackets_group {t : T} (h : right t = true) (hg : right (.mk 6 [] 0 0 false [t]) = true) (hl : (wr [] t).length ≤ 1000) : parse ([40] ++ brk true (wr [] t) ++ [41]) = .ok (.mk 6 [] 0 0 false [t]) :=
  parse_right ((back_brk h).item.cat.alt.group (by rw [show hd (brk true (wr [] t)) = 40 from rfl]; decide)).item.cat.alt hg (by simp [brk_len]; omega)
theorem brackets_cat {t v : T} (h : right t = true) (k : right v = true) (hb : right (.mk 3 [] 0 0 false [t, v]) = true) (hl : (wr [] t).length ≤ 500) (kl : (wr [] v).length ≤ 500) :
    parse (brk true (wr [] t) ++ brk true (wr [] v)) = .ok (.mk 3 [] 0 0 false [t, v]) :=
  parse_right (cat2 (back_brk h).item (back_brk k).item).alt hb (by simp [brk_len]; omega)
theorem brackets_alt {t v : T} (h : right t = true) (k : right v = true) (hb : right (.mk 4 [] 0 0 false [t, v]) = true) (hl : (wr [] t).length ≤ 500) (kl : (wr [] v).length ≤ 500) :
    parse (brk true (wr [] t) ++ 124 :: brk true (wr [] v)) = .ok (.mk 4 [] 0 0 false [t, v]) :=
  parse_right (alt2 (back_brk h).item.cat (back_brk k).item.cat) hb (by simp [brk_len]; omega)
/-- q is read as the quantifier from a to b -/
def QuantOK (q : B) (a b : Int) : Prop := ∀ r, quant (q ++ r) = some (some (a, b), q.length)
theorem AtomOK.quantG {t : T} {u q : B} {a b : Int} (h : AtomOK t u) (hQ : QuantOK q a b) (z : Bool) : ItemOK (.mk 5 [] a b z [t]) (u ++ q ++ (if z then [63] else [])) := by
  refine ⟨⟨by simp [h.ne], by rw [List.append_assoc, hd_app h.ne]; exact h.h1, by rw [List.append_assoc, hd_app h.ne]; exact h.h2, by unfold NQ; rw [List.append_assoc, hd_app h.ne]; exact h.nq⟩, fun f rest acc hq hf => ?_⟩
  have e : u ++ q ++ (if z then [63] else []) ++ rest = u ++ (q ++ ((if z then [63] else []) ++ rest)) := by simp
  have hqq : quantifier t (q ++ ((if z then [63] else []) ++ rest)) = some (.mk 5 [] a b z [t], (q ++ (if z then [63] else [])).length) := by
    unfold quantifier
    rw [hQ]
    simp only
    have e2 : (q ++ ((if z then [63] else []) ++ rest))[q.length]? = ((if z then [63] else []) ++ rest)[0]? := by
      rw [List.getElem?_append_right (Nat.le_refl _), Nat.sub_self]
    rw [e2]
    cases z with
    | true => simp
    | false =>
      rw [if_neg (by
        cases rest with
        | nil => simp
        | cons c r =>
          obtain ⟨_, _, h3, _⟩ := hq
          rw [hd_cons] at h3
          simp
          exact byte_ne (d := 63) h3)]
      simp
  rw [e, pCat_step (s := u ++ (q ++ ((if z then [63] else []) ++ rest))) (n := t) (k := u.length) (by simp [h.ne]) (by rw [hd_app h.ne]; exact h.h1) (by rw [hd_app h.ne]; exact h.h2)
    (h.at_ f _ (by simp at hf ⊢; omega)) (by rw [List.drop_left]; exact hqq)]
  have e3 : (u ++ (q ++ ((if z then [63] else []) ++ rest))).drop (u.length + (q ++ (if z then [63] else [])).length) = rest := by
    rw [← List.length_append, show u ++ (q ++ ((if z then [63] else []) ++ rest)) = (u ++ (q ++ (if z then [63] else []))) ++ rest by simp, List.drop_left]
  rw [e3]
  simp [Nat.add_assoc]
theorem quant_of_braces {w : B} {a b : Int} (hw : (125 : UInt8) ∉ w) (hb : braces w = some (a, b)) : QuantOK ([123] ++ w ++ [125]) a b := by
  intro r
  rw [quant_brace hw hb]
  simp
theorem braces_one {a : Int} (h0 : 0 ≤ a) (h1 : a ≤ 1000) : braces (Lib.itoa a) = some (a, a) := by
  unfold braces
  rw [cutAt_miss (itoa_not h0 (.inl (by decide)))]
  simp only [number_itoa h0 h1, Option.map_some]
theorem braces_open {a : Int} (h0 : 0 ≤ a) (h1 : a ≤ 1000) : braces (Lib.itoa a ++ [44]) = some (a, -1) := by
  unfold braces
  rw [cutAt_hit [] (itoa_not h0 (.inl (by decide)))]
  simp only [number_itoa h0 h1, Option.map_some]
theorem braces_two {a b : Int} (h0 : 0 ≤ a) (hab : a ≤ b) (h1 : b ≤ 1000) : braces (Lib.itoa a ++ [44] ++ Lib.itoa b) = some (a, b) := by
  unfold braces
  rw [List.append_assoc, List.singleton_append, cutAt_hit _ (itoa_not h0 (.inl (by decide)))]
  have hne := itoa_ne (n := b) (by omega)
  cases hb : Lib.itoa b with
  | nil => exact absurd hb hne
  | cons c r =>
    simp only
    rw [← hb, number_itoa h0 (by omega), number_itoa (by omega) h1]
    simp only
    rw [if_pos hab]
theorem not_in {a : Int} (h0 : 0 ≤ a) : (125 : UInt8) ∉ Lib.itoa a := itoa_not h0 (.inr (by decide))
theorem quant_exact {a : Int} (h0 : 0 ≤ a) (h1 : a ≤ 1000) : QuantOK ([123] ++ Lib.itoa a ++ [125]) a a := quant_of_braces (not_in h0) (braces_one h0 h1)
theorem quant_least {a : Int} (h0 : 0 ≤ a) (h1 : a ≤ 1000) : QuantOK ([123] ++ (Lib.itoa a ++ [44]) ++ [125]) a (-1) := quant_of_braces (by simp [not_in h0]) (braces_open h0 h1)
theorem quant_both {a b : Int} (h0 : 0 ≤ a) (hab : a ≤ b) (h1 : b ≤ 1000) : QuantOK ([123] ++ (Lib.itoa a ++ [44] ++ Lib.itoa b) ++ [125]) a b := quant_of_braces (by simp [not_in h0, not_in (show 0 ≤ b by omega)]) (braces_two h0 hab h1)
theorem quant_star : QuantOK [42] 0 (-1) := fun _ => rfl
theorem quant_plus : QuantOK [43] 1 (-1) := fun _ => rfl
theorem quant_mark : QuantOK [63] 0 1 := fun _ => rfl
theorem quant_star2 : QuantOK [123, 48, 44, 125] 0 (-1) := by
  have h := quant_least (a := 0) (by decide) (by decide)
  rwa [show ([123] ++ (Lib.itoa 0 ++ [44]) ++ [125] : B) = [123, 48, 44, 125] by decide +kernel] at h
theorem quant_plus2 : QuantOK [123, 49, 44, 125] 1 (-1) := by
  have h := quant_least (a := 1) (by decide) (by decide)
  rwa [show ([123] ++ (Lib.itoa 1 ++ [44]) ++ [125] : B) = [123, 49, 44, 125] by decide +kernel] at h
theorem quant_mark2 : QuantOK [123, 48, 44, 49, 125] 0 1 := by
  have h := quant_both (a := 0) (b := 1) (by decide) (by decide) (by decide)
  rwa [show ([123] ++ (Lib.itoa 0 ++ [44] ++ Lib.itoa 1) ++ [125] : B) = [123, 48, 44, 49, 125] by decide +kernel] at h
/-- what a repetition of a right tree tells -/
theorem rep_look {t : T} (h : right t = true) (hc : cnt t ≤ 1000000) (a b : Int) (z : Bool) :
    (look (.mk 5 [] a b z [t])).firm = !((look t).nul && (decide (b = -1) || decide (1 < b))) ∧ (look (.mk 5 [] a b z [t])).groups = grp t ∧ (look (.mk 5 [] a b z [t])).depth = dep t + 1 := by
  obtain ⟨h1, h2, h3, h4⟩ := right_parts h
  obtain ⟨n1, n2⟩ := look_nums (.mk 5 [] a b z [t]) (by rw [cnt, cntL, cntL]; omega)
  refine ⟨?_, ?_, ?_⟩
  · rw [look_firm]; simp [h2]
  · rw [n2, grp, grpL, grpL]; simp
  · rw [n1, dep, depL, depL]; simp
theorem times_law {t : T} (h : right t = true) (hc : cnt t ≤ 30) (hl : (wr [] t).length ≤ 900) {q : B} (hq : q.length ≤ 50) {a b : Int} (hQ : QuantOK q a b) (z : Bool) :
    parse (brk true (wr [] t) ++ q ++ (if z then [63] else [])) = if (look t).nul && (decide (b = -1) || decide (1 < b)) then .error 71 else .ok (.mk 5 [] a b z [t]) := by
  obtain ⟨h1, h2, h3⟩ := rep_look h (by omega) a b z
  have hg := grp_cnt t
  have hd := dep_cnt t
  rw [parse_alt ((back_brk h).quantG hQ z).cat.alt (by cases z <;> simp [brk_len] <;> omega), h1, h2, h3]
  cases hn : ((look t).nul && (decide (b = -1) || decide (1 < b)))
  · rw [if_neg (by simp), if_neg (by omega), if_neg (by omega), if_neg (by simp)]
  · rfl
end Go.Proofs.YtimahlimmblgkaaGreatDoor.Sy
namespace Go.Proofs.YtimahlimmblgkaaGreatDoor.Sy
/-- no item begins here, and the sequence does not end -/
def Fail (r : B) : Prop := ∀ f acc, 3 * r.length + 2 ≤ f → pCat f r acc = none
theorem parse_none_of {u : B} (h : pAlt (3 * u.length + 3) u [] = none) (hl : u.length ≤ 1024) : parse u = .error 70 := by
  unfold parse
  rw [if_neg (by omega), h]
theorem Fail.alt {u : B} (h : Fail u) : pAlt (3 * u.length + 3) u [] = none := by
  rw [pAlt, h _ [] (by omega)]
theorem Fail.parse {u : B} (h : Fail u) (hl : u.length ≤ 1024) : parse u = .error 70 := parse_none_of h.alt hl
theorem fail_of_atom {c : UInt8} {r : B} (h1 : c ≠ 124) (h2 : c ≠ 41) (ha : ∀ f, 3 * (r.length + 1) + 1 ≤ f → pAtom f (c :: r) = none) : Fail (c :: r) := by
  intro f acc hf
  rw [List.length_cons] at hf
  obtain ⟨g, rfl⟩ : ∃ g, f = g + 1 := ⟨f - 1, by omega⟩
  rw [pCat, if_neg (by simp [h1, h2]), ha g (by omega)]
theorem pAtom_single {c : UInt8} {r : B} (h : c ≠ 40) (ha : atom1 (c :: r) = none) (f : Nat) : pAtom f (c :: r) = none := by
  cases f with
  | zero => rw [pAtom]
  | succ g =>
    rw [pAtom, if_neg (by intro e; simp at e; exact h e.1), if_neg (by intro e; simp at e; exact h e), ha]
theorem atom1_meta {c : UInt8} (h : c.toNat < 128) (hm : isMeta (c.toNat : Int) = true) (h46 : c.toNat ≠ 46) (h91 : c.toNat ≠ 91) (h92 : c.toNat ≠ 92) (r : B) : atom1 (c :: r) = none := by
  unfold atom1
  rw [Rs.bt_cons0, if_neg (by omega), if_neg (by omega), if_neg (by omega), dec_ascii h]
  dsimp only
  rw [if_neg (by rw [hm]; simp)]
theorem fail_meta {c : UInt8} (h : c.toNat < 128) (hm : isMeta (c.toNat : Int) = true) (h46 : c.toNat ≠ 46) (h91 : c.toNat ≠ 91) (h92 : c.toNat ≠ 92) (h40 : c ≠ 40) (h41 : c ≠ 41) (h124 : c ≠ 124) (r : B) : Fail (c :: r) :=
  fail_of_atom h124 h41 (fun f _ => pAtom_single h40 (atom1_meta h hm h46 h91 h92 r) f)
theorem fail_star (r : B) : Fail (42 :: r) := fail_meta (by decide) (by decide) (by decide) (by decide) (by decide) (by decide) (by decide) (by decide) r
theorem fail_plus (r : B) : Fail (43 :: r) := fail_meta (by decide) (by decide) (by decide) (by decide) (by decide) (by decide) (by decide) (by decide) r
theorem fail_mark (r : B) : Fail (63 :: r) := fail_meta (by decide) (by decide) (by decide) (by decide) (by decide) (by decide) (by decide) (by decide) r
theorem fail_hat (r : B) : Fail (94 :: r) := fail_meta (by decide) (by decide) (by decide) (by decide) (by decide) (by decide) (by decide) (by decide) r
theorem fail_ff : Fail [255] := by
  refine fail_of_atom (by decide) (by decide) (fun f _ => pAtom_single (by decide) ?_ f)
  have e : Rs.decS [255] = (65533, 1) := by decide +kernel
  unfold atom1
  rw [Rs.bt_cons0, if_neg (by decide), if_neg (by decide), if_neg (by decide), e]
  dsimp only
  rw [if_neg (by omega)]
theorem fail_class (r : B) : Fail (91 :: 93 :: r) := by
  refine fail_of_atom (by decide) (by decide) (fun f _ => pAtom_single (by decide) ?_ f)
  have e : Rs.readF (91 :: 93 :: r) = none := by
    have hd : Rs.decS (93 :: r) = (93, 1) := dec_ascii (b := 93) (by decide) r
    have hp : Rs.partS (93 :: r) = none := by
      unfold Rs.partS
      rw [if_neg (by simp), Rs.bt_cons0, if_neg (by decide), hd, if_neg (by simp)]
    have hi : Rs.itemS (93 :: r) true = none := by
      refine Rs.item_none ?_ ?_ hp
      · rw [Rs.bt_cons0]; intro h; exact absurd h.1 (by decide)
      · rw [Rs.bt_cons0]; intro h; exact absurd h.1 (by decide)
    unfold Rs.readF
    rw [Rs.bt_cons0, if_neg (by decide), show Rs.bt (91 :: 93 :: r) 1 = 93 from rfl, if_neg (by decide)]
    rw [show (91 :: 93 :: r).drop 1 = 93 :: r from rfl, Rs.it_fail (by simp) hi]
  unfold atom1
  rw [Rs.bt_cons0, if_neg (by decide), if_pos (by decide), e]
  rfl
def CatFail (u : B) : Prop := ∀ f rest, NQ rest → Fail rest → 3 * (u.length + rest.length) + 2 ≤ f → pCat f (u ++ rest) [] = none
def AltFail (u : B) : Prop := ∀ f rest, NQ rest → Fail rest → 3 * (u.length + rest.length) + 3 ≤ f → pAlt f (u ++ rest) [] = none
theorem ItemOK.catFail {t : T} {u : B} (h : ItemOK t u) : CatFail u := by
  intro f rest hq hF hf
  obtain ⟨g, rfl⟩ : ∃ g, f = g + 1 := ⟨f - 1, by omega⟩
  have hu := List.length_pos_iff.2 h.ne
  rw [h.it g rest [] hq (by omega), hF g _ (by omega)]
  rfl
theorem CatFail.alt {u : B} (h : CatFail u) : AltFail u := by
  intro f rest hq hF hf
  obtain ⟨g, rfl⟩ : ∃ g, f = g + 1 := ⟨f - 1, by omega⟩
  rw [pAlt, h g rest hq hF (by omega)]
theorem items_fail : ∀ (l : List T) (f : Nat) (rest : B) (acc : List T), (∀ t ∈ l, ItemOK t (wr [3, 4, 1] t)) → NQ rest → Fail rest → 3 * ((wrL [3, 4, 1] l).length + rest.length) + 2 ≤ f → pCat f (wrL [3, 4, 1] l ++ rest) acc = none
  | [], f, rest, acc, _, hq, hF, hf => by
    rw [wrL, List.nil_append, hF f acc (by omega)]
  | t :: r, f, rest, acc, hl, hq, hF, hf => by
    have ht := hl t (List.mem_cons_self ..)
    have hnq : NQ (wrL [3, 4, 1] r ++ rest) := by
      cases r with
      | nil => rw [wrL]; exact hq
      | cons x y =>
        have hx := hl x (by simp)
        rw [wrL, List.append_assoc]
        unfold NQ
        rw [hd_app hx.ne]
        exact hx.nq
    have hlen := List.length_pos_iff.2 ht.ne
    rw [wrL, List.length_append] at hf
    obtain ⟨g, rfl⟩ : ∃ g, f = g + 1 := ⟨f - 1, by omega⟩
    rw [wrL, List.append_assoc, ht.it g _ acc hnq (by rw [List.length_append]; omega), items_fail r g rest _ (fun x hx => hl x (List.mem_cons_of_mem _ hx)) hq hF (by omega)]
    rfl
theorem alts_fail : ∀ (r : List T) (t : T) (f : Nat) (rest : B) (acc : List T), (∀ x ∈ t :: r, CatOK x (wr [4] x) ∧ CatFail (wr [4] x)) → NQ rest → Fail rest → 3 * ((wrA true (t :: r)).length + rest.length) + 3 ≤ f →
    pAlt f (wrA true (t :: r) ++ rest) acc = none
  | [], t, f, rest, acc, hl, hq, hF, hf => by
    have e : wrA true [t] = wr [4] t := by simp [wrA]
    rw [e] at hf ⊢
    obtain ⟨g, rfl⟩ : ∃ g, f = g + 1 := ⟨f - 1, by omega⟩
    rw [pAlt, (hl t (by simp)).2 g rest hq hF (by omega)]
  | u :: r, t, f, rest, acc, hl, hq, hF, hf => by
    rw [wrA_cons] at hf ⊢
    rw [List.length_append, List.length_cons] at hf
    obtain ⟨g, rfl⟩ : ∃ g, f = g + 1 := ⟨f - 1, by omega⟩
    have e : wr [4] t ++ 124 :: wrA true (u :: r) ++ rest = wr [4] t ++ (124 :: (wrA true (u :: r) ++ rest)) := by simp
    rw [e, pAlt, (hl t (by simp)).1 g (124 :: (wrA true (u :: r) ++ rest)) (.inr (.inl rfl)) (by simp; omega)]
    simp only
    rw [if_pos (by rw [List.getElem?_append_right (Nat.le_refl _), Nat.sub_self]; rfl)]
    have e2 : (wr [4] t ++ 124 :: (wrA true (u :: r) ++ rest)).drop ((wr [4] t).length + 1) = wrA true (u :: r) ++ rest := by
      rw [← List.drop_drop, List.drop_left]; rfl
    rw [e2, alts_fail r u g rest (acc ++ [t]) (fun x hx => hl x (List.mem_cons_of_mem _ hx)) hq hF (by omega)]
    rfl
structure BackF (t : T) : Prop where
  alt : AltFail (wr [] t)
  cat : kindT t ≠ 4 → CatFail (wr [] t)
theorem BackF.one {t : T} (h : BackF t) (k : Back t) : CatFail (wr [4] t) := by
  rw [wr_brk]
  by_cases hk : kindT t ∈ [4]
  · rw [decide_eq_true hk]; exact k.alt.brk.item.catFail
  · rw [decide_eq_false hk]
    exact h.cat (by simpa using hk)
theorem back_fail : ∀ t : T, (look t).shaped = true → BackF t := by
  intro t
  induction t using T.ind with
  | _ k s a b z l ih =>
    intro hs
    have hB := back _ hs
    rw [look_shaped, Bool.and_eq_true] at hs
    obtain ⟨h1, h2⟩ := hs
    have hsub : ∀ t, t ∈ l → Back t ∧ BackF t := fun t ht => ⟨back t (List.all_eq_true.1 h2 t ht), ih t ht (List.all_eq_true.1 h2 t ht)⟩
    have hcat : CatFail (wr [] (.mk k s a b z l)) → BackF (.mk k s a b z l) := fun h => ⟨h.alt, fun _ => h⟩
    rcases shapedN_cases h1 with ⟨rfl, rfl, rfl, rfl, rfl, hl⟩ | ⟨rfl, hr, rfl, rfl, rfl, hl⟩ | ⟨rfl, rfl, rfl, rfl, rfl, hl⟩ | ⟨rfl, rfl, rfl, rfl, rfl, hl⟩ | ⟨rfl, rfl, ha, hb, hl⟩ | ⟨rfl, rfl, rfl, rfl, rfl, hl⟩
    · obtain rfl := List.eq_nil_of_length_eq_zero hl
      exact hcat (fun f rest hq hF hf => hF f [] (by omega))
    · exact hcat (hB.atom (.inl rfl)).item.catFail
    · exact hcat (fun f rest hq hF hf => items_fail l f rest [] (fun t ht => (hsub t ht).1.three) hq hF hf)
    · have hA : AltFail (wrA true l) := fun f rest hq hF hf => by
        match l, hl, hsub with
        | x :: y :: r, hl, hsub => exact alts_fail (y :: r) x f rest [] (fun t ht => ⟨(hsub t ht).1.one, (hsub t ht).2.one (hsub t ht).1⟩) hq hF hf
      exact ⟨hA, fun h => by simp [kindT] at h⟩
    · exact hcat (hB.item rfl).catFail
    · exact hcat (hB.atom (.inr rfl)).item.catFail
theorem bad_behind {t : T} (h : right t = true) {r : B} (hq : NQ r) (hF : Fail r) (hl : (wr [] t).length + r.length ≤ 1024) : parse (wr [] t ++ r) = .error 70 :=
  parse_none_of ((back_fail t (right_parts h).1).alt _ r hq hF (by rw [List.length_append]; omega)) (by rw [List.length_append]; omega)
theorem bad_close {t : T} (h : right t = true) (hl : (wr [] t).length ≤ 1000) : parse (wr [] t ++ [41]) = .error 70 := by
  have hb := (back t (right_parts h).1).alt (3 * (wr [] t ++ [41]).length + 3) [41] (.inr rfl) (by simp)
  unfold parse
  rw [if_neg (by simp; omega), hb]
  simp only
  rw [if_pos (by simp)]
theorem bad_open {t : T} (h : right t = true) (hl : (wr [] t).length ≤ 1000) : parse (40 :: wr [] t) = .error 70 := by
  have hB := back t (right_parts h).1
  refine (fail_of_atom (by decide) (by decide) (fun f hf => ?_)).parse (by simp; omega)
  obtain ⟨g, rfl⟩ : ∃ g, f = g + 1 := ⟨f - 1, by omega⟩
  have h1 := hB.alt g [] (.inl rfl) (by simp; omega)
  rw [List.append_nil] at h1
  rw [pAtom, if_neg (by
    intro e
    have hq := hB.nq.2.2.1
    cases hu : wr [] t with
    | nil => rw [hu] at e; simp at e
    | cons c r => rw [hu] at e hq; simp at e; rw [hd_cons, e.1] at hq; exact hq rfl), if_pos (by rfl)]
  rw [show (40 :: wr [] t).drop 1 = wr [] t from rfl, h1]
  simp only
  rw [if_neg (by simp)]
theorem bad_brk {t : T} (h : right t = true) (hl : (wr [] t).length ≤ 1000) : parse ([40, 63, 58] ++ wr [] t) = .error 70 := by
  have hB := back t (right_parts h).1
  refine (fail_of_atom (c := 40) (r := 63 :: 58 :: wr [] t) (by decide) (by decide) (fun f hf => ?_)).parse (by simp; omega)
  rw [List.length_cons, List.length_cons] at hf
  obtain ⟨g, rfl⟩ : ∃ g, f = g + 1 := ⟨f - 1, by omega⟩
  have h1 := hB.alt g [] (.inl rfl) (by simp; omega)
  rw [List.append_nil] at h1
  rw [pAtom, if_pos (by rfl)]
  rw [show (40 :: 63 :: 58 :: wr [] t).drop 3 = wr [] t from rfl, h1]
  simp only
  rw [if_neg (by simp)]
theorem bad_star {t : T} (hl : (wr [] t).length ≤ 1000) : parse (42 :: wr [] t) = .error 70 := (fail_star _).parse (by simp; omega)
theorem bad_mark {t : T} (hcol : hd (wr [] t) ≠ 58) (hl : (wr [] t).length ≤ 1000) : parse ([40, 63] ++ wr [] t ++ [41]) = .error 70 := by
  have e : [40, 63] ++ wr [] t ++ [41] = 40 :: (63 :: (wr [] t ++ [41])) := by simp
  rw [e]
  refine (fail_of_atom (by decide) (by decide) (fun f hf => ?_)).parse (by simp; omega)
  rw [List.length_cons] at hf
  obtain ⟨g, rfl⟩ : ∃ g, f = g + 1 := ⟨f - 1, by omega⟩
  rw [pAtom, if_neg (by
    intro e
    cases hu : wr [] t with
    | nil => rw [hu] at e; simp at e
    | cons c r => rw [hu] at e hcol; simp at e; rw [hd_cons, e] at hcol; exact hcol rfl), if_pos (by rfl)]
  rw [show (40 :: (63 :: (wr [] t ++ [41]))).drop 1 = 63 :: (wr [] t ++ [41]) from rfl]
  have h1 : pAlt g (63 :: (wr [] t ++ [41])) [] = none := by
    cases g with
    | zero => rw [pAlt]
    | succ g => rw [pAlt, fail_mark _ g [] (by rw [List.length_cons]; omega)]
  rw [h1]
/-- an item with a quantifier, whatever is behind it but for a question mark -/
theorem AtomOK.quantL {t : T} {u q : B} {a b : Int} (h : AtomOK t u) (hQ : QuantOK q a b) (z : Bool) (f : Nat) (rest : B) (acc : List T) (hz : z = true ∨ hd rest ≠ 63) (hf : 3 * (u ++ q ++ (if z then [63] else []) ++ rest).length + 1 ≤ f) :
    ∃ k, pCat (f + 1) (u ++ q ++ (if z then [63] else []) ++ rest) acc = (pCat f rest (acc ++ [.mk 5 [] a b z [t]])).map (fun p => (p.1, k + p.2)) := by
  have e : u ++ q ++ (if z then [63] else []) ++ rest = u ++ (q ++ ((if z then [63] else []) ++ rest)) := by simp
  have hqq : quantifier t (q ++ ((if z then [63] else []) ++ rest)) = some (.mk 5 [] a b z [t], (q ++ (if z then [63] else [])).length) := by
    unfold quantifier
    rw [hQ]
    simp only
    have e2 : (q ++ ((if z then [63] else []) ++ rest))[q.length]? = ((if z then [63] else []) ++ rest)[0]? := by
      rw [List.getElem?_append_right (Nat.le_refl _), Nat.sub_self]
    rw [e2]
    cases z with
    | true => simp
    | false =>
      rw [if_neg (by
        cases rest with
        | nil => simp
        | cons c r =>
          have h3 := hz.resolve_left (by decide)
          rw [hd_cons] at h3
          simp
          exact byte_ne (d := 63) h3)]
      simp
  refine ⟨u.length + (q ++ (if z then [63] else [])).length, ?_⟩
  rw [e, pCat_step (s := u ++ (q ++ ((if z then [63] else []) ++ rest))) (n := t) (k := u.length) (by simp [h.ne]) (by rw [hd_app h.ne]; exact h.h1) (by rw [hd_app h.ne]; exact h.h2)
    (h.at_ f _ (by rw [e] at hf; rw [List.length_append] at hf; exact hf)) (by rw [List.drop_left]; exact hqq)]
  have e3 : (u ++ (q ++ ((if z then [63] else []) ++ rest))).drop (u.length + (q ++ (if z then [63] else [])).length) = rest := by
    rw [← List.length_append, show u ++ (q ++ ((if z then [63] else []) ++ rest)) = (u ++ (q ++ (if z then [63] else []))) ++ rest by simp, List.drop_left]
  rw [e3]
theorem fail_quant {t : T} {u q r : B} {a b : Int} (h : AtomOK t u) (hQ : QuantOK q a b) (z : Bool) (hz : z = true ∨ hd r ≠ 63) (hF : Fail r) : Fail (u ++ q ++ (if z then [63] else []) ++ r) := by
  intro f acc hf
  obtain ⟨g, rfl⟩ : ∃ g, f = g + 1 := ⟨f - 1, by omega⟩
  have hu := List.length_pos_iff.2 h.ne
  obtain ⟨k, hk⟩ := h.quantL hQ z g r acc hz (by omega)
  rw [hk, hF g _ (by simp only [List.length_append] at hf; omega)]
  rfl
theorem atom_a : AtomOK (one 97) [97] := by
  have hs : (look (one 97)).shaped = true := by decide +kernel
  have e : wr [] (one 97) = [97] := by decide +kernel
  have h := (back (one 97) hs).atom (.inl rfl)
  rw [e] at h
  exact h
theorem atom_ga : AtomOK (.mk 6 [] 0 0 false [one 97]) [40, 97, 41] := atom_a.item.cat.alt.group (by decide)
theorem fail_stars (r : B) : Fail (97 :: 42 :: 42 :: r) := fail_quant (u := [97]) (q := [42]) (r := 42 :: r) atom_a quant_star false (.inr (by rw [hd_cons]; decide)) (fail_star r)
theorem fail_lazy : Fail [40, 97, 41, 63, 63, 43] := fail_quant (u := [40, 97, 41]) (q := [63]) (r := [43]) atom_ga quant_mark true (.inl rfl) (fail_plus [])
/-- the ten patterns that are none -/
def badP (s : B) (w : Nat) : B :=
  [s ++ [41], 40 :: s, [40, 63, 58] ++ s, 42 :: s, [40, 63] ++ s ++ [41], [97, 42, 42] ++ s, s ++ [40, 97, 41, 63, 63, 43], s ++ [94], s ++ [255], [91, 93] ++ s].getD w []
theorem bad_all {t : T} (h : right t = true) (hcol : hd (wr [] t) ≠ 58) (hl : (wr [] t).length ≤ 1000) (w : Nat) (hw : w < 10) : parse (badP (wr [] t) w) = .error 70 := by
  rcases (show w = 0 ∨ w = 1 ∨ w = 2 ∨ w = 3 ∨ w = 4 ∨ w = 5 ∨ w = 6 ∨ w = 7 ∨ w = 8 ∨ w = 9 by omega) with rfl | rfl | rfl | rfl | rfl | rfl | rfl | rfl | rfl | rfl
  · exact bad_close h hl
  · exact bad_open h hl
  · exact bad_brk h hl
  · exact bad_star hl
  · exact bad_mark hcol hl
  · exact (fail_stars _).parse (by simp; omega)
  · exact bad_behind h (nq_of (c := 40) rfl (.inl rfl)) fail_lazy (by simp; omega)
  · exact bad_behind h (by unfold NQ; rw [hd_cons]; decide) (fail_hat []) (by simp; omega)
  · exact bad_behind h (by unfold NQ; rw [hd_cons]; decide) fail_ff (by simp; omega)
  · exact (fail_class _).parse (by simp; omega)
/-- the six trees that are not right -/
def wrongN (t : T) (w n : Int) : T :=
  if w / 10 % 6 = 0 then .mk 6 [] (max n 1) 0 false [t] else if w / 10 % 6 = 1 then .mk (max w 7) [] 0 0 false [t] else if w / 10 % 6 = 2 then .mk 6 [] 0 0 false [t, t]
  else if w / 10 % 6 = 3 then .mk 5 [] (max n 2) 1 false [t] else if w / 10 % 6 = 4 then .mk 5 [] 0 (max n 1001) false [t] else .mk 6 [] 0 0 true [t]
theorem wrongN_shape (t : T) (w n : Int) : (look (wrongN t w n)).shaped = false := by
  unfold wrongN
  split
  · rw [look_shaped]; simp [shapedN]; omega
  split
  · rw [look_shaped]
    have e : shapedN (max w 7) [] 0 0 false [t].length = false := by
      unfold shapedN
      dsimp only
      rw [if_neg (by omega), if_neg (by omega), if_neg (by omega), if_neg (by omega), if_neg (by omega)]
    rw [e]; rfl
  split
  · rw [look_shaped]; simp [shapedN]
  split
  · rw [look_shaped]; simp [shapedN]; omega
  split
  · rw [look_shaped]; simp [shapedN]; omega
  · rw [look_shaped]; simp [shapedN]
theorem wrong_no (t : T) (w n : Int) : right (.mk 3 [] 0 0 false [.mk 1 [] 0 0 false [], wrongN t w n]) = false := by
  unfold right rightF
  rw [look_shaped]
  simp [wrongN_shape]
end Go.Proofs.YtimahlimmblgkaaGreatDoor.Sy
namespace Go.Proofs.YtimahlimmblgkaaGreatDoor.Sy
/-- bytes, some times -/
def rep (n : Nat) (u : B) : B := (List.replicate n u).flatten
theorem rep_succ (n : Nat) (u : B) : rep (n + 1) u = u ++ rep n u := by simp [rep, List.replicate_succ]
theorem rep_succ' (n : Nat) (u : B) : rep (n + 1) u = rep n u ++ u := by simp [rep, List.replicate_succ']
theorem rep_len (n : Nat) (u : B) : (rep n u).length = n * u.length := by simp [rep]
/-- the error that a pattern is told -/
def errP (s : B) : Int := match parse s with
  | .ok _ => 0
  | .error e => e
theorem cat_list {l : List T} (h : ∀ t ∈ l, (look t).shaped = true) : CatOK (join 3 l) (wrL [3, 4, 1] l) := by
  intro f rest hs hf
  rw [items_ok l f rest [] (fun t ht => (back t (h t ht)).three) hs hf, List.nil_append]
theorem wrL_append (ks : List Int) : ∀ l m : List T, wrL ks (l ++ m) = wrL ks l ++ wrL ks m
  | [], m => by simp [wrL]
  | t :: l, m => by rw [List.cons_append, wrL, wrL, wrL_append ks l m, List.append_assoc]
theorem wrL_rep (ks : List Int) (n : Nat) (t : T) : wrL ks (List.replicate n t) = rep n (wr ks t) := by
  induction n with
  | zero => rfl
  | succ n ih => rw [List.replicate_succ, wrL, ih, rep_succ]
theorem grpL_append : ∀ l m : List T, grpL (l ++ m) = grpL l + grpL m
  | [], m => by simp [grpL]
  | t :: l, m => by rw [List.cons_append, grpL, grpL, grpL_append l m]; omega
theorem grpL_rep (n : Nat) (t : T) : grpL (List.replicate n t) = n * grp t := by
  induction n with
  | zero => simp [grpL]
  | succ n ih => rw [List.replicate_succ, grpL, ih, Nat.succ_mul]; omega
theorem cntL_rep (n : Nat) (t : T) : cntL (List.replicate n t) = n * cnt t := by
  induction n with
  | zero => simp [cntL]
  | succ n ih => rw [List.replicate_succ, cntL, ih, Nat.succ_mul]; omega
theorem depL_append : ∀ l m : List T, depL (l ++ m) = max (depL l) (depL m)
  | [], m => by simp [depL]
  | t :: l, m => by rw [List.cons_append, depL, depL, depL_append l m]; omega
theorem depL_rep (n : Nat) (t : T) : depL (List.replicate n t) ≤ dep t := by
  induction n with
  | zero => simp [depL]
  | succ n ih => rw [List.replicate_succ, depL]; omega
theorem join_grp (l : List T) : grp (join 3 l) = grpL l := by
  match l with
  | [] => rfl
  | [t] => simp [join, grpL]
  | a :: b :: r => rw [join_many (by simp), grp]; simp
theorem join_dep (l : List T) : dep (join 3 l) ≤ depL l + 1 := by
  match l with
  | [] => simp [join, dep, depL]
  | [t] => simp [join, depL]
  | a :: b :: r => rw [join_many (by simp), dep]; omega
theorem join_firm {l : List T} (h : ∀ t ∈ l, (look t).firm = true) : (look (join 3 l)).firm = true := by
  match l, h with
  | [], _ => decide +kernel
  | [t], h => exact h t (by simp)
  | a :: b :: r, h => rw [join_many (by simp)]; exact many_firm (by decide) h
abbrev GA : T := .mk 6 [] 0 0 false [one 97]
theorem ga_facts : (look GA).shaped = true ∧ (look GA).firm = true ∧ wr [3, 4, 1] GA = [40, 97, 41] ∧ grp GA = 1 ∧ dep GA = 2 ∧ cnt GA = 2 := by decide +kernel
theorem one_facts : ((look (one 97)).shaped = true ∧ (look (one 97)).firm = true ∧ wr [3, 4, 1] (one 97) = [97] ∧ grp (one 97) = 0 ∧ dep (one 97) = 1 ∧ cnt (one 97) = 1) ∧
    ((look (one 98)).shaped = true ∧ (look (one 98)).firm = true ∧ wr [3, 4, 1] (one 98) = [98] ∧ grp (one 98) = 0 ∧ dep (one 98) = 1 ∧ cnt (one 98) = 1) := by decide +kernel
/-- some groups, and one character -/
def rowT (g : Nat) (c : Int) : T := join 3 (List.replicate g GA ++ [one c])
theorem row_ok (g : Nat) (c : UInt8) (hc : c = 97 ∨ c = 98) : CatOK (rowT g c.toNat) (rep g [40, 97, 41] ++ [c]) ∧ (look (rowT g c.toNat)).firm = true ∧ grp (rowT g c.toNat) = g ∧ dep (rowT g c.toNat) ≤ 3 ∧ cnt (rowT g c.toNat) ≤ 2 * g + 2 := by
  obtain ⟨g1, g2, g3, g4, g5, g6⟩ := ga_facts
  have ho : (look (one c.toNat)).shaped = true ∧ (look (one c.toNat)).firm = true ∧ wr [3, 4, 1] (one c.toNat) = [c] ∧ grp (one c.toNat) = 0 ∧ dep (one c.toNat) = 1 ∧ cnt (one c.toNat) = 1 := by
    rcases hc with rfl | rfl
    · exact one_facts.1
    · exact one_facts.2
  obtain ⟨o1, o2, o3, o4, o5, o6⟩ := ho
  have hm : ∀ t ∈ List.replicate g GA ++ [one c.toNat], t = GA ∨ t = one c.toNat := fun t ht => by
    rcases List.mem_append.1 ht with h | h
    · exact .inl (List.eq_of_mem_replicate h)
    · exact .inr (List.mem_singleton.1 h)
  refine ⟨?_, ?_, ?_, ?_, ?_⟩
  · have h := cat_list (l := List.replicate g GA ++ [one c.toNat]) (fun t ht => by rcases hm t ht with rfl | rfl <;> assumption)
    rw [wrL_append, wrL_rep, g3, wrL, wrL, o3, List.append_nil] at h
    exact h
  · exact join_firm (fun t ht => by rcases hm t ht with rfl | rfl <;> assumption)
  · unfold rowT
    rw [join_grp, grpL_append, grpL_rep, g4, grpL, grpL, o4]; omega
  · have := join_dep (List.replicate g GA ++ [one c.toNat])
    rw [depL_append, depL, depL, o5] at this
    have h2 := depL_rep g GA
    unfold rowT
    omega
  · have := join_cnt 3 (List.replicate g GA ++ [one c.toNat])
    rw [cntL_append, cntL_rep, g6, cntL, cntL, o6] at this
    unfold rowT
    omega
theorem errP_alt {t : T} {u : B} (h : AltOK t u) (hl : u.length ≤ 1024) (hf : (look t).firm = true) (hc : cnt t ≤ 1000000) : errP u = if 30 < grp t then 5 else if 40 < dep t then 72 else 0 := by
  obtain ⟨n1, n2⟩ := look_nums t (by omega)
  unfold errP
  rw [parse_alt h hl, if_neg (by rw [hf]; simp), n1, n2]
  by_cases h1 : 30 < grp t
  · rw [if_pos (by omega), if_pos h1]
  · rw [if_neg (by omega), if_neg h1]
    by_cases h2 : 40 < dep t
    · rw [if_pos (by omega), if_pos h2]
    · rw [if_neg (by omega), if_neg h2]
theorem most_groups (g : Nat) (hg : g ≤ 200) : errP (rep g [40, 97, 41] ++ [98]) = if 30 < g then 5 else 0 := by
  obtain ⟨h1, h2, h3, h4, h5⟩ := row_ok g 98 (.inr rfl)
  rw [errP_alt h1.alt (by rw [List.length_append, rep_len]; simp; omega) h2 (by omega), h3, if_neg (show ¬ 40 < dep (rowT g (98 : UInt8).toNat) by omega)]
def deepU : Nat → B
  | 0 => [98]
  | d + 1 => [97, 124, 40, 63, 58] ++ deepU d ++ [41]
def deepT : Nat → T
  | 0 => one 98
  | d + 1 => .mk 4 [] 0 0 false [one 97, deepT d]
theorem deepU_rep (d : Nat) : rep d [97, 124, 40, 63, 58] ++ [98] ++ rep d [41] = deepU d := by
  induction d with
  | zero => rfl
  | succ d ih => rw [rep_succ, rep_succ', deepU, ← ih]; simp
theorem deepU_len (d : Nat) : (deepU d).length = 6 * d + 1 := by
  induction d with
  | zero => rfl
  | succ d ih => rw [deepU]; simp [ih]; omega
theorem deep_ok (d : Nat) : AltOK (deepT d) (deepU d) := by
  induction d with
  | zero =>
    have h := (back (one 98) one_facts.2.1).alt
    rw [show wr [] (one 98) = [98] by decide +kernel] at h
    exact h
  | succ d ih =>
    have h := alt2 atom_a.item.cat ih.brk.item.cat
    have e : [97] ++ 124 :: brk true (deepU d) = deepU (d + 1) := by rw [deepU]; simp [brk]
    rw [e] at h
    exact h
theorem deep_facts (d : Nat) : (look (deepT d)).firm = true ∧ grp (deepT d) = 0 ∧ dep (deepT d) = d + 1 ∧ cnt (deepT d) = 2 * d + 1 := by
  induction d with
  | zero => decide +kernel
  | succ d ih =>
    obtain ⟨h1, h2, h3, h4⟩ := ih
    obtain ⟨o1, o2, o3, o4, o5, o6⟩ := one_facts.1
    refine ⟨?_, ?_, ?_, ?_⟩
    · rw [deepT, look_firm]; simp [o2, h1]
    · rw [deepT, grp, grpL, grpL, grpL, o4, h2]; simp
    · rw [deepT, dep, depL, depL, depL, o5, h3]; omega
    · rw [deepT, cnt, cntL, cntL, cntL, o6, h4]; omega
theorem most_deep (d : Nat) (hd : d ≤ 100) : errP (deepU d) = if 40 ≤ d then 72 else 0 := by
  obtain ⟨h1, h2, h3, h4⟩ := deep_facts d
  rw [errP_alt (deep_ok d) (by rw [deepU_len]; omega) h1 (by omega), h2, h3, if_neg (by omega)]
  by_cases h : 40 ≤ d
  · rw [if_pos (by omega), if_pos h]
  · rw [if_neg (by omega), if_neg h]
theorem most_both (d : Nat) (hd : d ≤ 100) : errP (rep 31 [40, 97, 41] ++ deepU d) = 5 := by
  have hlen : (rep 31 [40, 97, 41] ++ deepU d).length ≤ 1024 := by rw [List.length_append, rep_len, deepU_len]; simp; omega
  cases d with
  | zero =>
    obtain ⟨h1, h2, h3, h4, h5⟩ := row_ok 31 98 (.inr rfl)
    rw [errP_alt (u := rep 31 [40, 97, 41] ++ deepU 0) h1.alt hlen h2 (by omega), h3, if_pos (by omega)]
  | succ d =>
    obtain ⟨h1, h2, h3, h4, h5⟩ := row_ok 31 97 (.inl rfl)
    obtain ⟨d1, d2, d3, d4⟩ := deep_facts d
    have h := alt2 h1 (deep_ok d).brk.item.cat
    have e : rep 31 [40, 97, 41] ++ [97] ++ 124 :: brk true (deepU d) = rep 31 [40, 97, 41] ++ deepU (d + 1) := by rw [deepU]; simp [brk]
    rw [e] at h
    rw [errP_alt h hlen (by have h2' : (look (rowT 31 97)).firm = true := h2; rw [look_firm]; simp [h2', d1]) (by rw [cnt, cntL, cntL, cntL, d4]; omega), grp, grpL, grpL, grpL, h3, d2, if_pos (by simp)]
theorem most_long (k : Nat) : errP (rep k [97]) = if 1024 < k then 3 else 0 := by
  by_cases hk : 1024 < k
  · unfold errP parse
    rw [rep_len, if_pos (by simpa using hk), if_pos hk]
  · rw [if_neg hk]
    obtain ⟨o1, o2, o3, o4, o5, o6⟩ := one_facts.1
    have hm : ∀ t ∈ List.replicate k (one 97), t = one 97 := fun t ht => List.eq_of_mem_replicate ht
    have h := cat_list (l := List.replicate k (one 97)) (fun t ht => by rw [hm t ht]; exact o1)
    rw [wrL_rep, o3] at h
    have hc := join_cnt 3 (List.replicate k (one 97))
    rw [cntL_rep, o6] at hc
    have hd := join_dep (List.replicate k (one 97))
    have hd2 := depL_rep k (one 97)
    rw [errP_alt h.alt (by rw [rep_len]; simp; omega) (join_firm (fun t ht => by rw [hm t ht]; exact o2)) (by omega), join_grp, grpL_rep, o4, if_neg (by omega), if_neg (by omega)]
theorem most_stars (k : Nat) : errP (rep (k + 1) [42]) = if 1024 ≤ k then 3 else 70 := by
  by_cases hk : 1024 ≤ k
  · unfold errP parse
    rw [rep_len, if_pos (by simp; omega), if_pos hk]
  · unfold errP
    rw [if_neg hk, rep_succ, List.singleton_append, (fail_star _).parse (by simp [rep_len]; omega)]
end Go.Proofs.YtimahlimmblgkaaGreatDoor.Sy
namespace Go.Proofs.YtimahlimmblgkaaGreatDoor.Sy
theorem lens_group {n : Bool} {t : T} (h : LenOK n (lens t)) : lens (.mk 6 [] 0 0 false [t]) = lens t := by
  obtain ⟨h1, h2, h3, h4⟩ := h
  have e : lens (.mk 6 [] 0 0 false [t]) = (plusP 0 (lens t).1, plusP 0 (lens t).2) := by
    rw [lens, lensL, lensL]
    unfold stepLen
    rw [if_neg (by decide), if_pos (.inl (by decide)), if_neg (by decide)]
  rw [e]
  clear e
  generalize lens t = p at *
  obtain ⟨a, b⟩ := p
  dsimp only at *
  unfold plusP
  rw [if_neg (show ¬ ((0 : Int) = -1 ∨ a = -1) by omega)]
  refine Prod.ext ?_ ?_
  · show min (0 + a) 1073741824 = a
    omega
  · show (if (0 : Int) = -1 ∨ b = -1 then (-1 : Int) else min (0 + b) 1073741824) = b
    split <;> omega
theorem lens_cat2 {m n : Bool} {t v : T} (h : LenOK m (lens t)) (k : LenOK n (lens v)) :
    lens (.mk 3 [] 0 0 false [t, v]) = (min ((lens t).1 + (lens v).1) 1073741824, if (lens t).2 = -1 ∨ (lens v).2 = -1 then -1 else min ((lens t).2 + (lens v).2) 1073741824) := by
  obtain ⟨h1, h2, h3, h4⟩ := h
  obtain ⟨k1, k2, k3, k4⟩ := k
  have e : lens (.mk 3 [] 0 0 false [t, v]) = (plusP (plusP 0 (lens t).1) (lens v).1, plusP (plusP 0 (lens t).2) (lens v).2) := by
    rw [lens, lensL, lensL, lensL]
    unfold stepLen
    rw [if_neg (by decide), if_pos (.inl (by decide)), if_neg (by decide), if_pos (.inl (by decide)), if_neg (by decide)]
  rw [e]
  clear e
  generalize lens t = p at *
  generalize lens v = q at *
  obtain ⟨a, b⟩ := p
  obtain ⟨c, d⟩ := q
  dsimp only at *
  unfold plusP
  refine Prod.ext ?_ ?_
  · dsimp only
    rw [if_neg (show ¬ ((0 : Int) = -1 ∨ a = -1) by omega), if_neg (by omega)]
    omega
  · dsimp only
    by_cases hb : b = -1
    · rw [if_pos (show (0 : Int) = -1 ∨ b = -1 by omega), if_pos (.inl rfl), if_pos (.inl hb)]
    · rw [if_neg (show ¬ ((0 : Int) = -1 ∨ b = -1) by omega)]
      by_cases hd : d = -1
      · rw [if_pos (.inr hd), if_pos (.inr hd)]
      · rw [if_neg (by omega), if_neg (by omega)]
        omega
theorem lens_alt2 {m n : Bool} {t v : T} (h : LenOK m (lens t)) (k : LenOK n (lens v)) :
    lens (.mk 4 [] 0 0 false [t, v]) = (min (lens t).1 (lens v).1, if (lens t).2 = -1 ∨ (lens v).2 = -1 then -1 else max (lens t).2 (lens v).2) := by
  obtain ⟨h1, h2, h3, h4⟩ := h
  obtain ⟨k1, k2, k3, k4⟩ := k
  have e : lens (.mk 4 [] 0 0 false [t, v]) = stepLen 4 0 0 false (plusP 0 (lens t).1, plusP 0 (lens t).2) (lens v) := by
    rw [lens, lensL, lensL, lensL]
    rfl
  rw [e]
  unfold stepLen
  rw [if_neg (by decide), if_neg (by decide)]
  clear e
  generalize lens t = p at *
  generalize lens v = q at *
  obtain ⟨a, b⟩ := p
  obtain ⟨c, d⟩ := q
  dsimp only at *
  unfold plusP
  refine Prod.ext ?_ ?_
  · dsimp only
    rw [if_neg (show ¬ ((0 : Int) = -1 ∨ a = -1) by omega)]
    omega
  · dsimp only
    by_cases hb : b = -1
    · rw [if_pos (show (0 : Int) = -1 ∨ b = -1 by omega), if_neg (by omega), if_pos (.inl hb)]
    · rw [if_neg (show ¬ ((0 : Int) = -1 ∨ b = -1) by omega)]
      by_cases hd : d = -1
      · rw [if_pos (by omega), if_pos (.inr hd), hd]
      · rw [if_neg (show ¬ (b = -1 ∨ d = -1) by omega)]
        split <;> omega
/-- the tree of a pattern, if it has one -/
def treeOf (s : B) : T := match parse s with
  | .ok t => t
  | .error _ => .mk 0 [] 0 0 false []
def okB (s : B) : Bool := match parse s with
  | .ok _ => true
  | .error _ => false
theorem ok_tree {s : B} (h : okB s = true) : parse s = .ok (treeOf s) := by
  unfold okB at h
  unfold treeOf
  split at h
  · rename_i t e; rw [e]
  · cases h
theorem err_of {s : B} {e : Int} (h : errP s = e) (h0 : e ≠ 0) : parse s = .error e := by
  unfold errP at h
  split at h
  · omega
  · rename_i x hx; rw [hx, h]
abbrev aw1 : B := [97, 124, 98, 99, 42]
abbrev aw2 : B := [40, 97, 124, 41, 120, 123, 50, 44, 51, 125, 63]
theorem aw1_ok : okB aw1 = true ∧ lens (treeOf aw1) = (1, -1) ∧ right (treeOf aw1) = true := by decide +kernel
theorem aw2_ok : okB aw2 = true ∧ lens (treeOf aw2) = (2, 4) ∧ right (treeOf aw2) = true := by decide +kernel
theorem aw1_form : treeOf aw1 = .mk 4 [] 0 0 false [one 97, .mk 3 [] 0 0 false [one 98, .mk 5 [] 0 (-1) false [one 99]]] := (same_eq _ _).1 (by decide +kernel)
theorem aw2_form : treeOf aw2 = .mk 3 [] 0 0 false [.mk 6 [] 0 0 false [.mk 4 [] 0 0 false [one 97, .mk 1 [] 0 0 false []]], .mk 5 [] 2 3 true [one 120]] := (same_eq _ _).1 (by decide +kernel)
/-- patterns, and the texts of their trees -/
def awP : List (B × B) :=
  [([40, 63, 58, 97, 98, 41, 99], [40, 63, 58, 97, 98, 41, 99]), ([40, 63, 58, 97, 41, 98], [97, 98]), ([97, 123, 49, 44, 125], [97, 43]), ([92, 100, 123, 50, 44, 50, 125], [91, 48, 45, 57, 93, 123, 50, 125]),
    ([40, 63, 58, 97, 124, 98, 41, 63, 63], [40, 63, 58, 97, 124, 98, 41, 63, 63]), ([40, 97, 42, 41, 63], [40, 97, 42, 41, 63])]
theorem awP_ok : ∀ p ∈ awP, okB p.1 = true ∧ right (treeOf p.1) = true ∧ wr [] (treeOf p.1) = p.2 ∧ p.1.length ≤ 20 ∧ p.2.length ≤ 20 := by decide +kernel
/-- strings that are no patterns -/
def aw9 : List B := [[40], [97, 41], [97, 42, 42], [97, 123, 49], [97, 123, 48, 49, 125], [97, 123, 50, 44, 49, 125], [94, 97], [40, 63, 105, 41, 97], [93]]
theorem aw9_ok : ∀ s ∈ aw9, errP s = 70 ∧ s.length ≤ 20 := by decide +kernel
theorem aw71 : errP [40, 97, 42, 41, 42] = 71 ∧ errP [40, 97, 124, 41, 123, 48, 44, 50, 125] = 71 := by decide +kernel
end Go.Proofs.YtimahlimmblgkaaGreatDoor.Sy
namespace Go.Proofs.YtimahlimmblgkaaGreatDoor.Sy
mutual
theorem grp_cnt1 : ∀ t : T, (look t).shaped = true → grp t + 1 ≤ cnt t
  | .mk k s a b z l, h => by
    rw [look_shaped, Bool.and_eq_true] at h
    have hl := grp_cntL l h.2
    rw [grp, cnt]
    rcases shapedN_cases h.1 with ⟨rfl, _⟩ | ⟨rfl, _⟩ | ⟨rfl, _⟩ | ⟨rfl, _⟩ | ⟨rfl, _⟩ | ⟨rfl, _, _, _, _, hn⟩
    · simp; omega
    · simp; omega
    · simp; omega
    · simp; omega
    · simp; omega
    · simp; omega
theorem grp_cntL : ∀ l : List T, l.all (fun t => (look t).shaped) = true → grpL l + l.length ≤ cntL l
  | [], _ => by simp [grpL, cntL]
  | t :: l, h => by
    rw [List.all_cons, Bool.and_eq_true] at h
    have h1 := grp_cnt1 t h.1
    have h2 := grp_cntL l h.2
    rw [grpL, cntL, List.length_cons]
    omega
end
theorem Good.right2 {t : T} (h : Good t) (hc : cnt t ≤ 40) (hg : grp t ≤ 30) : Sy.right t = true := by
  obtain ⟨h1, h2⟩ := look_nums t (by omega)
  have hd := dep_cnt t
  unfold Sy.right rightF
  rw [h.sh, h.fi, h1, h2]
  simp
  omega
/-- what the law SyntaxLengths asks of its two trees -/
structure LenFacts (t v : T) : Prop where
  r1 : Sy.right t = true
  r2 : Sy.right v = true
  rg : Sy.right (.mk 6 [] 0 0 false [t]) = true
  rc : Sy.right (.mk 3 [] 0 0 false [t, v]) = true
  ra : Sy.right (.mk 4 [] 0 0 false [t, v]) = true
  n1 : (look t).nul = nulP t
  ok1 : LenOK (nulP t) (lens t)
  ok2 : LenOK (nulP v) (lens v)
  g1 : 0 ≤ (look t).groups ∧ (look t).groups ≤ 30
  gg : (look (.mk 6 [] 0 0 false [t])).groups = (look t).groups + 1
  ng : (look (.mk 6 [] 0 0 false [t])).nul = nulP t
  lg : lens (.mk 6 [] 0 0 false [t]) = lens t
  lc : lens (.mk 3 [] 0 0 false [t, v]) = (min ((lens t).1 + (lens v).1) 1073741824, if (lens t).2 = -1 ∨ (lens v).2 = -1 then -1 else min ((lens t).2 + (lens v).2) 1073741824)
  la : lens (.mk 4 [] 0 0 false [t, v]) = (min (lens t).1 (lens v).1, if (lens t).2 = -1 ∨ (lens v).2 = -1 then -1 else max (lens t).2 (lens v).2)
theorem len_facts (l m : List Sm) : LenFacts (made (l.take 15)) (made (m.take 15)) := by
  obtain ⟨g1, _, c1⟩ := made_good (l.take 15)
  obtain ⟨g2, _, c2⟩ := made_good (m.take 15)
  rw [List.length_take] at c1 c2
  generalize made (l.take 15) = t at *
  generalize made (m.take 15) = v at *
  have e1 := grp_cnt1 t g1.sh
  have e2 := grp_cnt1 v g2.sh
  have hg : ∀ x ∈ [t, v], Good x := by
    intro x hx
    rcases List.mem_cons.1 hx with rfl | hx
    · exact g1
    · rw [List.mem_singleton.1 hx]; exact g2
  have o1 := lens_ok t g1.sh
  have o2 := lens_ok v g2.sh
  rw [← nulP_eq] at o1 o2
  have hn : (look (.mk 6 [] 0 0 false [t])).groups = (look t).groups + 1 := by
    rw [(look_nums t (by omega)).2, (look_nums (.mk 6 [] 0 0 false [t]) (by simp only [cnt, cntL]; omega)).2]
    simp [grp, grpL]
  refine ⟨g1.right2 (by omega) (by omega), g2.right2 (by omega) (by omega), (group_good g1).right2 ?_ ?_, (cat_good hg (by simp)).right2 ?_ ?_, (alt_good hg (by simp) (by simp)).right2 ?_ ?_, (nulP_eq t).symm, o1, o2, ?_, hn, ?_, lens_group o1, lens_cat2 o1 o2, lens_alt2 o1 o2⟩
  all_goals first | (simp only [cnt, cntL]; omega) | (simp [grp, grpL]; omega) | skip
  · rw [(look_nums t (by omega)).2]; omega
  · rw [look_nul, nulP_eq]; simp
end Go.Proofs.YtimahlimmblgkaaGreatDoor.Sy
