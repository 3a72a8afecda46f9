/- Chapter 38: the law SinkRules: its walk. -/
import Derived.Test.YtiooimdncocfdaaGreatDoorKvA
import Derived.Test.YtiooimdncocfdaaGreatDoorKqO
import Derived.Test.YtiooimdncocfdaaGreatDoorKqC
namespace Go.Proofs.YtiooimdncocfdaaGreatDoor.Sk
open Go Go.RowKit
/-- a sink and its items, read beside it -/
structure RS (w0 : World) (p b m : Nat) (aA : Option Addr) (lA : List SI) (its : List It) (wx : World) : Prop where
  snk : ∃ n v l, SinkAt wx p b m n v l ∧ l.map SI.it = its
  wA : RdI wx aA lA
  bel : Below w0.heap.size w0 wx
theorem RS.below {w0 wx w' : World} {p b m : Nat} {aA : Option Addr} {lA : List SI} {its : List It} (h : RS w0 p b m aA lA its wx) (hb : Below wx.heap.size wx w') : RS w0 p b m aA lA its w' := by
  obtain ⟨n, v, l, hS, hm⟩ := h.snk
  exact ⟨⟨n, v, l, hS.below hb, hm⟩, h.wA.below hb (Nat.le_refl _), Bthen h.bel hb⟩
theorem chk_sound : ∀ (l : List It) (f : Line → Last) (i : Int), l.all (fun x => itemRight (d x.key) x.e) = true → appGo f l = 0 → chkGo f i l = (-1, 0)
  | [], _, _, _, _ => rfl
  | x :: r, f, i, h, hg => by
    rw [List.all_cons, Bool.and_eq_true] at h
    unfold appGo at hg
    split at hg
    · rename_i h0
      unfold chkGo
      rw [if_pos h.1, if_pos h0]
      exact chk_sound r _ _ h.2 hg
    · rename_i h0
      exact absurd hg h0
theorem check_sound {l : List It} (h : Sound l) : check l = (-1, 0) := chk_sound l _ _ h.right h.go
theorem isOk_right {l : List SI} (h : ∀ x ∈ l, x.key.size ≤ 1000000 ∧ labRight x.e.lab = true) : IsOk l := by
  refine ⟨fun x hx => (h x hx).1, fun x hx => by have := (labRight_ok (h x hx).2).1; omega, fun x hx y hy => ?_⟩
  have h3 := ((labRight_ok (h x hx).2).2 y hy).2
  simp only [d, Array.length_toList] at h3
  have h4 : y.2.size ≤ 1024 := h3
  omega
/-- the series that the law looks at in turn -/
def sqR (j : Nat) : Int := if j = 0 then 2 else if j = 1 then 0 else 1
def openT (K : ByteArray) (its : List It) (j : Nat) : List (List Lab) := ([serN 2, serN 0, serN 1].take j).filter fun L => sampR K L its
theorem openT_succ {K : ByteArray} {its : List It} {j : Nat} (hj : j < 3) : openT K its (j + 1) = openT K its j ++ if sampR K (serN (sqR j)) its then [serN (sqR j)] else [] := by
  have key : ([serN 2, serN 0, serN 1] : List (List Lab)).take (j + 1) = ([serN 2, serN 0, serN 1] : List (List Lab)).take j ++ [serN (sqR j)] := by
    match j, hj with
    | 0, _ => rfl
    | 1, _ => rfl
    | 2, _ => rfl
  unfold openT
  rw [key, List.filter_append]
  congr 1
  cases h : sampR K (serN (sqR j)) its <;> simp [h]
theorem sqR_cell {j : Nat} (hj : j < 3) : (#[Value.int .u8 2, .int .u8 0, .int .u8 1] : Array Value)[j]? = some (.int .u8 (sqR j)) := by
  match j, hj with
  | 0, _ => rfl
  | 1, _ => rfl
  | 2, _ => rfl
theorem sqR_ok {j : Nat} : 0 ≤ sqR j ∧ sqR j ≤ 2 := by
  unfold sqR
  split
  · decide
  · split <;> decide
theorem maps_bytes : ∀ {l m : List (List Lab)}, (∀ x ∈ l, labRight x = true) → (∀ x ∈ m, labRight x = true) → l.map bytesS = m.map bytesS → l = m
  | [], [], _, _, _ => rfl
  | [], _ :: _, _, _, h => by simp at h
  | _ :: _, [], _, _, h => by simp at h
  | x :: l, y :: m, hl, hm, h => by
    simp only [List.map_cons, List.cons.injEq] at h
    rw [bytesS_inj (hl x (List.mem_cons_self ..)) (hm y (List.mem_cons_self ..)) h.1, maps_bytes (fun z hz => hl z (List.mem_cons_of_mem _ hz)) (fun z hz => hm z (List.mem_cons_of_mem _ hz)) h.2]
def R1 (w0 : World) (p b m : Nat) (aA : Option Addr) (lA : List SI) (its : List It) (i : Value) (wr : World) : Prop :=
  ∃ k : Nat, k ≤ 3 ∧ i = .int .i64 k ∧ RS w0 p b m aA lA its wr
def R2 (w0 : World) (p b m : Nat) (aA : Option Addr) (lA : List SI) (its : List It) (K : ByteArray) (B64 H : Nat) (out i : Value) (wr : World) : Prop :=
  ∃ (j : Nat) (ls : List LL), j ≤ 3 ∧ i = .int .i64 j ∧ ls.map LL.lab = openT K its j ∧ (∀ x ∈ ls, Ll wr x.la x.lc x.lab) ∧ wr.ownsRow H 56 1 out ls.length (ls.map llB) ∧ wr.heap[B64]? = some (.cells #[.int .u8 2, .int .u8 0, .int .u8 1] 5 (0, 0)) ∧ RS w0 p b m aA lA its wr ∧ H ≤ wr.heap.size
def R3 (K : ByteArray) (L : List Lab) (its : List It) (w15 : World) (stamp runs marks sample i : Value) (wr : World) : Prop :=
  ∃ k : Nat, k ≤ its.length ∧ i = .int .i64 k ∧ stamp = .int .i64 (stampR K L (its.take k)) ∧ runs = .int .i64 (runsR K L (its.take k) : Int) ∧ marks = .int .i64 (marksR K L (its.take k) : Int) ∧ sample = .bool (sampR K L (its.take k)) ∧ Below w15.heap.size w15 wr
theorem entS_lab (s : Int) (st : Int) : (entS ⟨0, s, 0, 0⟩ st).lab = serN (s % 3) := rfl
set_option maxRecDepth 100000 in
set_option maxHeartbeats 8000000 in
theorem rules_law (a : Option Addr) (cap : Nat) (l : List Sm) (w : World) (hE : Ev w) (hl : RdF w a (sFlat (l.take 40))) (hok : ∀ x ∈ l, SmOk x) (hcap : l.length ≤ cap) (hc2 : cap ≤ maxLen) :
    Calls Tryz.prog 7 #[.slice a l.length cap] w fun e w' => e = .returned (.bool true) ∧ Below w.heap.size w w' := by
  have HR := Lib.hid (And.intro hE (And.intro hl (And.intro hok (And.intro hcap hc2))))
  clear hE hl hok hcap hc2
  go_enter Tryz.func7, Tryz.ntmps7
  go_wp2_with fail
  go_at_call 30
  refine (awake_calls w HR.out.1).mono ?_
  rintro e w1 ⟨rfl, hb1⟩
  have HB1 := Lib.hid hb1
  have hs1 := hb1.size
  clear hb1
  go_wp2_with fail
  go_at_call 32
  refine (new_calls w1).mono ?_
  rintro e w3 ⟨rfl, hS2, hb2, hz2⟩
  have HB3 := Lib.hid (Bthen HB1.out hb2)
  have hcall := fill_callsG a cap l w3 hS2 (HR.out.1.below HB3.out).kv (RdG.of_flat (by simpa using HR.out.2.1) HB3.out (by omega) (by omega)) HR.out.2.2.1 HR.out.2.2.2.1 HR.out.2.2.2.2
  have HC := Lib.hid hcall
  clear hb2 hS2 hcall hz2
  go_wp2_with fail
  go_at_call 33
  refine HC.out.mono ?_
  rintro e w4 ⟨out, rfl, n4, v4, lS, lO, hF, hmS, hmO⟩
  obtain ⟨aO, cO, rfl⟩ := own_form hF.own
  obtain ⟨its, hits⟩ : ∃ its, its = fillS [] 5 (l.take 40) := ⟨_, rfl⟩
  rw [← hits] at hmS hmO
  have hsnd : Sound its := by rw [hits]; exact fillS_sound _ _ _ Sound.nil
  have hiln : its.length ≤ 40 := by
    have := fillS_len (l.take 40) [] 5
    rw [← hits, List.length_take] at this
    simp at this
    omega
  have hsm : ∀ y ∈ its, y.key.size ≤ 1000000 ∧ labRight y.e.lab = true ∧ y.e.lab.length ≤ 1000000000 := fun y hy => by
    have h1 := (fillS_small (l := l.take 40) (st := 5) y (hits ▸ hy)).1
    have h2 := right_lab (List.all_eq_true.1 hsnd.right y hy)
    refine ⟨?_, h2, by have := (labRight_ok h2).1; omega⟩
    rcases h1 with e | e | e <;> rw [e] <;> decide
  have hser : ∀ y ∈ its, y.e.lab = serN 2 ∨ y.e.lab = serN 0 ∨ y.e.lab = serN 1 := fun y hy => (fillS_small (l := l.take 40) (st := 5) y (hits ▸ hy)).2
  obtain ⟨p2, hp2⟩ : ∃ p2, p2 = w1.heap.size + 1 := ⟨_, rfl⟩
  obtain ⟨b2, hb2⟩ : ∃ b2, b2 = w1.heap.size + 2 := ⟨_, rfl⟩
  obtain ⟨m2, hm2⟩ : ∃ m2, m2 = w1.heap.size := ⟨_, rfl⟩
  rw [← hp2, ← hb2, ← hm2] at hF
  rw [← hp2]
  have hRS : RS w p2 b2 m2 aO lO its w4 := ⟨⟨n4, v4, lS, hF.sink, hmS⟩, RdI.of_own hF.own hF.lab, HB3.out.trans (hF.fr.below (B := w.heap.size) (fun k hk e => by omega) HB3.out.size)⟩
  have HI := Lib.hid (And.intro hsnd (And.intro hsm (And.intro hmO hser)))
  have HT4 := Lib.hid hRS
  have hlO1 : lO.length ≤ its.length := by rw [← hmO, List.length_map]; exact Nat.le_refl _
  clear hRS hsnd hsm hmO hits hmS hF HC hp2 hb2 hm2 HB1 HB3 hs1 hser
  go_wp2_with fail
  go_at_call 37
  obtain ⟨n2, v2, l2, hS2, hm2⟩ := HT4.out.snk
  have hcall := all_calls w4 hS2
  rw [hm2] at hcall
  clear hS2 hm2
  refine hcall.mono ?_
  clear hcall
  rintro e w5 ⟨aA, cA, lA, rfl, hown5, hl5, hm5, hb5⟩
  have hRS5 := HT4.out.below hb5
  have HT5 : Hid (RS w p2 b2 m2 aA lA its w5 ∧ RdI w5 aO lO) := Lib.hid ⟨⟨hRS5.snk, RdI.of_own hown5 hl5, hRS5.bel⟩, hRS5.wA⟩
  have HA := Lib.hid hm5
  have hlA1 : lA.length ≤ its.length := by rw [← hm5, List.length_map]; exact Nat.le_refl _
  have hlA2 : its.length ≤ lA.length := by rw [← hm5, List.length_map]; exact Nat.le_refl _
  clear hown5 hl5 hm5 hb5 HT4 hRS5
  go_wp2_with fail
  go_at_call 41
  have hcall := check_calls aA cA lA w5 (HR.out.1.below HT5.out.1.bel).kv HT5.out.1.wA (isOk_right (fun x hx => by
    have h := HI.out.2.1 x.it (by rw [← HA.out]; exact List.mem_map_of_mem hx)
    exact ⟨h.1, h.2.1⟩)) (by omega)
  rw [HA.out] at hcall
  unfold ChkPost at hcall
  rw [check_sound HI.out.1] at hcall
  refine hcall.mono ?_
  clear hcall
  rintro e w6 ⟨rfl, hb6⟩
  have HT6 : Hid (RS w p2 b2 m2 aA lA its w6 ∧ RdI w6 aO lO) := Lib.hid ⟨HT5.out.1.below hb6, HT5.out.2.below hb6 (Nat.le_refl _)⟩
  clear hb6 HT5
  go_wp2_with fail
  go_at_call 36
  refine (items_yes aA aO cA cO lA lO w6 HT6.out.1.wA HT6.out.2 (fun x hx => (HI.out.2.1 x.it (by rw [← HA.out]; exact List.mem_map_of_mem hx)).2.2) (by omega) (HA.out.trans HI.out.2.2.1.symm)).mono ?_
  rintro e w7 ⟨rfl, hb7⟩
  have HT7 := Lib.hid (HT6.out.1.below hb7)
  clear hb7 HT6
  go_wp2_with fail
  go_at_call 42
  obtain ⟨n2, v2, l2, hS2, hm2⟩ := HT7.out.snk
  have hcall := len_calls w7 hS2
  rw [show l2.length = lO.length by rw [← List.length_map (f := SI.it), hm2, ← HI.out.2.2.1, List.length_map]] at hcall
  clear hS2 hm2
  refine hcall.mono ?_
  clear hcall
  rintro e w8 ⟨rfl, rfl⟩
  go_wp2_with fail
  go_loopw [54] (fun i wr => R1 w p2 b2 m2 aA lA its i wr) (fun i _ => 3 - (intOf i).toNat)
  case atStart => exact ⟨0, by omega, rfl, HT7.out⟩
  case round =>
    obtain ⟨k, hk, rfl, hT⟩ := hrel
    obtain ⟨w9, hw9⟩ : ∃ q, q = wr := ⟨_, rfl⟩
    subst hw9
    have HT9 := Lib.hid hT
    clear hT HT7
    by_cases hlt : k < 3
    · have hkw : IntKind.u8.wrap (k : Int) = (k : Int) := by rw [IntKind.wrap_u8]; omega
      have hlt1 : (k : Int) < 3 := by omega
      have hko : SmOk ⟨(k : Int), 0, 0, 0⟩ := by constructor <;> (dsimp only; omega)
      go_wp2_with fail
      go_at_call 34
      refine (entry_calls ⟨(k : Int), 0, 0, 0⟩ hko 0 _).mono ?_
      rintro e w10 ⟨aB, cB, rfl, -, hb10⟩
      obtain ⟨K, hK⟩ : ∃ K, K = keyS ⟨(k : Int), 0, 0, 0⟩ := ⟨_, rfl⟩
      obtain ⟨eb, heb⟩ : ∃ eb, eb = entS ⟨(k : Int), 0, 0, 0⟩ 0 := ⟨_, rfl⟩
      rw [← hK, ← heb]
      have HK : Hid (K.size ≤ 1000000) := Lib.hid (by rw [hK]; exact keyS_le _)
      have HT10 := Lib.hid (HT9.out.below hb10)
      clear hb10 hK heb HT9 hkw hko
      go_wp2_with fail
      go_loopw [11, 66] (fun out i wr => R2 w p2 b2 m2 aA lA its K (w10.heap.size + 1) (w10.heap.size + 2) out i wr) (fun _ i _ => 3 - (intOf i).toNat)
      case atStart =>
        refine ⟨0, [], by omega, rfl, rfl, (fun x hx => by cases hx), World.ownsRow_nil _ _ _ _, ?_, HT10.out.below (((Below.refl _ _).alloc (Nat.le_refl _) _).alloc (by simp) _), by simp⟩
        have := heap_alloc_new (w10.alloc (.cells #[.slice aB eb.lab.length cB, .bool eb.mark, .int .u64 eb.bits, .bool eb.st, .int .i64 eb.time, .int .i64 eb.stamp] 59)) (.cells #[.int .u8 2, .int .u8 0, .int .u8 1] 5)
        simpa using this
      case round =>
        obtain ⟨j, ls, hj, rfl, hls, hll, hown, hblk, hT, hH⟩ := hrel
        obtain ⟨w12, hw12⟩ : ∃ q, q = wr := ⟨_, rfl⟩
        subst hw12
        have hlsl : ls.length ≤ 3 := by
          have h1 := congrArg List.length hls
          rw [List.length_map] at h1
          have h2 : (openT K its j).length ≤ 3 := by
            unfold openT
            exact Nat.le_trans (List.length_filter_le _ _) (by rw [List.length_take]; simp; omega)
          omega
        have H12 := Lib.hid (And.intro hls (And.intro hll (And.intro hown (And.intro hblk hT))))
        clear hls hll hown hT
        by_cases hlt2 : j < 3
        · obtain ⟨sq, hsq⟩ : ∃ s, s = sqR j := ⟨_, rfl⟩
          have hsq0 := (sqR_ok (j := j)).1
          have hsq1 := (sqR_ok (j := j)).2
          have c0 := block_cell hblk j (.int .u8 (sqR j)) (sqR_cell hlt2)
          rw [← hsq] at hsq0 hsq1 c0
          have HSQ := Lib.hid hsq
          have hso : SmOk ⟨0, sq, 0, 0⟩ := by constructor <;> (dsimp only; omega)
          clear hsq hblk
          go_wp2_with fail
          go_at_call 34
          refine (entry_calls ⟨0, sq, 0, 0⟩ hso 0 _).mono ?_
          rintro e w13 ⟨aY, cY, rfl, hlY, hb13⟩
          obtain ⟨ey, hey⟩ : ∃ ey, ey = entS ⟨0, sq, 0, 0⟩ 0 := ⟨_, rfl⟩
          rw [← hey] at hlY ⊢
          have hL : ey.lab = serN (sqR j) := by
            rw [hey, entS_lab, HSQ.out]
            congr 1
            have := sqR_ok (j := j)
            omega
          have HEY := Lib.hid (And.intro hL (show labRight ey.lab = true by rw [hL]; exact serN_right _))
          have hbs13 := hb13.size
          have H13 := Lib.hid (And.intro hlY hb13)
          clear hlY hb13 hey hL hso c0
          generalize keyS ⟨0, sq, 0, 0⟩ = K0
          go_wp2_with fail
          obtain ⟨w14, hw14⟩ : ∃ q, q = w13.alloc (.cells #[.slice aY ey.lab.length cY, .bool ey.mark, .int .u64 ey.bits, .bool ey.st, .int .i64 ey.time, .int .i64 ey.stamp] 59) := ⟨_, rfl⟩
          rw [← hw14]
          have hb14 : Below w13.heap.size w13 w14 := by rw [hw14]; exact (Below.refl _ _).alloc (Nat.le_refl _) _
          have hy14 : w14.heap[w13.heap.size]? = some (.cells #[.slice aY ey.lab.length cY, .bool ey.mark, .int .u64 ey.bits, .bool ey.st, .int .i64 ey.time, .int .i64 ey.stamp] 59 (0, 0)) := by rw [hw14]; exact heap_alloc_new w13 _
          obtain ⟨bY, hbY⟩ : ∃ bY, bY = w13.heap.size := ⟨_, rfl⟩
          rw [← hbY] at hy14 ⊢
          have H14 := Lib.hid (And.intro hy14 (And.intro (H13.out.1.below hb14 (Nat.le_refl _)) (Bthen H13.out.2 hb14)))
          have hs14 := (Bthen H13.out.2 hb14).size
          clear hw14 hb14 hy14 H13 hbY hbs13
          go_loopw [16, 17, 18, 19, 78] (fun st rn mk sm i wr => R3 K ey.lab its w14 st rn mk sm i wr) (fun _ _ _ _ i _ => its.length - (intOf i).toNat)
          case atStart => exact ⟨0, Nat.zero_le _, rfl, rfl, rfl, rfl, rfl, Below.refl _ _⟩
          case round =>
            obtain ⟨i, hi, rfl, rfl, rfl, rfl, rfl, hb⟩ := hrel
            obtain ⟨w15, hw15⟩ : ∃ q, q = wr := ⟨_, rfl⟩
            subst hw15
            obtain ⟨st, hst⟩ : ∃ q, q = stampR K ey.lab (its.take i) := ⟨_, rfl⟩
            obtain ⟨rn, hrn⟩ : ∃ q, q = runsR K ey.lab (its.take i) := ⟨_, rfl⟩
            obtain ⟨mk, hmk⟩ : ∃ q, q = marksR K ey.lab (its.take i) := ⟨_, rfl⟩
            obtain ⟨sm, hsm⟩ : ∃ q, q = sampR K ey.lab (its.take i) := ⟨_, rfl⟩
            have hmk40 : mk ≤ 40 := by
              have := marks_le K ey.lab (its.take i)
              rw [List.length_take] at this
              omega
            have hrnm : rn = mk + if sm then 1 else 0 := by rw [hrn, hmk, hsm]; rfl
            have hrn41 : rn ≤ 41 := by rw [hrnm]; split <;> omega
            rw [← hst, ← hrn, ← hmk, ← hsm]
            have HS := Lib.hid (And.intro hst (And.intro hrn (And.intro hmk (And.intro hsm (And.intro hrnm hb)))))
            have hbs15 := hb.size
            clear hst hrn hmk hsm hrnm hb
            by_cases hlt3 : i < its.length
            · obtain ⟨x, hx⟩ : ∃ x, lA[i]? = some x := ⟨_, List.getElem?_eq_getElem (by omega)⟩
              have hxi : its[i]? = some x.it := by rw [← HA.out, List.getElem?_map, hx]; rfl
              have hbx : Below w12.heap.size w12 w15 := Bthen H14.out.2.2 HS.out.2.2.2.2.2
              obtain ⟨b, off, e, hbl, ht, hc⟩ := (H12.out.2.2.2.2.wA.below hbx (Nat.le_refl _)).at_ hx
              have hlx := (H12.out.2.2.2.2.wA.lab x (List.mem_of_getElem? hx)).below hbx (Nat.le_refl _)
              subst e
              obtain ⟨xk, xa, xc, xl, xm, xb, xs, xt, xp⟩ := x
              have hsound : Sound (its.take i ++ [⟨xk, ⟨xl, xm, xb, xs, xt, xp⟩⟩]) := by
                have h2 : Sound (its.take (i + 1) ++ its.drop (i + 1)) := by rw [List.take_append_drop]; exact HI.out.1
                have h3 := h2.left
                rw [take_succ_at hxi] at h3
                exact h3
              have htk : its.take (i + 1) = its.take i ++ [⟨xk, ⟨xl, xm, xb, xs, xt, xp⟩⟩] := take_succ_at hxi
              have c0 := hc 0 _ rfl
              rw [Nat.add_zero] at c0
              have c1 := hc 1 _ rfl
              have c2 := hc 2 _ rfl
              have c3 := hc 3 _ rfl
              have c4 := hc 4 _ rfl
              have c5 := hc 5 _ rfl
              have c6 := hc 6 _ rfl
              have hyb := (HS.out.2.2.2.2.2.block _ (isT_of H14.out.1).lt).trans H14.out.1
              have z0 : w15.cell? ⟨bY, 0, none⟩ = some (.slice aY ey.lab.length cY) := block_cell hyb 0 _ rfl
              have hbYl : bY < w15.heap.size := (isT_of hyb).lt
              have hxn : xl.length ≤ 1000000000 := (HI.out.2.1 _ (List.mem_of_getElem? hxi)).2.2
              have hlt3' : i < lA.length := by omega
              have HX := Lib.hid (And.intro hsound (And.intro htk (And.intro (show Ll w15 xa xc xl from hlx) ((H14.out.2.1.below HS.out.2.2.2.2.2 (Nat.le_refl _))))))
              clear hx hxi hc ht hlx hsound htk hyb hbx
              by_cases hkk : xk = K
              · subst hkk
                have hq1 : (xk.toList == xk.toList) = true := beq_self_eq_true _
                go_wp2_with fail
                go_at_call 43
                have hba : Below w15.heap.size w15 (w15.alloc (.cells #[.string xk, .slice xa xl.length xc, .bool xm, .int .u64 xb, .bool xs, .int .i64 xt, .int .i64 xp] 61)) := (Below.refl _ _).alloc (Nat.le_refl _) _
                refine (sameL_calls xa aY xc cY xl ey.lab _ (HX.out.2.2.1.below hba (Nat.le_refl _)).rd (HX.out.2.2.2.below hba (Nat.le_refl _)).rd hxn).mono ?_
                rintro e w16 ⟨rfl, nd, hw16⟩
                have hb16 : Below w15.heap.size w15 w16 := by rw [hw16]; exact below_drewN hba nd
                have hblk16 : w16.heap[w15.heap.size]? = some (.cells #[.string xk, .slice xa xl.length xc, .bool xm, .int .u64 xb, .bool xs, .int .i64 xt, .int .i64 xp] 61 (0, 0)) := by rw [hw16]; exact heap_alloc_new w15 _
                have d0 : w16.cell? ⟨w15.heap.size, 0, none⟩ = some (.string xk) := block_cell hblk16 0 _ rfl
                have d1 : w16.cell? ⟨w15.heap.size, 1, none⟩ = some (.slice xa xl.length xc) := block_cell hblk16 1 _ rfl
                have d2 : w16.cell? ⟨w15.heap.size, 2, none⟩ = some (.bool xm) := block_cell hblk16 2 _ rfl
                have d3 : w16.cell? ⟨w15.heap.size, 3, none⟩ = some (.int .u64 xb) := block_cell hblk16 3 _ rfl
                have d4 : w16.cell? ⟨w15.heap.size, 4, none⟩ = some (.bool xs) := block_cell hblk16 4 _ rfl
                have d5 : w16.cell? ⟨w15.heap.size, 5, none⟩ = some (.int .i64 xt) := block_cell hblk16 5 _ rfl
                have d6 : w16.cell? ⟨w15.heap.size, 6, none⟩ = some (.int .i64 xp) := block_cell hblk16 6 _ rfl
                have H16 := Lib.hid (HS.out.2.2.2.2.2.trans (hb16.mono hbs15))
                clear hba hw16 hb16 hblk16 c0 c1 c2 c3 c4 c5 c6 z0 hq1
                by_cases hll : xl = ey.lab
                · have hhit : hitR xk ey.lab ⟨xk, ⟨xl, xm, xb, xs, xt, xp⟩⟩ = true := by unfold hitR; simp [hll]
                  obtain ⟨r1, r2, r3, r4, r5, r6⟩ := rules_yes HX.out.1 HEY.out.2 hhit
                  rw [← HX.out.2.1] at r3 r4 r5 r6
                  rw [decide_eq_true hll]
                  rw [← HS.out.1] at r1
                  rw [← HS.out.2.2.2.1] at r2 r6
                  rw [← HS.out.2.2.1] at r5
                  rw [← HS.out.2.1] at r6
                  have hst1 : decide (xp ≤ st) = false := by have : st < xp := r1; simp; omega
                  have HRR := Lib.hid (And.intro r3 (And.intro r4 (And.intro r5 r6)))
                  have HR2 := Lib.hid r2
                  clear r1 r2 r3 r4 r5 r6 hhit hll
                  cases xm with
                  | true =>
                    have hsm1 : sm = true := HR2.out rfl
                    subst hsm1
                    go_wp2_with fail
                    go_big_quiet (fail)
                    go_wp2_with fail
                    go_roundw
                    case rel =>
                      refine ⟨i + 1, by omega, by go_num, ?_, ?_, ?_, ?_, below_drewN H16.out _⟩
                      · rw [HRR.out.1]
                      · rw [HRR.out.2.2.2]; rfl
                      · rw [HRR.out.2.2.1]; rfl
                      · rw [HRR.out.2.1]; rfl
                    case measure => simp [intOf]; omega
                  | false =>
                    cases sm with
                    | true =>
                      go_wp2_with fail
                      go_big_quiet (fail)
                      go_wp2_with fail
                      go_roundw
                      case rel =>
                        refine ⟨i + 1, by omega, by go_num, ?_, ?_, ?_, ?_, below_drewN H16.out _⟩
                        · rw [HRR.out.1]
                        · rw [HRR.out.2.2.2]; rfl
                        · rw [HRR.out.2.2.1]; rfl
                        · rw [HRR.out.2.1]; rfl
                      case measure => simp [intOf]; omega
                    | false =>
                      go_wp2_with fail
                      go_big_quiet (fail)
                      go_wp2_with fail
                      go_roundw
                      case rel =>
                        refine ⟨i + 1, by omega, by go_num, ?_, ?_, ?_, ?_, below_drewN H16.out _⟩
                        · rw [HRR.out.1]
                        · rw [HRR.out.2.2.2]; rfl
                        · rw [HRR.out.2.2.1]; rfl
                        · rw [HRR.out.2.1]; rfl
                      case measure => simp [intOf]; omega
                · have hhit : hitR xk ey.lab ⟨xk, ⟨xl, xm, xb, xs, xt, xp⟩⟩ = false := by unfold hitR; simp [hll]
                  obtain ⟨r1, r2, r3, r4⟩ := rules_no HX.out.1 HEY.out.2 hhit
                  rw [← HX.out.2.1] at r1 r2 r3 r4
                  rw [decide_eq_false hll]
                  have HRR := Lib.hid (And.intro r1 (And.intro r2 (And.intro r3 r4)))
                  clear r1 r2 r3 r4 hhit hll
                  go_wp2_with fail
                  go_roundw
                  case rel => exact ⟨i + 1, by omega, by go_num, by rw [HRR.out.1, HS.out.1], by rw [HRR.out.2.2.2, HS.out.2.1], by rw [HRR.out.2.2.1, HS.out.2.2.1], by rw [HRR.out.2.1, HS.out.2.2.2.1], H16.out⟩
                  case measure => simp [intOf]; omega
              · have hq1 : (xk.toList == K.toList) = false := beq_eq_false_iff_ne.2 (fun e => hkk (data_inj (by rw [ByteArray.toList_eq, ByteArray.toList_eq] at e; exact e)))
                have hhit : hitR K ey.lab ⟨xk, ⟨xl, xm, xb, xs, xt, xp⟩⟩ = false := by unfold hitR; simp [hkk]
                obtain ⟨r1, r2, r3, r4⟩ := rules_no HX.out.1 HEY.out.2 hhit
                rw [← HX.out.2.1] at r1 r2 r3 r4
                have HRR := Lib.hid (And.intro r1 (And.intro r2 (And.intro r3 r4)))
                clear r1 r2 r3 r4 hhit hkk
                go_wp2_with fail
                go_roundw
                case rel => exact ⟨i + 1, by omega, by go_num, by rw [HRR.out.1, HS.out.1], by rw [HRR.out.2.2.2, HS.out.2.1], by rw [HRR.out.2.2.1, HS.out.2.2.1], by rw [HRR.out.2.1, HS.out.2.2.2.1], HS.out.2.2.2.2.2.alloc hbs15 _⟩
                case measure => simp [intOf]; omega
            · obtain rfl : i = its.length := by omega
              have hlt3' : ¬ its.length < lA.length := by omega
              have hyb := (HS.out.2.2.2.2.2.block _ (isT_of H14.out.1).lt).trans H14.out.1
              have z0 : w15.cell? ⟨bY, 0, none⟩ = some (.slice aY ey.lab.length cY) := block_cell hyb 0 _ rfl
              have hbYl : bY < w15.heap.size := (isT_of hyb).lt
              have hsme : sampR K (serN (sqR j)) its = sm := by
                have := HS.out.2.2.2.1
                rw [List.take_of_length_le (Nat.le_refl _), HEY.out.1] at this
                exact this.symm
              have hbx : Below w12.heap.size w12 w15 := Bthen H14.out.2.2 HS.out.2.2.2.2.2
              have hsz15 := hbx.size
              have hop := openT_succ (K := K) (its := its) hlt2
              rw [hsme] at hop
              have hrnm := HS.out.2.2.2.2.1
              have hown15 := own_fr H12.out.2.2.1 (X := fun k => w12.heap.size ≤ k) (Fr.of_below hbx) (fun k hk => by have := (own_isT H12.out.2.2.1 hk).lt; omega)
              have hblk15 : w15.heap[w10.heap.size + 1]? = some (.cells #[.int .u8 2, .int .u8 0, .int .u8 1] 5 (0, 0)) := (hbx.block _ (isT_of H12.out.2.2.2.1).lt).trans H12.out.2.2.2.1
              have H15 := Lib.hid (And.intro hop (And.intro (fun x hx => (H12.out.2.1 x hx).below hbx (Nat.le_refl _)) (And.intro hown15 (And.intro hblk15 (And.intro (H12.out.2.2.2.2.below hbx) (H14.out.2.1.below HS.out.2.2.2.2.2 (Nat.le_refl _)))))))
              clear hyb hsme hbx hop hown15 hblk15 hlt3
              cases sm with
              | true =>
                have hq1 : ((rn : Int) != (mk : Int)) = true := by
                  simp at hrnm
                  simp
                  omega
                have hq2 : ((rn : Int) != (mk : Int) + 1) = false := by
                  simp at hrnm
                  simp
                  omega
                have hq3 : decide (mk < rn) = true := by
                  simp at hrnm
                  simp
                  omega
                clear hrnm
                go_wp2_with (at_builtin; refine wpList_app rfl _ _ 74 56 1 24 _ rfl Tryz.underlying74 infoLs rfl (by decide) (by decide) (w10.heap.size + 2) _ ls.length (ls.map llB) rfl (H15.out.2.2.1.alloc _) ⟨w15.heap.size, 0, none⟩ 1 1 [.slice aY ey.lab.length cY] rfl rfl (cells_new w15 #[.slice aY ey.lab.length cY] _ _ (by simp)) (by intro u hu; simp at hu; subst hu; rfl) (by omega) (by simp; omega) ?_; intro v8 w16 hown8 hgrow8 _ _; have H8 := Lib.hid (And.intro hown8 hgrow8); clear hown8 hgrow8)
                have hownA := H15.out.2.2.1.alloc (.cells #[.slice aY ey.lab.length cY] 56)
                have hbA : Below w15.heap.size w15 (w15.alloc (.cells #[.slice aY ey.lab.length cY] 56)) := (Below.refl _ _).alloc (Nat.le_refl _) _
                have hfr8 : Fr (fun k => u11.ownBlock = some k) (w15.alloc (.cells #[.slice aY ey.lab.length cY] 56)) w16 := fr_grown H8.out.2 (fun _ hk => hk)
                have hge : ∀ k, u11.ownBlock = some k → w10.heap.size + 2 ≤ k := fun k hk => own_base hownA hk
                have HG := Lib.hid (And.intro hownA (And.intro hbA (And.intro hfr8 hge)))
                clear hownA hbA hfr8 hge
                go_roundw
                case rel =>
                  have hRS := H15.out.2.2.2.2.1.below HG.out.2.1
                  obtain ⟨nS, vS, lS2, hSS, hmS2⟩ := hRS.snk
                  refine ⟨j + 1, ls ++ [⟨aY, cY, ey.lab⟩], by omega, by go_num, ?_, fun x hx => ?_, ?_, ?_, ?_, ?_⟩
                  · rw [List.map_append, H12.out.1, H15.out.1, if_pos rfl, HEY.out.1]
                    rfl
                  · rcases List.mem_append.1 hx with hx | hx
                    · exact ll_grown HG.out.1 (by decide) H8.out.2 ((H15.out.2.1 x hx).below HG.out.2.1 (Nat.le_refl _))
                    · obtain rfl := List.mem_singleton.1 hx
                      exact ll_grown HG.out.1 (by decide) H8.out.2 (H15.out.2.2.2.2.2.below HG.out.2.1 (Nat.le_refl _))
                  · rw [List.map_append, List.length_append]
                    exact H8.out.1
                  · have h1 := (HG.out.2.1.block _ (isT_of H15.out.2.2.2.1).lt).trans H15.out.2.2.2.1
                    exact (HG.out.2.2.1.block _ (isT_of h1).lt (fun e => by have := HG.out.2.2.2 _ e; omega)).trans h1
                  · have hX : ∀ k, u11.ownBlock = some k → isT (w15.alloc (.cells #[.slice aY ey.lab.length cY] 56)) k 56 := fun k hk => own_isT HG.out.1 hk
                    exact ⟨⟨nS, vS, lS2, hSS.frT HG.out.2.2.1 hX (by decide) (by decide) (by decide), hmS2⟩, hRS.wA.frT HG.out.2.2.1 hX (by decide) (by decide), hRS.bel.trans (HG.out.2.2.1.below (B := w.heap.size) (fun k hk e => by have := HG.out.2.2.2 _ e; have := HT10.out.bel.size; omega) hRS.bel.size)⟩
                  · have := HG.out.2.2.1.size
                    simp at this
                    omega
                case measure => simp [intOf]; omega
              | false =>
                have hq1 : ((rn : Int) != (mk : Int)) = false := by
                  simp at hrnm
                  simp
                  omega
                have hq3 : decide (mk < rn) = false := by
                  simp at hrnm
                  simp
                  omega
                clear hrnm
                go_wp2_with fail
                go_roundw
                case rel => exact ⟨j + 1, ls, by omega, by go_num, by rw [H15.out.1, H12.out.1]; simp, H15.out.2.1, H15.out.2.2.1, H15.out.2.2.2.1, H15.out.2.2.2.2.1, by omega⟩
                case measure => simp [intOf]; omega
        · go_wp2_with fail
          go_at_call 45
          obtain ⟨nS, vS, lS2, hSS, hmS2⟩ := H12.out.2.2.2.2.snk
          have hcall := open_calls K HK.out w12 (HR.out.1.below H12.out.2.2.2.2.bel).kv hSS
          rw [hmS2] at hcall
          clear hSS hmS2
          refine hcall.mono ?_
          clear hcall
          rintro e w13 ⟨a13, c13, lo13, rfl, hoa, hor, hlen13, hrd13, -, hb13⟩
          obtain rfl : j = 3 := by omega
          have hmp : lo13.map LL.lab = ls.map LL.lab := by
            have h1 : openT K its 3 = openR K its := rfl
            have h2 := hoa.unique (openR_are HK.out HI.out.2.2.2) (fun _ => rfl)
            rw [H12.out.1, h1]
            refine maps_bytes (fun x hx => ?_) (fun x hx => ?_) (by rw [← h2, List.map_map]; rfl)
            · obtain ⟨y, hy, rfl⟩ := List.mem_map.1 hx
              exact hor y hy
            · unfold openR at hx
              rcases (by simpa using (List.mem_filter.1 hx).1 : x = serN 2 ∨ x = serN 0 ∨ x = serN 1) with rfl | rfl | rfl <;> exact serN_right _
          have hln : ∀ x ∈ lo13, x.lab.length ≤ 1000000000 := fun x hx => by have := (labRight_ok (hor x hx)).1; omega
          have hout := own_fr H12.out.2.2.1 (X := fun k => w12.heap.size ≤ k) (Fr.of_below hb13) (fun k hk => by have := (own_isT H12.out.2.2.1 hk).lt; omega)
          obtain ⟨aU, cU, rfl⟩ := own_form H12.out.2.2.1
          have H13 := Lib.hid (And.intro hrd13 (And.intro hmp (And.intro hln (And.intro (show RdLL w13 aU ls from ⟨RdF.of_own hout, fun x hx => (H12.out.2.1 x hx).below hb13 (Nat.le_refl _)⟩) (H12.out.2.2.2.2.below hb13)))))
          clear hoa hor hrd13 hb13 hmp hln hout
          go_wp2_with fail
          go_at_call 44
          refine (sameLL_calls a13 aU c13 cU lo13 ls w13 H13.out.1 H13.out.2.2.2.1 (by omega) H13.out.2.2.1).mono ?_
          rintro e w14 ⟨rfl, nd, hw14⟩
          rw [decide_eq_true H13.out.2.1]
          have HT14 := Lib.hid (H13.out.2.2.2.2.below (w' := w14) (by rw [hw14]; exact below_drewN (Below.refl _ _) nd))
          clear hw14 H13
          go_wp2_with fail
          go_roundw
          case rel => exact ⟨k + 1, by omega, by go_num, HT14.out⟩
          case measure => simp [intOf]; omega
    · go_wp2_with fail
      go_ret
      exact ⟨rfl, HT9.out.bel⟩
end Go.Proofs.YtiooimdncocfdaaGreatDoor.Sk
