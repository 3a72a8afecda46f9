/- Chapter 38: the law SinkAlone: its walk. -/
import Derived.Test.YtiooimdncocfdaaGreatDoorKyP
import Derived.Test.YtiooimdncocfdaaGreatDoorKqB
import Derived.Test.YtiooimdncocfdaaGreatDoorKqT
import Derived.Test.YtiooimdncocfdaaGreatDoorKqO
import Derived.Test.YtiooimdncocfdaaGreatDoorKoF
namespace Go.Proofs.YtiooimdncocfdaaGreatDoor.Sk
open Go Go.RowKit
/-- a sink and its items, read beside it -/
structure RSa (w0 : World) (p b m : Nat) (aA : Option Addr) (lA : List SI) (its : List It) (wx : World) : Prop where
  snk : ∃ n v l, SinkAt wx p b m n v l ∧ l.map SI.it = its
  wA : RdI wx aA lA
  bel : Below w0.heap.size w0 wx
theorem RSa.below {w0 wx w' : World} {p b m : Nat} {aA : Option Addr} {lA : List SI} {its : List It} (h : RSa w0 p b m aA lA its wx) (hb : Below wx.heap.size wx w') : RSa w0 p b m aA lA its w' := by
  obtain ⟨n, v, l, hS, hm⟩ := h.snk
  exact ⟨⟨n, v, l, hS.below hb, hm⟩, h.wA.below hb (Nat.le_refl _), Bthen h.bel hb⟩
theorem maps_bytesA : ∀ {l m : List (List Lab)}, (∀ x ∈ l, labRight x = true) → (∀ x ∈ m, labRight x = true) → l.map bytesS = m.map bytesS → l = m
  | [], [], _, _, _ => rfl
  | [], _ :: _, _, _, h => by simp at h
  | _ :: _, [], _, _, h => by simp at h
  | x :: l, y :: m, hl, hm, h => by
    simp only [List.map_cons, List.cons.injEq] at h
    rw [bytesS_inj (hl x (List.mem_cons_self ..)) (hm y (List.mem_cons_self ..)) h.1, maps_bytesA (fun z hz => hl z (List.mem_cons_of_mem _ hz)) (fun z hz => hm z (List.mem_cons_of_mem _ hz)) h.2]
/-- the first of the three keys that have an item -/
def namT (its : List It) (k : Nat) : List ByteArray := ([kJ, kJ2, kK1].take k).filter fun K => decide (ownL K its ≠ [])
def sumT (its : List It) (k : Nat) : Nat := (([kJ, kJ2, kK1].take k).map fun K => (ownL K its).length).sum
/-- behind k of the three keys -/
def AL1 (w0 : World) (p b m : Nat) (aO : Option Addr) (lO : List SI) (its : List It) (H : Nat) (ks n i : Value) (wr : World) : Prop :=
  ∃ k : Nat, k ≤ 3 ∧ i = .int .i64 k ∧ n = .int .i64 (sumT its k : Int) ∧ wr.ownsRow H 9 1 ks (namT its k).length (strF ((namT its k).map d)) ∧ RSa w0 p b m aO lO its wr ∧ H ≤ wr.heap.size
structure AS (w0 : World) (p b m : Nat) (aO : Option Addr) (lO : List SI) (its : List It) (H : Nat) (ks : Value) (n : Nat) (xs : List Value) (wx : World) : Prop where
  rs : RSa w0 p b m aO lO its wx
  ks : wx.ownsRow H 9 1 ks n xs
  le : H ≤ wx.heap.size
theorem AS.below {w0 wx w' : World} {p b m : Nat} {aO : Option Addr} {lO : List SI} {its : List It} {H : Nat} {ks : Value} {n : Nat} {xs : List Value} (h : AS w0 p b m aO lO its H ks n xs wx) (hb : Below wx.heap.size wx w') : AS w0 p b m aO lO its H ks n xs w' :=
  ⟨h.rs.below hb, own_fr h.ks (Fr.of_below hb) (fun k hk hx => by have := (own_isT h.ks hk).lt; omega), Nat.le_trans h.le hb.size⟩
theorem AS.row {w0 wx w' : World} {p b m : Nat} {aO : Option Addr} {lO : List SI} {its : List It} {H : Nat} {ks ks' : Value} {n n' : Nat} {xs xs' : List Value} (h : AS w0 p b m aO lO its H ks n xs wx) (hown : w'.ownsRow H 9 1 ks' n' xs') (hg : wx.grownBy w' ks.ownBlock) (hw0 : w0.heap.size ≤ H) : AS w0 p b m aO lO its H ks' n' xs' w' := by
  have hf : Fr (fun k => ks.ownBlock = some k) wx w' := fr_grown hg (fun _ hk => hk)
  have hT : ∀ k, ks.ownBlock = some k → isT wx k 9 := fun k hk => own_isT h.ks hk
  obtain ⟨n2, v2, l2, hS, hm⟩ := h.rs.snk
  exact ⟨⟨⟨n2, v2, l2, hS.frT hf hT (by decide) (by decide) (by decide), hm⟩, h.rs.wA.frT hf hT (by decide) (by decide), below_own h.rs.bel (Nat.le_trans hw0 h.le) (own_weak h.ks hw0) hg⟩, hown, Nat.le_trans h.le hg.size⟩
/-- behind j of the items, for one key -/
def AL2 (w11 : World) (p b m : Nat) (K : ByteArray) (its : List It) (own i : Value) (wr : World) : Prop :=
  ∃ (j n : Nat) (v : Value) (lS lW : List SI), j ≤ its.length ∧ i = .int .i64 j ∧ FillS w11 p b m n v lS lW own wr ∧ lS.map SI.it = ownL K (its.take j) ∧ lW.map SI.it = ownL K (its.take j)
theorem take_key {k : Nat} (hk : k < 3) : ([kJ, kJ2, kK1] : List ByteArray).take (k + 1) = ([kJ, kJ2, kK1] : List ByteArray).take k ++ [keyN (k : Int)] := by
  match k, hk with
  | 0, _ => rfl
  | 1, _ => rfl
  | 2, _ => rfl
theorem sumT_succ {its : List It} {k : Nat} (hk : k < 3) : sumT its (k + 1) = sumT its k + (ownL (keyN (k : Int)) its).length := by
  unfold sumT
  rw [take_key hk, List.map_append, List.sum_append]
  simp
theorem namT_yes {its : List It} {k : Nat} (hk : k < 3) (h : ownL (keyN (k : Int)) its ≠ []) : namT its (k + 1) = namT its k ++ [keyN (k : Int)] := by
  unfold namT
  rw [take_key hk, List.filter_append]
  congr 1
  simp [h]
theorem namT_no {its : List It} {k : Nat} (hk : k < 3) (h : ownL (keyN (k : Int)) its = []) : namT its (k + 1) = namT its k := by
  unfold namT
  rw [take_key hk, List.filter_append]
  simp [h]
theorem sumT_le (its : List It) (k : Nat) : sumT its k ≤ 3 * its.length := by
  have h1 := ownL_le kJ its
  have h2 := ownL_le kJ2 its
  have h3 := ownL_le kK1 its
  unfold sumT
  match k with
  | 0 => simp
  | 1 => simp; omega
  | 2 => simp; omega
  | n + 3 => simp; omega
theorem namT_le (its : List It) (k : Nat) : (namT its k).length ≤ 3 := by
  unfold namT
  exact Nat.le_trans (List.length_filter_le _ _) (by rw [List.length_take]; simp; omega)
theorem serN_bytes {L : List Lab} (h : L = serN 2 ∨ L = serN 0 ∨ L = serN 1) : (bytesS L).length ≤ 1000000 := by
  rcases h with rfl | rfl | rfl <;> decide
def toSI (K : ByteArray) (y : SE) : SI := ⟨K, y.la, y.lc, y.e⟩
theorem own_back {K : ByteArray} {xs : List SE} {its : List It} (h : xs.map SE.e = ownE K its) : (xs.map (toSI K)).map SI.it = ownL K its := by
  have e : (xs.map (toSI K)).map SI.it = (xs.map SE.e).map (fun e => (⟨K, e⟩ : It)) := by rw [List.map_map, List.map_map]; rfl
  rw [e, h]
  unfold ownE
  rw [List.map_map]
  have := List.map_congr_left (l := ownL K its) (f := (fun e => (⟨K, e⟩ : It)) ∘ It.e) (g := id) (fun x hx => by
    have hk := (ownL_mem.1 hx).2
    cases x
    subst hk
    rfl)
  rw [this, List.map_id]
set_option maxRecDepth 100000 in
set_option maxHeartbeats 8000000 in
theorem alone_law (a : Option Addr) (cap : Nat) (l : List Sm) (w : World) (hE : Ev w) (hl : RdF w a (sFlat (l.take 40))) (hok : ∀ x ∈ l, SmOk x) (hcap : l.length ≤ cap) (hc2 : cap ≤ maxLen) :
    Calls Tryz.prog 10 #[.slice a l.length cap] w fun e w' => e = .returned (.bool true) ∧ Below w.heap.size w w' := by
  have HR := Lib.hid (And.intro hE (And.intro hl (And.intro hok (And.intro hcap hc2))))
  clear hE hl hok hcap hc2
  go_enter Tryz.func10, Tryz.ntmps10
  go_wp2_with fail
  go_at_call 30
  refine (awake_calls w HR.out.1).mono ?_
  rintro e w1 ⟨rfl, hb1⟩
  have HB1 := Lib.hid hb1
  have hs1 := hb1.size
  clear hb1
  go_wp2_with fail
  go_at_call 32
  refine (new_calls w1).mono ?_
  rintro e w3 ⟨rfl, hS2, hb2, hz2⟩
  have HB3 := Lib.hid (Bthen HB1.out hb2)
  have hcall := fill_callsG a cap l w3 hS2 (HR.out.1.below HB3.out).kv (RdG.of_flat (by simpa using HR.out.2.1) HB3.out (by omega) (by omega)) HR.out.2.2.1 HR.out.2.2.2.1 HR.out.2.2.2.2
  have HC := Lib.hid hcall
  clear hb2 hS2 hcall hz2
  go_wp2_with fail
  go_at_call 33
  refine HC.out.mono ?_
  rintro e w4 ⟨out, rfl, n4, v4, lS, lO, hF, hmS, hmO⟩
  obtain ⟨aO, cO, rfl⟩ := own_form hF.own
  obtain ⟨its, hits⟩ : ∃ its, its = fillS [] 5 (l.take 40) := ⟨_, rfl⟩
  rw [← hits] at hmS hmO
  have hsnd : Sound its := by rw [hits]; exact fillS_sound _ _ _ Sound.nil
  have hiln : its.length ≤ 40 := by
    have := fillS_len (l.take 40) [] 5
    rw [← hits, List.length_take] at this
    simp at this
    omega
  have hsm : ∀ y ∈ its, y.key.size ≤ 1000000 ∧ labRight y.e.lab = true ∧ y.e.lab.length ≤ 1000000000 := fun y hy => by
    have h1 := (fillS_small (l := l.take 40) (st := 5) y (hits ▸ hy)).1
    have h2 := right_lab (List.all_eq_true.1 hsnd.right y hy)
    refine ⟨?_, h2, by have := (labRight_ok h2).1; omega⟩
    rcases h1 with e | e | e <;> rw [e] <;> decide
  have hser : ∀ y ∈ its, y.e.lab = serN 2 ∨ y.e.lab = serN 0 ∨ y.e.lab = serN 1 := fun y hy => (fillS_small (l := l.take 40) (st := 5) y (hits ▸ hy)).2
  have hkeys : ∀ y ∈ its, y.key = kJ ∨ y.key = kJ2 ∨ y.key = kK1 := fun y hy => (fillS_small (l := l.take 40) (st := 5) y (hits ▸ hy)).1
  obtain ⟨p2, hp2⟩ : ∃ p2, p2 = w1.heap.size + 1 := ⟨_, rfl⟩
  obtain ⟨b2, hb2⟩ : ∃ b2, b2 = w1.heap.size + 2 := ⟨_, rfl⟩
  obtain ⟨m2, hm2⟩ : ∃ m2, m2 = w1.heap.size := ⟨_, rfl⟩
  rw [← hp2, ← hb2, ← hm2] at hF
  rw [← hp2]
  have hRS : RSa w p2 b2 m2 aO lO its w4 := ⟨⟨n4, v4, lS, hF.sink, hmS⟩, RdI.of_own hF.own hF.lab, HB3.out.trans (hF.fr.below (B := w.heap.size) (fun k hk e => by omega) HB3.out.size)⟩
  have HI := Lib.hid (And.intro hsnd (And.intro hsm (And.intro hmO (And.intro hser hkeys))))
  have HT4 := Lib.hid hRS
  have HB4 : Hid (w.heap.size ≤ w4.heap.size) := Lib.hid hRS.bel.size
  have hlO1 : lO.length ≤ its.length := by rw [← hmO, List.length_map]; exact Nat.le_refl _
  have hlO2 : its.length ≤ lO.length := by rw [← hmO, List.length_map]; exact Nat.le_refl _
  clear hRS hsnd hsm hmO hits hmS hF HC hp2 hb2 hm2 HB1 HB3 hs1 hser hkeys
  go_wp2_with fail
  go_loopw [5, 6, 23] (fun ks n i wr => AL1 w p2 b2 m2 aO lO its w4.heap.size ks n i wr) (fun _ _ i _ => 3 - (intOf i).toNat)
  case atStart => exact ⟨0, by omega, rfl, rfl, World.ownsRow_nil _ _ _ _, HT4.out, Nat.le_refl _⟩
  case round =>
    obtain ⟨k, hk, rfl, rfl, hks, hT, hH⟩ := hrel
    obtain ⟨w9, hw9⟩ : ∃ q, q = wr := ⟨_, rfl⟩
    subst hw9
    obtain ⟨kz, hkz⟩ : ∃ z, z = (namT its k).length := ⟨_, rfl⟩
    rw [← hkz] at hks
    have HKZ := Lib.hid hkz
    clear hkz
    have HT9 := Lib.hid (show AS w p2 b2 m2 aO lO its w4.heap.size u5 kz (strF ((namT its k).map d)) w9 from ⟨hT, hks, hH⟩)
    obtain ⟨sm, hsm⟩ : ∃ z, z = sumT its k := ⟨_, rfl⟩
    have hsb := sumT_le its k
    have hkb := namT_le its k
    rw [← hsm] at hsb
    rw [← HKZ.out] at hkb
    rw [← hsm]
    have HSM := Lib.hid hsm
    obtain ⟨aK, cK, rfl⟩ := own_form hks
    clear hT hks hH HT4 hsm
    by_cases hlt : k < 3
    · have hkw : IntKind.u8.wrap (k : Int) = (k : Int) := by rw [IntKind.wrap_u8]; omega
      have hlt1 : (k : Int) < 3 := by omega
      have hko : SmOk ⟨(k : Int), 0, 0, 0⟩ := by constructor <;> (dsimp only; omega)
      go_wp2_with fail
      go_at_call 34
      refine (entry_calls ⟨(k : Int), 0, 0, 0⟩ hko 0 _).mono ?_
      rintro e w10 ⟨aB, cB, rfl, -, hb10⟩
      obtain ⟨K, hK⟩ : ∃ K, K = keyS ⟨(k : Int), 0, 0, 0⟩ := ⟨_, rfl⟩
      obtain ⟨eb, heb⟩ : ∃ eb, eb = entS ⟨(k : Int), 0, 0, 0⟩ 0 := ⟨_, rfl⟩
      rw [← hK, ← heb]
      have HK : Hid (K.size ≤ 1000000 ∧ K = keyN (k : Int)) := Lib.hid ⟨by rw [hK]; exact keyS_le _, by rw [hK]; unfold keyS; dsimp only; congr 1; omega⟩
      have HT10 := Lib.hid (HT9.out.below hb10)
      clear hb10 hK heb HT9 hkw hko
      go_wp2_with fail
      go_at_call 32
      obtain ⟨w11, hw11⟩ : ∃ w11, w11 = w10.alloc (.cells #[.slice aB eb.lab.length cB, .bool eb.mark, .int .u64 eb.bits, .bool eb.st, .int .i64 eb.time, .int .i64 eb.stamp] 59) := ⟨_, rfl⟩
      rw [← hw11]
      have HT11 := Lib.hid (HT10.out.below (w' := w11) (by rw [hw11]; exact (Below.refl _ _).alloc (Nat.le_refl _) _))
      clear hw11 HT10
      refine (new_calls w11).mono ?_
      rintro e w12 ⟨rfl, hS12, hb12, -⟩
      obtain ⟨p3, hp3⟩ : ∃ p3, p3 = w11.heap.size + 1 := ⟨_, rfl⟩
      obtain ⟨b3, hb3⟩ : ∃ b3, b3 = w11.heap.size + 2 := ⟨_, rfl⟩
      obtain ⟨m3, hm3⟩ : ∃ m3, m3 = w11.heap.size := ⟨_, rfl⟩
      rw [← hp3, ← hb3, ← hm3] at hS12
      rw [← hp3]
      have hp3' : w11.heap.size ≤ p3 := by omega
      have hm3' : w11.heap.size ≤ m3 := by omega
      clear hp3 hb3 hm3
      have H12 := Lib.hid (And.intro hS12 hb12)
      clear hS12 hb12
      go_wp2_with fail
      go_loopw [11, 36] (fun own i wr => AL2 w12 p3 b3 m3 K its own i wr) (fun _ i _ => its.length - (intOf i).toNat)
      case atStart =>
        obtain ⟨n0, v0, lS0, lO0, hF0, hA, hB⟩ := FillS.start H12.out.1
        exact ⟨0, n0, v0, lS0, lO0, Nat.zero_le _, rfl, hF0, hA, hB⟩
      case round =>
        obtain ⟨j, n13, v13, lS13, lW, hj, rfl, hF, hmS, hmW⟩ := hrel
        obtain ⟨w13, hw13⟩ : ∃ q, q = wr := ⟨_, rfl⟩
        subst hw13
        have hT13 := HT11.out.below (H12.out.2.trans (hF.fr.below (B := w11.heap.size) (fun k hk e => by omega) H12.out.2.size))
        have hlW : lW.length ≤ its.length := by
          have h1 := congrArg List.length hmW
          have h2 := ownL_le K (its.take j)
          rw [List.length_map] at h1
          rw [List.length_take] at h2
          omega
        have HF := Lib.hid (And.intro hF (And.intro hmS (And.intro hmW hT13)))
        clear hF hmS hmW hT13
        by_cases hltj : j < its.length
        · obtain ⟨x, hx⟩ : ∃ x, lO[j]? = some x := ⟨_, List.getElem?_eq_getElem (by omega)⟩
          have hxi : its[j]? = some x.it := by rw [← HI.out.2.2.1, List.getElem?_map, hx]; rfl
          obtain ⟨b, off, e, hbl, ht, hc⟩ := HF.out.2.2.2.rs.wA.at_ hx
          subst e
          have hlx := HF.out.2.2.2.rs.wA.lab x (List.mem_of_getElem? hx)
          have HX := Lib.hid (And.intro hxi (And.intro hlx (HI.out.2.1 x.it (List.mem_of_getElem? hxi))))
          have c0 := hc 0 _ rfl
          rw [Nat.add_zero] at c0
          have c1 := hc 1 _ rfl
          have c2 := hc 2 _ rfl
          have c3 := hc 3 _ rfl
          have c4 := hc 4 _ rfl
          have c5 := hc 5 _ rfl
          have c6 := hc 6 _ rfl
          have hlt' : j < lO.length := by omega
          clear hc hx hxi ht hlx
          by_cases hkey : x.key = K
          · subst hkey
            go_wp2_with fail
            go_at_call 35
            obtain ⟨w7, hw7⟩ : ∃ w7, w7 = w13.alloc (.cells #[.string x.key, .slice x.la x.e.lab.length x.lc, .bool x.e.mark, .int .u64 x.e.bits, .bool x.e.st, .int .i64 x.e.time, .int .i64 x.e.stamp] 61) := ⟨_, rfl⟩
            rw [← hw7]
            have hb07 : Below w13.heap.size w13 w7 := by rw [hw7]; exact (Below.refl _ _).alloc (Nat.le_refl _) _
            have hx7 : w7.heap[w13.heap.size]? = some (.cells #[.string x.key, .slice x.la x.e.lab.length x.lc, .bool x.e.mark, .int .u64 x.e.bits, .bool x.e.st, .int .i64 x.e.time, .int .i64 x.e.stamp] 61 (0, 0)) := by rw [hw7]; exact heap_alloc_new w13 _
            have hsz7 : w13.heap.size + 1 = w7.heap.size := by rw [hw7]; simp
            have hb78 : Below w7.heap.size w7 (w7.alloc (.cells (eB (toSE x)).toArray 59)) := (Below.refl _ _).alloc (Nat.le_refl _) _
            have hF8 := (HF.out.1.below hb07).below hb78
            have hA8 := (HF.out.2.2.2.below hb07).below hb78
            have hll7 : ∀ y ∈ [toSE x], Ll w7 y.la y.lc y.e.lab := fun y hy => by rw [List.mem_singleton.1 hy]; exact HX.out.2.1.below hb07 (Nat.le_refl _)
            have hcall := append_calls (w7.alloc (.cells (eB (toSE x)).toArray 59)) x.key (some ⟨w7.heap.size, 0, none⟩) 1 [toSE x] hF8.sink (HR.out.1.below hA8.rs.bel).kv HX.out.2.2.1 (RdE.new w7 _ _ rfl hll7) (esOk_item HX.out.2.2.2.1) (by simp)
            have hat := own_app (K := x.key) (x := x.it) HI.out.1 (by omega) HX.out.1 rfl
            have hx8 := (hb78.block _ (isT_of hx7).lt).trans hx7
            have hll8 : Ll (w7.alloc (.cells (eB (toSE x)).toArray 59)) x.la x.lc x.e.lab := (hll7 _ (List.mem_singleton.2 rfl)).below hb78 (Nat.le_refl _)
            have HC := Lib.hid (And.intro hcall (And.intro hF8 (And.intro hat (And.intro hx8 hll8))))
            have hp13 := HF.out.1.sink.lp
            have hm13 := HF.out.1.sink.map.lt
            rw [hsz7]
            clear hcall hF8 hA8 hll7 hat hx7 hx8 hb07 hb78 hw7 hll8
            refine HC.out.1.mono ?_
            rintro e w14 ⟨rfl, n6, v6, l6, hS6, hm6, hf6, hk6⟩
            have hF6 := HC.out.2.1.app hS6 hf6 hk6
            have hx14 := (hf6.block w13.heap.size (isT_of HC.out.2.2.2.1).lt (fun e => by
              rcases e with e | e | e
              · omega
              · omega
              · have := (own_isT HF.out.1.sink.own e).lt; omega)).trans HC.out.2.2.2.1
            have hll14 := HC.out.2.1.sink.ll hf6 HC.out.2.2.2.2
            rw [show [toSE x].map (toIt x.key) = [x.it] from rfl] at hm6 ⊢
            rw [HF.out.2.1] at hm6 ⊢
            rw [HC.out.2.2.1.2.1]
            rw [HC.out.2.2.1.2.2] at hm6
            have z0 := block_cell hx14 0 _ rfl
            have z1 := block_cell hx14 1 _ rfl
            have z2 := block_cell hx14 2 _ rfl
            have z3 := block_cell hx14 3 _ rfl
            have z4 := block_cell hx14 4 _ rfl
            have z5 := block_cell hx14 5 _ rfl
            have z6 := block_cell hx14 6 _ rfl
            have hs14 := hF6.fr.size
            have H14 := Lib.hid (And.intro hF6 (And.intro hm6 (And.intro hll14 HC.out.2.2.1.1)))
            clear hS6 hm6 hf6 hk6 hF6 hx14 hll14 HC c0 c1 c2 c3 c4 c5 c6 hsz7 hp13 hm13
            go_wp2_with (at_builtin; refine wpList_app rfl _ _ 45 61 7 80 _ rfl Tryz.underlying45 Tryz.info61 rfl (by decide) (by decide) w12.heap.size _ lW.length (iFlat lW) rfl (H14.out.1.own.alloc _) ⟨w14.heap.size, 0, none⟩ 1 1 (iB x) rfl rfl (cells_new w14 #[.string x.key, .slice x.la x.e.lab.length x.lc, .bool x.e.mark, .int .u64 x.e.bits, .bool x.e.st, .int .i64 x.e.time, .int .i64 x.e.stamp] _ _ rfl) (by intro u hu; simp [iB] at hu; rcases hu with rfl | rfl | rfl | rfl | rfl | rfl | rfl <;> rfl) (by omega) (by simp; omega) ?_; intro v15 w15 hown15 hgrow15 hap15 _; have H15 := Lib.hid (And.intro hown15 (And.intro hgrow15 hap15)); clear hown15 hgrow15 hap15)
            go_roundw
            case rel =>
              refine ⟨j + 1, _, _, _, _, by omega, by go_num, (H14.out.1.below ((Below.refl _ _).alloc (Nat.le_refl _) _)).row (y := x) H15.out.1 H15.out.2.1 H15.out.2.2 (H14.out.2.2.1.below ((Below.refl _ _).alloc (Nat.le_refl _) _) (Nat.le_refl _)), H14.out.2.1, ?_⟩
              rw [H14.out.2.2.2, List.map_append, HF.out.2.2.1]
              rfl
            case measure => simp [intOf]; omega
          · have hq : (x.key.toList == K.toList) = false := by rw [ByteArray.toList_eq, ByteArray.toList_eq, beq_eq_false_iff_ne]; exact fun h => hkey (ByteArray.ext (Array.toList_inj.1 h))
            go_wp2_with fail
            go_roundw
            case rel =>
              refine ⟨j + 1, n13, v13, lS13, lW, by omega, by go_num, HF.out.1.below ((Below.refl _ _).alloc (Nat.le_refl _) _), ?_, ?_⟩
              · rw [own_skip HX.out.1 hkey]; exact HF.out.2.1
              · rw [own_skip HX.out.1 hkey]; exact HF.out.2.2.1
            case measure => simp [intOf]; omega
        · obtain rfl : j = its.length := by omega
          have hF13 := HF.out
          rw [List.take_of_length_le (Nat.le_refl _)] at hF13
          have HF13 := Lib.hid hF13
          obtain ⟨aW, cW, rfl⟩ := own_form hF13.1.own
          clear hF13 HF HT11 H12
          go_wp2_with fail
          go_at_call 50
          obtain ⟨n2, v2, l2, hS2, hm2⟩ := HF13.out.2.2.2.rs.snk
          have hcall := of_calls K w13 hS2
          rw [hm2] at hcall
          clear hS2 hm2
          refine hcall.mono ?_
          clear hcall
          rintro e w15 ⟨aE, cE, xs, rfl, hownE, hlE, hmE, hb15⟩
          have hxn : xs.length ≤ its.length := by
            have h1 := congrArg List.length hmE
            have h2 := ownL_le K its
            unfold ownE at h1
            rw [List.length_map, List.length_map] at h1
            omega
          have H15 := Lib.hid (And.intro (HF13.out.1.below hb15) (And.intro (HF13.out.2.2.2.below hb15) (And.intro (RdE.of_own hownE hlE) hmE)))
          have HM13 := Lib.hid (And.intro HF13.out.2.1 HF13.out.2.2.1)
          clear hownE hlE hmE hb15 HF13
          go_wp2_with fail
          go_loopw [14, 60] (fun out i wr => FrInv w15 (xs.map (toSI K)) out i wr) (fun _ i _ => xs.length - (intOf i).toNat)
          case atStart => exact ⟨0, [], Nat.zero_le _, rfl, World.ownsRow_nil _ _ _ _, (fun x hx => by cases hx), rfl, Below.refl _ _⟩
          case round =>
            obtain ⟨i, lo, hi, rfl, hown, hll, hm, hb⟩ := hrel
            rw [List.length_map] at hi
            obtain ⟨w16, hw16⟩ : ∃ q, q = wr := ⟨_, rfl⟩
            subst hw16
            have hlo : lo.length ≤ 40 := by
              have := congrArg List.length hm
              rw [List.length_map, List.length_map, List.length_take, List.length_map] at this
              omega
            have HO := Lib.hid (And.intro hown (And.intro hll (And.intro hm hb)))
            have hs16 := hb.size
            clear hown hll hm hb
            by_cases hlti : i < xs.length
            · obtain ⟨y, hy⟩ : ∃ y, xs[i]? = some y := ⟨_, List.getElem?_eq_getElem hlti⟩
              obtain ⟨b, off, e, hbl, ht, hc⟩ := (H15.out.2.2.1.below HO.out.2.2.2 (Nat.le_refl _)).at_ hy
              subst e
              have hly := (H15.out.2.2.1.below HO.out.2.2.2 (Nat.le_refl _)).lab y (List.mem_of_getElem? hy)
              have HY := Lib.hid (And.intro (show (xs.map (toSI K))[i]? = some (toSI K y) by rw [List.getElem?_map, hy]; rfl) hly)
              have c0 := hc 0 _ rfl
              rw [Nat.add_zero] at c0
              have c1 := hc 1 _ rfl
              have c2 := hc 2 _ rfl
              have c3 := hc 3 _ rfl
              have c4 := hc 4 _ rfl
              have c5 := hc 5 _ rfl
              clear hc hy ht hly
              go_wp2_with (at_builtin; refine wpList_app rfl _ _ 45 61 7 80 _ rfl Tryz.underlying45 Tryz.info61 rfl (by decide) (by decide) w15.heap.size _ lo.length (iFlat lo) rfl ((HO.out.1.alloc _).alloc _) ⟨w16.heap.size + 1, 0, none⟩ 1 1 (iB ⟨K, y.la, y.lc, y.e⟩) rfl rfl (cells_new (w16.alloc (.cells #[.slice y.la y.e.lab.length y.lc, .bool y.e.mark, .int .u64 y.e.bits, .bool y.e.st, .int .i64 y.e.time, .int .i64 y.e.stamp] 59)) #[.string K, .slice y.la y.e.lab.length y.lc, .bool y.e.mark, .int .u64 y.e.bits, .bool y.e.st, .int .i64 y.e.time, .int .i64 y.e.stamp] _ _ (by simp)) (by intro u hu; simp [iB] at hu; rcases hu with rfl | rfl | rfl | rfl | rfl | rfl | rfl <;> rfl) (by omega) (by simp; omega) ?_; intro v17 w17 hown17 hgrow17 _ _; have H17 := Lib.hid (And.intro hown17 hgrow17); clear hown17 hgrow17)
              go_roundw
              case rel => exact FrInv.step HY.out.1 HO.out.1 HO.out.2.1 HO.out.2.2.1 HO.out.2.2.2 (Below.refl _ _) (HY.out.2.below ((Below.refl _ _).alloc (Nat.le_refl _) _) (Nat.le_refl _)) H17.out.1 H17.out.2
              case measure => simp [intOf]; omega
            · obtain rfl : i = xs.length := by omega
              obtain ⟨aF, cF, rfl⟩ := own_form HO.out.1
              have hmo := HO.out.2.2.1
              rw [List.take_of_length_le (by rw [List.length_map]; exact Nat.le_refl _), own_back H15.out.2.2.2] at hmo
              have H16 := Lib.hid (And.intro (H15.out.1.below HO.out.2.2.2) (And.intro (H15.out.2.1.below HO.out.2.2.2) (And.intro (RdI.of_own HO.out.1 HO.out.2.1) hmo)))
              have hown : ∀ y ∈ ownL K its, y.e.lab.length ≤ 1000000000 := fun y hy => (HI.out.2.1 y (ownL_mem.1 hy).1).2.2
              have HOW := Lib.hid hown
              clear hmo HO H15 hown
              go_wp2_with fail
              go_at_call 36
              refine (items_yes aF aW cF cW lo lW w16 H16.out.2.2.1 (RdI.of_own H16.out.1.own H16.out.1.lab) (fun x hx => HOW.out x.it (by rw [← H16.out.2.2.2]; exact List.mem_map_of_mem hx)) (by omega) (H16.out.2.2.2.trans HM13.out.2.symm)).mono ?_
              rintro e w17 ⟨rfl, hb17⟩
              have H17 := Lib.hid (And.intro (H16.out.1.below hb17) (H16.out.2.1.below hb17))
              clear hb17 H16
              go_wp2_with fail
              go_at_call 37
              have hcall := all_calls w17 H17.out.1.sink
              rw [HM13.out.1] at hcall
              refine hcall.mono ?_
              clear hcall
              rintro e w18 ⟨aA, cA, lA, rfl, hownA, hlA, hmA, hb18⟩
              have hlAn : lA.length ≤ 1000000000 := by
                have h1 := congrArg List.length hmA
                have h2 := ownL_le K its
                rw [List.length_map] at h1
                omega
              have H18 := Lib.hid (And.intro (H17.out.1.below hb18) (And.intro (H17.out.2.below hb18) (And.intro (RdI.of_own hownA hlA) hmA)))
              clear hownA hlA hmA hb18 H17
              go_wp2_with fail
              go_at_call 36
              refine (items_yes aA aW cA cW lA lW w18 H18.out.2.2.1 (RdI.of_own H18.out.1.own H18.out.1.lab) (fun x hx => HOW.out x.it (by rw [← H18.out.2.2.2]; exact List.mem_map_of_mem hx)) hlAn (H18.out.2.2.2.trans HM13.out.2.symm)).mono ?_
              rintro e w19 ⟨rfl, hb19⟩
              have H19 := Lib.hid (And.intro (H18.out.1.below hb19) (H18.out.2.1.below hb19))
              clear hb19 H18 hlAn
              go_wp2_with fail
              go_at_call 45
              have hcall := open_calls K HK.out.1 w19 (HR.out.1.below H19.out.2.rs.bel).kv H19.out.1.sink
              rw [HM13.out.1] at hcall
              refine hcall.mono ?_
              clear hcall
              rintro e w20 ⟨a20, c20, lo20, rfl, hoa, hor20, hn20, hrd20, -, hb20⟩
              have H20 := Lib.hid (And.intro (H19.out.1.below hb20) (And.intro (H19.out.2.below hb20) (And.intro hoa (And.intro hor20 hrd20))))
              clear hoa hor20 hrd20 hb20 H19
              go_wp2_with fail
              go_at_call 45
              obtain ⟨n2, v2, l2, hS2, hm2⟩ := H20.out.2.1.rs.snk
              have hcall := open_calls K HK.out.1 w20 (HR.out.1.below H20.out.2.1.rs.bel).kv hS2
              rw [hm2] at hcall
              clear hS2 hm2
              refine hcall.mono ?_
              clear hcall
              rintro e w21 ⟨a21, c21, lo21, rfl, hob, hor21, -, hrd21, -, hb21⟩
              have hmp : lo20.map LL.lab = lo21.map LL.lab := by
                have h2 := H20.out.2.2.1.unique hob (fun b => lastOf_own K its b)
                refine maps_bytesA (fun x hx => ?_) (fun x hx => ?_) (by rw [List.map_map, List.map_map]; exact h2)
                · obtain ⟨y, hy, rfl⟩ := List.mem_map.1 hx
                  exact H20.out.2.2.2.1 y hy
                · obtain ⟨y, hy, rfl⟩ := List.mem_map.1 hx
                  exact hor21 y hy
              have hln : ∀ x ∈ lo20, x.lab.length ≤ 1000000000 := fun x hx => by have := (labRight_ok (H20.out.2.2.2.1 x hx)).1; omega
              have H21 := Lib.hid (And.intro (H20.out.2.1.below hb21) (And.intro hmp (And.intro hln (And.intro (H20.out.2.2.2.2.below hb21) hrd21))))
              clear hmp hln hob hor21 hrd21 hb21 H20
              go_wp2_with fail
              go_at_call 44
              refine (sameLL_calls a20 a21 c20 c21 lo20 lo21 w21 H21.out.2.2.2.1 H21.out.2.2.2.2 (by omega) H21.out.2.2.1).mono ?_
              rintro e w22 ⟨rfl, nd, hw22⟩
              rw [decide_eq_true H21.out.2.1]
              have H22 := Lib.hid (H21.out.1.below (w' := w22) (by rw [hw22]; exact below_drewN (Below.refl _ _) nd))
              have hlW : lW.length ≤ 40 := by
                have h1 := congrArg List.length HM13.out.2
                have h2 := ownL_le K its
                rw [List.length_map] at h1
                omega
              clear hw22 H21 hn20
              by_cases hz : lW.length = 0
              · have hz0 : decide (0 < (lW.length : Int)) = false := decide_eq_false (by omega)
                have hnil : ownL (keyN (k : Int)) its = [] := by
                  rw [← HK.out.2, ← HM13.out.2]
                  exact List.eq_nil_of_length_eq_zero (by rw [List.length_map]; exact hz)
                have HNIL := Lib.hid hnil
                clear hnil
                go_wp2_with fail
                go_roundw
                case rel =>
                  refine ⟨k + 1, by omega, by go_num, ?_, ?_, H22.out.rs, H22.out.le⟩
                  · rw [sumT_succ hlt, HNIL.out, ← HSM.out]
                    rfl
                  · rw [namT_no hlt HNIL.out, ← HKZ.out]
                    exact H22.out.ks
                case measure => simp [intOf]; omega
              · have hz0 : decide (0 < (lW.length : Int)) = true := decide_eq_true (by omega)
                have hnil : ownL (keyN (k : Int)) its ≠ [] := by
                  rw [← HK.out.2, ← HM13.out.2]
                  intro h
                  have := congrArg List.length h
                  rw [List.length_map] at this
                  exact hz this
                have HNIL := Lib.hid hnil
                clear hnil
                go_wp2_with (at_builtin; refine wpList_app rfl _ _ 81 9 1 16 _ rfl Tryz.underlying81 infoSt rfl (by decide) (by decide) w4.heap.size _ kz (strF ((namT its k).map d)) rfl (H22.out.ks.alloc _) ⟨w22.heap.size, 0, none⟩ 1 1 [.string K] rfl rfl (cells_new w22 #[.string K] _ _ rfl) (by intro u hu; simp at hu; subst hu; rfl) (by omega) (by have := H22.out.le; simp; omega) ?_; intro v23 w23 hown23 hgrow23 _ _; have H23 := Lib.hid (And.intro hown23 hgrow23); clear hown23 hgrow23)
                go_roundw
                case rel =>
                  have hA := (H22.out.below ((Below.refl _ _).alloc (Nat.le_refl _) _)).row H23.out.1 H23.out.2 HB4.out
                  refine ⟨k + 1, by omega, by go_num, ?_, ?_, hA.rs, hA.le⟩
                  · rw [sumT_succ hlt, ← HK.out.2, ← HSM.out, ← HM13.out.2, List.length_map]
                    rfl
                  · rw [namT_yes hlt HNIL.out, List.length_append, ← HKZ.out, List.map_append, ← HK.out.2]
                    unfold strF
                    rw [List.map_append]
                    exact hA.ks
                case measure => simp [intOf]; omega
    · obtain rfl : k = 3 := by omega
      have hsm3 : sm = lO.length := by
        have h1 := own_sum its HI.out.2.2.2.2
        have h2 : sumT its 3 = (ownL kJ its).length + (ownL kJ2 its).length + (ownL kK1 its).length := by unfold sumT; simp; omega
        have h3 := HSM.out
        omega
      subst hsm3
      go_wp2_with fail
      go_at_call 47
      obtain ⟨n2, v2, l2, hS2, hm2⟩ := HT9.out.rs.snk
      have hcall := keys_calls w9 hS2
      rw [hm2] at hcall
      clear hS2 hm2
      refine hcall.mono ?_
      clear hcall
      rintro e w10 ⟨a10, c10, ks, rfl, hka, hkn, hown10, hb10⟩
      have hA10 := HT9.out.below hb10
      have hks : ks = (namT its 3).map d := hka.unique (namesL_are (fun x hx => ⟨HI.out.2.2.2.2 x hx, serN_bytes (HI.out.2.2.2.1 x hx)⟩))
      have hcall := sameT_calls a10 aK c10 cK ks ((namT its 3).map d) w10 (RdF.of_own hown10) (RdF.of_own hA10.ks) (by omega)
      rw [List.length_map, ← HKZ.out, decide_eq_true hks] at hcall
      have H10 := Lib.hid (And.intro hcall hA10.rs.bel)
      clear hcall hks hka hown10 hb10 hA10 hkn
      go_wp2_with fail
      go_at_call 46
      refine H10.out.1.mono ?_
      rintro e w11 ⟨rfl, nd, hw11⟩
      have H11 : Hid (Below w.heap.size w w11) := Lib.hid (by rw [hw11]; exact below_drewN H10.out.2 nd)
      clear hw11 H10
      go_wp2_with fail
      go_ret
      exact ⟨rfl, H11.out⟩
end Go.Proofs.YtiooimdncocfdaaGreatDoor.Sk
