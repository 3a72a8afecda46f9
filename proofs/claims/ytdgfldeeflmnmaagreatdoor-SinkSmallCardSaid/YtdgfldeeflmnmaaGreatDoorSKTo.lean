/- Texts of the claim, put together: KTo. -/
import Derived.Test.YtdgfldeeflmnmaaGreatDoorSKTw
import Derived.Test.YtdgfldeeflmnmaaGreatDoorSKqO
namespace Go.Proofs.YtdgfldeeflmnmaaGreatDoor.Sk
open Go Go.RowKit
theorem SoAt.empty (w : World) : SoAt w none 0 [] := ⟨fun h => absurd rfl h, fun _ => ⟨rfl, rfl⟩, (fun q e => by cases e), Nat.le_refl _, Nat.zero_le _, List.Pairwise.nil⟩
/-- what the reference's Keys gives -/
def RkyPost (l : List SI) (w : World) (e : Ending) (w' : World) : Prop :=
  ∃ (a : Option Addr) (c : Nat) (r : List B), e = .returned (.slice a r.length c) ∧ SoAt w' a c r ∧ (∀ x, x ∈ r ↔ ∃ y ∈ l, d y.key = x) ∧ r.length ≤ l.length ∧ Below w.heap.size w w'
set_option maxRecDepth 100000 in
set_option maxHeartbeats 4000000 in
theorem rkeys_calls (a : Option Addr) (c : Nat) (l : List SI) (w : World) (hl : RdJ w a l) (ho : JOk l) (hn : l.length ≤ 1000000) :
    Calls Tryz.prog 114 #[.slice a l.length c] w (RkyPost l w) := by
  have HR := Lib.hid (And.intro hl ho)
  clear hl ho
  go_enter Tryz.func114, Tryz.ntmps114
  go_wp2_with fail
  go_loopw [3, 4] (fun out i wr => ∃ (k : Nat) (r : List B) (a' : Option Addr) (c' : Nat), k ≤ l.length ∧ i = .int .i64 k ∧ out = .slice a' r.length c' ∧ SoAt wr a' c' r ∧ (∀ x, x ∈ r ↔ ∃ y ∈ l.take k, d y.key = x) ∧ r.length ≤ k ∧ Below w.heap.size w wr) (fun _ i _ => l.length - (intOf i).toNat)
  case atStart => exact ⟨0, [], none, 0, Nat.zero_le _, rfl, rfl, SoAt.empty _, fun x => ⟨(fun h => by cases h), (fun ⟨y, hy, _⟩ => by cases hy)⟩, Nat.le_refl _, Below.refl _ _⟩
  case round =>
    obtain ⟨k, r, a', c', hk, rfl, rfl, hso, hmem, hrk, hb⟩ := hrel
    obtain ⟨w1, hw1⟩ : ∃ q, q = wr := ⟨_, rfl⟩
    subst hw1
    have H1 := Lib.hid (And.intro hso (And.intro hmem hb))
    clear hso hmem hb
    by_cases hlt : k < l.length
    · obtain ⟨x, hx⟩ : ∃ x, l[k]? = some x := ⟨_, List.getElem?_eq_getElem hlt⟩
      have hxm := List.mem_of_getElem? hx
      obtain ⟨b, off, rfl, hbl, hc⟩ := (HR.out.1.below H1.out.2.2).at_ hx
      have c0 := hc 0 _ rfl
      rw [Nat.add_zero] at c0
      have hky := HR.out.2.ky x hxm
      have hcall := rwith_calls a' c' r x.key w1 H1.out.1 (fun y hy => by
        obtain ⟨z, hz, rfl⟩ := (H1.out.2.1 y).1 hy
        have h1 := HR.out.2.ky z (List.mem_of_mem_take hz)
        have h2 : (d z.key).length = z.key.size := by simp
        omega) (by omega) (by omega)
      have HX := Lib.hid (And.intro hx hcall)
      clear hc hx hxm hcall
      go_wp2_with fail
      go_at_call 157
      refine HX.out.2.mono ?_
      rintro e w2 ⟨a2, c2, r2, rfl, hso2, hmem2, hlen2, hb2⟩
      have H2 := Lib.hid (And.intro hso2 (And.intro hmem2 (Bthen H1.out.2.2 hb2)))
      clear hso2 hmem2 hb2 c0
      go_wp2_with fail
      go_roundw
      case rel =>
        refine ⟨k + 1, r2, a2, c2, by omega, by go_num, rfl, H2.out.1, fun y => ?_, by omega, H2.out.2.2⟩
        rw [H2.out.2.1 y, H1.out.2.1 y, List.take_add_one, HX.out.1]
        constructor
        · rintro (⟨z, hz, e⟩ | e)
          · exact ⟨z, List.mem_append_left _ hz, e⟩
          · exact ⟨x, List.mem_append_right _ (by simp), e.symm⟩
        · rintro ⟨z, hz, e⟩
          rcases List.mem_append.1 hz with h | h
          · exact .inl ⟨z, h, e⟩
          · obtain rfl : z = x := by simpa using h
            exact .inr e.symm
      case measure => simp [intOf]; omega
    · obtain rfl : k = l.length := by omega
      have hmem := H1.out.2.1
      rw [List.take_of_length_le (Nat.le_refl _)] at hmem
      have HM := Lib.hid hmem
      clear hmem
      go_wp2_with fail
      go_ret
      exact ⟨a', c', r, rfl, H1.out.1, HM.out, hrk, H1.out.2.2⟩
/-- the keys are those of the lines that are known -/
theorem keys_are {l : List SI} {r : List B} (hr : ∀ y ∈ l, itemRight (d y.key) y.e = true) (hk : ∀ y ∈ l, y.key.size ≤ 1100000) (hso : r.Pairwise (· < ·)) (hm : ∀ x, x ∈ r ↔ ∃ y ∈ l, d y.key = x) : KeysAre (lastOf (l.map SI.it)) r := by
  refine ⟨hso, fun k => ?_⟩
  rw [hm k]
  constructor
  · rintro ⟨y, hy, rfl⟩
    have hb := bytesS_bound (right_lab (hr y hy))
    have hks := hk y hy
    refine ⟨bytesS y.e.lab, ⟨?_, ?_⟩, last_some (l.map SI.it) _ y.it (List.mem_map_of_mem hy)⟩
    · have h2 : (d y.key).length = y.key.size := by simp
      show (d y.key).length ≤ _
      omega
    · show (bytesS y.e.lab).length ≤ _
      omega
  · rintro ⟨b, _, h⟩
    obtain ⟨v, hv⟩ := Option.isSome_iff_exists.1 h
    obtain ⟨x, hx, e, _⟩ := last_item _ _ _ hv
    obtain ⟨y, hy, rfl⟩ := List.mem_map.1 hx
    refine ⟨y, hy, ?_⟩
    have := congrArg Prod.fst e
    exact this
/-- the last item of a line -/
theorem last_at (q : Line) : ∀ (n : Nat) (l : List It) (v : Int × Bool), l.length = n → lastOf l q = some v → ∃ k y, l[k]? = some y ∧ lineOf y = q ∧ (∀ (j : Nat) z, k + 1 ≤ j → l[j]? = some z → lineOf z ≠ q) ∧ v = (y.e.stamp, y.e.mark)
  | 0, l, v, hn, h => by
    obtain rfl : l = [] := List.eq_nil_of_length_eq_zero hn
    cases h
  | n + 1, l, v, hn, h => by
    rcases List.eq_nil_or_concat l with rfl | ⟨m, y, rfl⟩
    · cases hn
    · have hm : m.length = n := by simpa using hn
      rw [List.concat_eq_append] at h ⊢
      rw [last_snoc] at h
      unfold know upd at h
      by_cases e : q = lineOf y
      · rw [if_pos e] at h
        refine ⟨m.length, y, by simp, e.symm, fun j z hj hz => ?_, (Option.some.inj h).symm⟩
        have := (List.getElem?_eq_some_iff.1 hz).1
        simp at this
        omega
      · rw [if_neg e] at h
        obtain ⟨k, x, h1, h2, h3, h4⟩ := last_at q n m v hm h
        have hkm := (List.getElem?_eq_some_iff.1 h1).1
        refine ⟨k, x, by rw [List.getElem?_append_left hkm]; exact h1, h2, fun j z hj hz => ?_, h4⟩
        by_cases hjm : j < m.length
        · rw [List.getElem?_append_left hjm] at hz
          exact h3 j z hj hz
        · have hj2 := (List.getElem?_eq_some_iff.1 hz).1
          simp at hj2
          obtain rfl : j = m.length := by omega
          rw [List.getElem?_append_right (Nat.le_refl _)] at hz
          simp at hz
          subst hz
          exact fun h => e h.symm
/-- the item at i of a key is a sample, and the last of its line -/
def OpenAt (l : List SI) (key : ByteArray) (i : Nat) (b : B) : Prop :=
  ∃ x, l[i]? = some x ∧ x.key = key ∧ x.e.mark = false ∧ bytesS x.e.lab = b ∧ ∀ (j : Nat) z, i + 1 ≤ j → l[j]? = some z → ¬ (x.key = z.key ∧ x.e.lab = z.e.lab)
theorem open_are {l : List SI} {key : ByteArray} {r : List B} (hr : ∀ y ∈ l, itemRight (d y.key) y.e = true) (hk : ∀ y ∈ l, y.key.size ≤ 1100000) (hso : r.Pairwise (· < ·)) (hm : ∀ x, x ∈ r ↔ ∃ i, OpenAt l key i x) : OpenAre (lastOf (l.map SI.it)) (d key) r := by
  refine ⟨hso, fun b => ?_⟩
  rw [hm b]
  constructor
  · rintro ⟨i, x, hx, rfl, hmk, rfl, hno⟩
    have hxm := List.mem_of_getElem? hx
    have hb := bytesS_bound (right_lab (hr x hxm))
    have hks := hk x hxm
    refine ⟨⟨?_, ?_⟩, x.e.stamp, ?_⟩
    · have h2 : (d x.key).length = x.key.size := by simp
      show (d x.key).length ≤ _
      omega
    · show (bytesS x.e.lab).length ≤ _
      omega
    · have := last_hit (l := l.map SI.it) (q := lineOf x.it) (k := i) (y := x.it) (by rw [List.getElem?_map, hx]; rfl) rfl (fun j z hj hz e => by
        obtain ⟨y, hy, rfl, hyr⟩ := it_right hr hz
        exact hno j y hj hy ((line_iff (x := x.it) (y := y.it) (hr x hxm) hyr).1 e.symm))
      rw [show ((d x.key, bytesS x.e.lab) : Line) = lineOf x.it from rfl, this, show x.it.e = x.e from rfl, hmk]
  · rintro ⟨_, s, h⟩
    obtain ⟨k, y, h1, h2, h3, h4⟩ := last_at _ _ _ _ rfl h
    obtain ⟨x, hx, rfl, hxr⟩ := it_right hr h1
    have e1 : d x.key = d key := congrArg Prod.fst h2
    have e2 : bytesS x.e.lab = b := congrArg Prod.snd h2
    refine ⟨k, x, hx, ByteArray.ext (Array.toList_inj.1 e1), (congrArg Prod.snd h4).symm, e2, fun j z hj hz => ?_⟩
    rintro ⟨f1, f2⟩
    refine h3 j z.it hj (by rw [List.getElem?_map, hz]; rfl) ?_
    rw [← h2]
    unfold lineOf
    show (d z.key, bytesS z.e.lab) = (d x.key, bytesS x.e.lab)
    rw [f1, f2]
/-- what the reference's Open gives -/
def RopPost (l : List SI) (key : ByteArray) (w : World) (e : Ending) (w' : World) : Prop :=
  ∃ (a : Option Addr) (c : Nat) (ls : List LL), e = .returned (.slice a ls.length c) ∧ OpenAre (lastOf (l.map SI.it)) (d key) (ls.map fun x : LL => bytesS x.lab) ∧ (∀ x ∈ ls, labRight x.lab = true) ∧ RdLL w' a ls ∧ Below w.heap.size w w'
/-- how far the search for a later item has come -/
def LastTo (l : List SI) (x : SI) (i k : Nat) : Bool := decide (∀ j < k, i + 1 ≤ j → ∀ z, l[j]? = some z → ¬ (x.key = z.key ∧ x.e.lab = z.e.lab))
set_option maxRecDepth 100000 in
set_option maxHeartbeats 8000000 in
theorem ropen_calls (a : Option Addr) (c : Nat) (l : List SI) (key : ByteArray) (w : World) (hl : RdJ w a l) (ho : JOk l) (hr : ∀ y ∈ l, itemRight (d y.key) y.e = true) (hn : l.length ≤ 1000000) :
    Calls Tryz.prog 112 #[.slice a l.length c, .string key] w (RopPost l key w) := by
  have HR := Lib.hid (And.intro hl (And.intro ho hr))
  clear hl ho hr
  go_enter Tryz.func112, Tryz.ntmps112
  go_wp2_with fail
  go_loopw [5, 6] (fun out i wr => ∃ (k : Nat) (r : List B) (a' : Option Addr) (c' : Nat), k ≤ l.length ∧ i = .int .i64 k ∧ out = .slice a' r.length c' ∧ SoAt wr a' c' r ∧ (∀ x, x ∈ r ↔ ∃ i, i < k ∧ OpenAt l key i x) ∧ r.length ≤ k ∧ Below w.heap.size w wr) (fun _ i _ => l.length - (intOf i).toNat)
  case atStart => exact ⟨0, [], none, 0, Nat.zero_le _, rfl, rfl, SoAt.empty _, fun x => ⟨(fun h => by cases h), (fun ⟨i, hi, _⟩ => absurd hi (Nat.not_lt_zero _))⟩, Nat.le_refl _, Below.refl _ _⟩
  case round =>
    obtain ⟨i, r, a', c', hi, rfl, rfl, hso, hmem, hrk, hb⟩ := hrel
    obtain ⟨w1, hw1⟩ : ∃ q, q = wr := ⟨_, rfl⟩
    subst hw1
    have H1 := Lib.hid (And.intro hso (And.intro hmem hb))
    clear hso hmem hb
    by_cases hlt : i < l.length
    · obtain ⟨x, hx⟩ : ∃ x, l[i]? = some x := ⟨_, List.getElem?_eq_getElem hlt⟩
      have hxm := List.mem_of_getElem? hx
      obtain ⟨b, off, rfl, hbl, hc⟩ := (HR.out.1.below H1.out.2.2).at_ hx
      have c0 := hc 0 _ rfl
      rw [Nat.add_zero] at c0
      have c1 := hc 1 _ rfl
      have c2 := hc 2 _ rfl
      have c3 := hc 3 _ rfl
      have c4 := hc 4 _ rfl
      have c5 := hc 5 _ rfl
      have c6 := hc 6 _ rfl
      have HX := Lib.hid (And.intro hx (And.intro hxm hc))
      clear hc hx hxm
      by_cases hno : ¬ (x.key = key ∧ x.e.mark = false)
      · have HS : Hid (∀ y, y ∈ r ↔ ∃ j, j < i + 1 ∧ OpenAt l key j y) := Lib.hid (fun y => by
          rw [H1.out.2.1 y]
          constructor
          · rintro ⟨j, hj, h⟩; exact ⟨j, by omega, h⟩
          · rintro ⟨j, hj, h⟩
            rcases Nat.lt_succ_iff_lt_or_eq.1 hj with h1 | rfl
            · exact ⟨j, h1, h⟩
            · obtain ⟨z, hz, k1, k2, _⟩ := h
              obtain rfl := Option.some.inj (HX.out.1.symm.trans hz)
              exact absurd ⟨k1, k2⟩ hno)
        by_cases hkey : x.key = key
        · have hq : (x.key.toList == key.toList) = true := by rw [hkey]; simp
          have hm : x.e.mark = true := by
            rcases Bool.eq_false_or_eq_true x.e.mark with h | h
            · exact h
            · exact absurd ⟨hkey, h⟩ hno
          clear hkey hno
          go_wp2_with fail
          go_roundw
          case rel => exact ⟨i + 1, r, a', c', by omega, by go_num, rfl, H1.out.1, HS.out, by omega, H1.out.2.2⟩
          case measure => simp [intOf]; omega
        · have hq : (x.key.toList == key.toList) = false := ba_ne hkey
          clear hkey hno
          go_wp2_with fail
          go_roundw
          case rel => exact ⟨i + 1, r, a', c', by omega, by go_num, rfl, H1.out.1, HS.out, by omega, H1.out.2.2⟩
          case measure => simp [intOf]; omega
      · have hyes : x.key = key ∧ x.e.mark = false := Decidable.not_not.1 hno
        have hq : (x.key.toList == key.toList) = true := by rw [hyes.1]; simp
        have hm : x.e.mark = false := hyes.2
        have HY := Lib.hid hyes
        clear hno hyes
        go_wp2_with fail
        go_loopw [7, 8] (fun la k wr => ∃ (k' : Nat), i + 1 ≤ k' ∧ k' ≤ l.length ∧ k = .int .i64 k' ∧ la = .bool (LastTo l x i k') ∧ Below w1.heap.size w1 wr) (fun _ k _ => l.length - (intOf k).toNat)
        case atStart => exact ⟨i + 1, Nat.le_refl _, by omega, by go_num, bool_eq (by unfold LastTo; rw [eq_comm, decide_eq_true_eq]; intro j h1 h2; omega), Below.refl _ _⟩
        case round =>
          obtain ⟨k, hik, hk, rfl, rfl, hb2⟩ := hrel
          obtain ⟨w2, hw2⟩ : ∃ q, q = wr := ⟨_, rfl⟩
          subst hw2
          have hbl2 : b < w2.heap.size := Nat.lt_of_lt_of_le hbl hb2.size
          have H2 := Lib.hid hb2
          have hcx : ∀ j u, (iB x)[j]? = some u → w2.cell? ⟨b, off + i * 7 + j, none⟩ = some u := fun j u hu => (hb2.cell (p := ⟨b, off + i * 7 + j, none⟩) hbl).trans (HX.out.2.2 j u hu)
          clear hb2 c0 c1 c2 c3 c4 c5 c6
          by_cases hlt2 : k < l.length
          · obtain ⟨y, hy⟩ : ∃ y, l[k]? = some y := ⟨_, List.getElem?_eq_getElem hlt2⟩
            have hym := List.mem_of_getElem? hy
            obtain ⟨b', off', e, _, hcy⟩ := (HR.out.1.below (Bthen H1.out.2.2 H2.out)).at_ hy
            cases e
            have c0 := hcx 0 _ rfl
            rw [Nat.add_zero] at c0
            have c1 := hcx 1 _ rfl
            have c2 := hcx 2 _ rfl
            have c3 := hcx 3 _ rfl
            have c4 := hcx 4 _ rfl
            have c5 := hcx 5 _ rfl
            have c6 := hcx 6 _ rfl
            have d0 := hcy 0 _ rfl
            rw [Nat.add_zero] at d0
            have d1 := hcy 1 _ rfl
            have d2 := hcy 2 _ rfl
            have d3 := hcy 3 _ rfl
            have d4 := hcy 4 _ rfl
            have d5 := hcy 5 _ rfl
            have d6 := hcy 6 _ rfl
            obtain ⟨q, hq2⟩ : ∃ q, q = decide (x.key = y.key ∧ x.e.lab = y.e.lab) := ⟨_, rfl⟩
            obtain ⟨p, hp⟩ : ∃ p, p = LastTo l x i k := ⟨_, rfl⟩
            have hstep : LastTo l x i (k + 1) = (p && !q) := by
              rw [hp, hq2]
              unfold LastTo
              rw [Bool.eq_iff_iff, Bool.and_eq_true, decide_eq_true_eq, decide_eq_true_eq, Bool.not_eq_true', decide_eq_false_iff_not]
              constructor
              · intro h
                exact ⟨fun j hj => h j (by omega), h k (by omega) hik y hy⟩
              · rintro ⟨h1, h2⟩ j hj hij z hz
                rcases Nat.lt_succ_iff_lt_or_eq.1 hj with h3 | rfl
                · exact h1 j h3 hij z hz
                · obtain rfl := Option.some.inj (hy.symm.trans hz)
                  exact h2
            have hcall : ∀ W : World, Below w2.heap.size w2 W → Calls Tryz.prog 125 #[.agg #[.string x.key, .slice x.la x.e.lab.length x.lc, .bool false, .int .u64 x.e.bits, .bool x.e.st, .int .i64 x.e.time, .int .i64 x.e.stamp], .agg #[.string y.key, .slice y.la y.e.lab.length y.lc, .bool y.e.mark, .int .u64 y.e.bits, .bool y.e.st, .int .i64 y.e.time, .int .i64 y.e.stamp]] W (TdPost (.bool q) W) := fun W hb => by
              rw [hq2]
              have hbw := Bthen (Bthen H1.out.2.2 H2.out) hb
              have h := alike_calls x.key y.key x.la y.la x.lc y.lc x.e y.e W ((HR.out.1.lab x HX.out.2.1).below hbw (Nat.le_refl _)) ((HR.out.1.lab y hym).below hbw (Nat.le_refl _)) (HR.out.2.1.ln x HX.out.2.1) (HR.out.2.1.ln y hym) (HR.out.2.1.sz x HX.out.2.1) (HR.out.2.1.sz y hym)
              rw [hm] at h
              exact h
            have HC := Lib.hid hcall
            have HST := Lib.hid (And.intro hstep hp)
            have HSK : Hid (∀ w' : World, Below w2.heap.size w2 w' → w'.cell? ⟨b, off + i * 7, none⟩ = some (.string x.key) ∧ w'.cell? ⟨b, off + i * 7 + 1, none⟩ = some (.slice x.la x.e.lab.length x.lc) ∧ w'.cell? ⟨b, off + i * 7 + 2, none⟩ = some (.bool x.e.mark) ∧ w'.cell? ⟨b, off + i * 7 + 3, none⟩ = some (.int .u64 x.e.bits) ∧ w'.cell? ⟨b, off + i * 7 + 4, none⟩ = some (.bool x.e.st) ∧ w'.cell? ⟨b, off + i * 7 + 5, none⟩ = some (.int .i64 x.e.time) ∧ w'.cell? ⟨b, off + i * 7 + 6, none⟩ = some (.int .i64 x.e.stamp) ∧ w'.cell? ⟨b, off + k * 7, none⟩ = some (.string y.key) ∧ w'.cell? ⟨b, off + k * 7 + 1, none⟩ = some (.slice y.la y.e.lab.length y.lc) ∧ w'.cell? ⟨b, off + k * 7 + 2, none⟩ = some (.bool y.e.mark) ∧ w'.cell? ⟨b, off + k * 7 + 3, none⟩ = some (.int .u64 y.e.bits) ∧ w'.cell? ⟨b, off + k * 7 + 4, none⟩ = some (.bool y.e.st) ∧ w'.cell? ⟨b, off + k * 7 + 5, none⟩ = some (.int .i64 y.e.time) ∧ w'.cell? ⟨b, off + k * 7 + 6, none⟩ = some (.int .i64 y.e.stamp)) := Lib.hid (fun w' hb => by
              have h1 : ∀ j u, (iB x)[j]? = some u → w'.cell? ⟨b, off + i * 7 + j, none⟩ = some u := fun j u hu => (hb.cell (p := ⟨b, off + i * 7 + j, none⟩) hbl2).trans (hcx j u hu)
              have h2 : ∀ j u, (iB y)[j]? = some u → w'.cell? ⟨b, off + k * 7 + j, none⟩ = some u := fun j u hu => (hb.cell (p := ⟨b, off + k * 7 + j, none⟩) hbl2).trans (hcy j u hu)
              exact ⟨h1 0 _ rfl, h1 1 _ rfl, h1 2 _ rfl, h1 3 _ rfl, h1 4 _ rfl, h1 5 _ rfl, h1 6 _ rfl, h2 0 _ rfl, h2 1 _ rfl, h2 2 _ rfl, h2 3 _ rfl, h2 4 _ rfl, h2 5 _ rfl, h2 6 _ rfl⟩)
            rw [← hp]
            clear hcx hcy hym hy hcall hstep hp hq2
            go_upto_region 10 with fail
            cases p
            · go_big_quiet (fail)
              go_wp2_with fail
              go_roundw
              case rel => exact ⟨k + 1, by omega, by omega, by go_num, bool_eq HST.out.1.symm, below_drewN H2.out _⟩
              case measure => simp [intOf]; omega
            · go_region_law (go_simp; go_at_call 125; refine at_worldB ?_; intro W1 hW1; have hb1 : Below w2.heap.size w2 W1 := (by rw [hW1]; first | exact Below.refl _ _ | exact (Below.refl _ _).drew | exact (Below.refl _ _).drew.drew | exact below_drewN (Below.refl _ _) _); clear hW1; refine (HC.out W1 hb1).mono ?_; rintro e w4 ⟨rfl, hb4⟩; have hb5 : Below w2.heap.size w2 w4 := hb1.trans (hb4.mono hb1.size); clear hb1 hb4)
              all_goals
                have H3 := Lib.hid (Bthen H2.out hb5)
                clear hb5 HSK HC c0 c1 c2 c3 c4 c5 c6 d0 d1 d2 d3 d4 d5 d6
                go_wp2_with fail
                go_roundw
                case rel => exact ⟨k + 1, by omega, by omega, by go_num, bool_eq HST.out.1.symm, H3.out⟩
                case measure => simp [intOf]; omega
          · obtain rfl : k = l.length := by omega
            obtain ⟨p, hp⟩ : ∃ p, p = LastTo l x i l.length := ⟨_, rfl⟩
            rw [← hp]
            have hpe : p = true ↔ ∀ (j : Nat) z, i + 1 ≤ j → l[j]? = some z → ¬ (x.key = z.key ∧ x.e.lab = z.e.lab) := by
              rw [hp]
              unfold LastTo
              rw [decide_eq_true_eq]
              exact ⟨fun h j z hij hz => h j (List.getElem?_eq_some_iff.1 hz).1 hij z hz, fun h j _ hij z hz => h j z hij hz⟩
            have HP := Lib.hid hpe
            clear hp hpe
            have H1b := Lib.hid (H1.out.1.below H2.out)
            cases p with
            | false =>
              go_wp2_with fail
              go_roundw
              case rel =>
                refine ⟨i + 1, r, a', c', by omega, by go_num, rfl, H1b.out, fun y => ?_, by omega, Bthen H1.out.2.2 H2.out⟩
                rw [H1.out.2.1 y]
                constructor
                · rintro ⟨j, hj, h⟩; exact ⟨j, by omega, h⟩
                · rintro ⟨j, hj, h⟩
                  rcases Nat.lt_succ_iff_lt_or_eq.1 hj with h1 | rfl
                  · exact ⟨j, h1, h⟩
                  · obtain ⟨z, hz, _, _, _, k5⟩ := h
                    obtain rfl := Option.some.inj (HX.out.1.symm.trans hz)
                    have := HP.out.2 k5
                    cases this
              case measure => simp [intOf]; omega
            | true =>
              have hlr := right_lab (HR.out.2.2 x HX.out.2.1)
              have hd1 := hcx 1 _ rfl
              obtain ⟨bs, hbs⟩ : ∃ q : ByteArray, q = ⟨(bytesS x.e.lab).toArray⟩ := ⟨_, rfl⟩
              have hcall := rbytesG_calls x.la x.lc x.e.lab w2 ((HR.out.1.lab x HX.out.2.1).below (Bthen H1.out.2.2 H2.out) (Nat.le_refl _)) hlr
              rw [← hbs] at hcall
              have hbd := bytesS_bound hlr
              have hdb : d bs = bytesS x.e.lab := by rw [hbs]
              have hbz : bs.size ≤ 73856 := by
                have h1 : bs.size = (d bs).length := by simp [d]
                rw [h1, hdb]
                exact hbd
              have HC := Lib.hid (And.intro hcall hdb)
              clear hcall hbs hbd hdb hlr hcx
              go_wp2_with fail
              go_at_call 75
              refine HC.out.1.mono ?_
              rintro e w3 ⟨rfl, hb3⟩
              have H3 := Lib.hid (And.intro (H1b.out.below hb3) (Bthen (Bthen H1.out.2.2 H2.out) hb3))
              have hcall := rwith_calls a' c' r bs w3 H3.out.1 (fun y hy => by
                obtain ⟨j, _, z, hz, _, _, e, _⟩ := (H1.out.2.1 y).1 hy
                have := bytesS_bound (right_lab (HR.out.2.2 z (List.mem_of_getElem? hz)))
                rw [← e]
                omega) (by omega) (by omega)
              have HW := Lib.hid hcall
              clear hb3 hcall hd1
              go_wp2_with fail
              go_at_call 157
              refine HW.out.mono ?_
              rintro e w4 ⟨a4, c4, r4, rfl, hso4, hmem4, hlen4, hb4⟩
              have H4 := Lib.hid (And.intro hso4 (And.intro hmem4 (Bthen H3.out.2 hb4)))
              clear hso4 hmem4 hb4
              go_wp2_with fail
              go_roundw
              case rel =>
                refine ⟨i + 1, r4, a4, c4, by omega, by go_num, rfl, H4.out.1, fun y => ?_, by omega, H4.out.2.2⟩
                rw [H4.out.2.1 y, H1.out.2.1 y, HC.out.2]
                constructor
                · rintro (⟨j, hj, h⟩ | h)
                  · exact ⟨j, by omega, h⟩
                  · exact ⟨i, by omega, x, HX.out.1, HY.out.1, HY.out.2, h.symm, HP.out.1 (by simp)⟩
                · rintro ⟨j, hj, h⟩
                  rcases Nat.lt_succ_iff_lt_or_eq.1 hj with h1 | rfl
                  · exact .inl ⟨j, h1, h⟩
                  · obtain ⟨z, hz, _, _, e, _⟩ := h
                    obtain rfl := Option.some.inj (HX.out.1.symm.trans hz)
                    exact .inr e.symm
              case measure => simp [intOf]; omega
    · obtain rfl : i = l.length := by omega
      have hmem : ∀ x, x ∈ r ↔ ∃ i, OpenAt l key i x := fun x => (H1.out.2.1 x).trans ⟨fun ⟨j, _, h⟩ => ⟨j, h⟩, fun ⟨j, h⟩ => by
        have h' := h
        obtain ⟨z, hz, _⟩ := h'
        exact ⟨j, (List.getElem?_eq_some_iff.1 hz).1, h⟩⟩
      have hoa := open_are HR.out.2.2 HR.out.2.1.ky H1.out.1.so hmem
      have hrl : ∀ y ∈ r, ∃ L, labRight L = true ∧ y = bytesS L := fun y hy => by
        obtain ⟨j, z, hz, _, _, e, _⟩ := (hmem y).1 hy
        exact ⟨z.e.lab, right_lab (HR.out.2.2 z (List.mem_of_getElem? hz)), e.symm⟩
      have HO := Lib.hid (And.intro hoa hrl)
      clear hmem hoa hrl
      go_wp2_with fail
      go_loopw [11, 12] (fun out i wr => ∃ (k : Nat) (ls : List LL), k ≤ r.length ∧ i = .int .i64 k ∧ ls.map (fun x : LL => bytesS x.lab) = r.take k ∧ (∀ x ∈ ls, labRight x.lab = true ∧ Ll wr x.la x.lc x.lab) ∧ wr.ownsRow w1.heap.size 31 1 out ls.length (ls.map llB) ∧ Below w1.heap.size w1 wr) (fun _ i _ => r.length - (intOf i).toNat)
      case atStart => exact ⟨0, [], Nat.zero_le _, rfl, rfl, (fun x hx => by cases hx), World.ownsRow_nil _ _ _ _, Below.refl _ _⟩
      case round =>
        obtain ⟨k, ls, hk, rfl, hls, hlx, hown, hb2⟩ := hrel
        obtain ⟨w2, hw2⟩ : ∃ q, q = wr := ⟨_, rfl⟩
        subst hw2
        have hlk : ls.length = k := by have := congrArg List.length hls; rw [List.length_map, List.length_take] at this; omega
        have H2 := Lib.hid (And.intro hls (And.intro hlx (And.intro hown (And.intro hb2 (Bthen H1.out.2.2 hb2)))))
        have hs2 := hb2.size
        clear hls hlx hown hb2
        by_cases hlt2 : k < r.length
        · obtain ⟨x, hx⟩ : ∃ x, r[k]? = some x := ⟨_, List.getElem?_eq_getElem hlt2⟩
          obtain ⟨L, hL1, hL2⟩ := HO.out.2 x (List.mem_of_getElem? hx)
          obtain ⟨ba, oa, rfl, hbl2, hca⟩ := (H1.out.1.below H2.out.2.2.2.1).rd (by intro e; have := strF_length r; rw [e] at this; simp at this; omega)
          have c0 := hca k (encStr x) (by unfold strF; rw [List.getElem?_map, hx]; rfl)
          obtain ⟨xs, hxs⟩ : ∃ q : ByteArray, q = ⟨x.toArray⟩ := ⟨_, rfl⟩
          rw [show encStr x = Value.string xs by rw [hxs]] at c0
          have hxd : d xs = x := by rw [hxs]
          have hbd := bytesS_bound hL1
          have hxz : xs.size ≤ 1100000 := by
            have h1 : (d xs).length ≤ 73856 := by rw [hxd, hL2]; exact hbd
            have h2 : xs.size = (d xs).length := by simp [d]
            omega
          have hrs : readS (d xs) = some L := by rw [hxd, hL2]; exact readS_bytes hL1
          have HX := Lib.hid (And.intro hx (And.intro hL1 (And.intro hL2 hrs)))
          clear hx hL1 hL2 hca hxs hxd hbd hrs
          go_wp2_with fail
          go_at_call 121
          refine (rreadL_calls xs w2 hxz).mono ?_
          intro e w7 hp
          have hp2 : (∃ v, e = .returned (.tuple #[v, .int .i64 0]) ∧ w7.ownsRow w2.heap.size 79 2 v L.length (lFlat L)) ∧ Below w2.heap.size w2 w7 := by
            unfold CrPost at hp
            rw [HX.out.2.2.2] at hp
            exact hp
          obtain ⟨⟨v7, rfl, hown7⟩, hb7⟩ := hp2
          obtain ⟨a7, c7, rfl⟩ := own_form hown7
          have H7 := Lib.hid (And.intro (Ll.of_own hown7) (And.intro hb7 (own_fr H2.out.2.2.1 (X := fun k => w2.heap.size ≤ k) (Fr.of_below hb7) (fun k hk => by have := (own_isT H2.out.2.2.1 hk).lt; omega))))
          have hs7 : w1.heap.size ≤ w7.heap.size := Nat.le_trans hs2 hb7.size
          clear hp hown7 hb7 c0
          go_wp2_with (at_builtin; refine wpList_app rfl _ _ 77 31 1 24 _ rfl Tryz.underlying77 infoLs rfl (by decide) (by decide) w1.heap.size _ ls.length (ls.map llB) rfl (H7.out.2.2.alloc _) ⟨w7.heap.size, 0, none⟩ 1 1 [.slice a7 L.length c7] rfl rfl (cells_new w7 #[.slice a7 L.length c7] _ _ (by simp)) (by intro u hu; rw [List.mem_singleton.1 hu]; rfl) (by omega) (by simp; omega) ?_; intro v8 w8 hown8 hgrow8 _ _; have H8 := Lib.hid (And.intro hown8 hgrow8); clear hown8 hgrow8)
          have hb79 : Below w2.heap.size w2 (w7.alloc (.cells #[.slice a7 L.length c7] 31)) := H7.out.2.1.alloc H7.out.2.1.size _
          have hown9 := H7.out.2.2.alloc (.cells #[.slice a7 L.length c7] 31)
          have hb9 : Below w1.heap.size w1 w8 := below_own (H2.out.2.2.2.1.trans (hb79.mono H2.out.2.2.2.1.size)) (by have := H2.out.2.2.2.1.size; have := hb79.size; omega) hown9 H8.out.2
          have hnl : ∀ {a : Option Addr} {c : Nat} {m : List Lab}, Ll (w7.alloc (.cells #[.slice a7 L.length c7] 31)) a c m → Ll w8 a c m := fun hl => ll_grown hown9 (by decide) H8.out.2 hl
          go_roundw
          case rel =>
            refine ⟨k + 1, ls ++ [⟨a7, c7, L⟩], by omega, by go_num, ?_, fun x hx => ?_, ?_, hb9⟩
            · rw [List.map_append, H2.out.1, take_succ_at HX.out.1]
              simp only [List.map_cons, List.map_nil]
              rw [← HX.out.2.2.1]
            · rcases List.mem_append.1 hx with hx | hx
              · exact ⟨(H2.out.2.1 x hx).1, hnl ((H2.out.2.1 x hx).2.below hb79 (Nat.le_refl _))⟩
              · obtain rfl := List.mem_singleton.1 hx
                exact ⟨HX.out.2.1, hnl (H7.out.1.below ((Below.refl _ _).alloc (Nat.le_refl _) _) (Nat.le_refl _))⟩
            · rw [List.map_append, List.length_append]
              exact H8.out.1
          case measure => simp [intOf]; omega
        · obtain rfl : k = r.length := by omega
          obtain ⟨ao, co, rfl⟩ := own_form H2.out.2.2.1
          have hmp := H2.out.1
          rw [List.take_of_length_le (Nat.le_refl _)] at hmp
          have HMP := Lib.hid hmp
          clear hmp
          go_wp2_with fail
          go_ret
          exact ⟨ao, co, ls, rfl, by rw [HMP.out]; exact HO.out.1, fun x hx => (H2.out.2.1 x hx).1, ⟨RdF.of_own H2.out.2.2.1, fun x hx => (H2.out.2.1 x hx).2⟩, H2.out.2.2.2.2⟩
end Go.Proofs.YtdgfldeeflmnmaaGreatDoor.Sk
