/- about: points about the borders of sets: all that its callers want is that it is a new slice of ints. -/
import Derived.Test.YtkjilodmmcefbaaGreatDoorSlC
import Derived.Maps.AppendAt
namespace Go.Proofs.YtkjilodmmcefbaaGreatDoor
open Go.RowKit Go.Shelf

theorem infoInt : (Tryz.prog.info? 3).map (fun i => (i.zero, i.size, i.bytes)) = some (some (.int .i64 0), 1, 8) := by kernel_rfl
abbrev ints (L : List Int) : List Value := L.map fun z => .int .i64 z
theorem own_alloc (w : World) (base : Nat) (hb : base ≤ w.heap.size) (T : TypeId) (xs : List Value) (hx : xs.length ≤ maxLen) :
    (w.alloc (.cells xs.toArray T)).ownsRow base T 1 (.slice (some ⟨w.heap.size, 0, none⟩) xs.length xs.length) xs.length xs := by
  refine ⟨by simp, .inr ⟨w.heap.size, xs.length, xs.toArray, rfl, hb, World.alloc_heap_new _ _, Nat.le_refl _, hx, by simp, by simp⟩⟩
theorem app_endG {W w1 : World} {base : Nat} {e : TypeId} {size : Nat} {v : Value} {k : Nat} {xs : List Value} {tmp : Obj} {w : World} (hrow : W.ownsRow base e size v k xs) (hb : Below base w W) (hs : base ≤ W.heap.size) (hgrow : (W.alloc tmp).grownBy w1 v.ownBlock) : Below base w w1 :=
  (hb.alloc hs tmp).grown hgrow (by simp; omega) fun j e => by
    rcases hrow.2 with ⟨rfl, _⟩ | ⟨g, cap, cur, rfl, hg, _⟩
    · simp [Value.ownBlock] at e
    · obtain rfl : g = j := by simpa [Value.ownBlock] using e
      exact hg
theorem own_lt {W : World} {base : Nat} {e : TypeId} {size : Nat} {v : Value} {k : Nat} {xs : List Value} (h : W.ownsRow base e size v k xs) {B : Nat} (hB : W.heap.size ≤ B) : v.ownBlock ≠ some B := by
  rcases h.2 with ⟨rfl, _⟩ | ⟨g, cap, cur, rfl, _, hg, _⟩
  · simp [Value.ownBlock]
  · have := (Array.getElem?_eq_some_iff.1 hg).1
    simp [Value.ownBlock]; omega
theorem cell_kept {W w1 : World} {v : Value} {tmp : Obj} {B o : Nat} (hgrow : (W.alloc tmp).grownBy w1 v.ownBlock) (hB : B < W.heap.size) (hv : v.ownBlock ≠ some B) : w1.cell? ⟨B, o, none⟩ = W.cell? ⟨B, o, none⟩ := by
  unfold World.cell?
  rw [hgrow.block B (by simp; omega) (fun e => hv e.symm), Below.heap_alloc _ _ _ hB]

theorem add_at0 (b k : Nat) : (⟨b, 0, none⟩ : Addr).add k = ⟨b, k, none⟩ := by
  unfold Addr.add
  by_cases h : k = 0 <;> simp [h]
theorem ints_new (W : World) (ys : List Int) (T : TypeId) (B : Nat) (hB : B = W.heap.size) (j : Nat) (y : Int) (hy : ys[j]? = some y) : (W.alloc (.cells (ints ys).toArray T)).cell? ⟨B, j, none⟩ = some (.int .i64 y) := by
  subst hB
  have h := cells_new W (ints ys).toArray T ⟨W.heap.size, 0, none⟩ rfl j (.int .i64 y) (by simp [ints, hy])
  rwa [add_at0] at h
theorem hnb_ne {a b : Option Nat} {N B : Nat} (h : a = b ∨ a = some N) (hb : b ≠ some B) (hN : B < N) : a ≠ some B := by
  rcases h with rfl | rfl
  · exact hb
  · intro e; have := Option.some.inj e; omega
/-- A slice of slices of ranges in w. -/
structure SlS (w : World) (a : Option Addr) (ls : List Rs.S) : Prop where
  rd : ls ≠ [] → ∃ b off, a = some ⟨b, off, none⟩ ∧ b < w.heap.size ∧ ∀ (i : Nat) (l : Rs.S), ls[i]? = some l → ∃ a' cap', w.cell? ⟨b, off + i, none⟩ = some (.slice a' l.length cap') ∧ Sl w a' cap' l
def BdS (l : Rs.S) : Prop := l.length ≤ 1000 ∧ ∀ r ∈ l, Rs.Bd r

def AbO (w : World) (N0 n0 m : Nat) (v i : Value) (wr : World) : Prop :=
  ∃ (k n : Nat) (L : List Int), k ≤ m ∧ i = .int .i64 k ∧ n ≤ N0 + n0 * k ∧ wr.ownsRow w.heap.size 3 1 v n (ints L) ∧ (∀ z ∈ L, Rs.pt z = true) ∧ Below w.heap.size w wr
def AbI (w : World) (N0 B : Nat) (ys : List Int) (v q : Value) (wr : World) : Prop :=
  ∃ (k n : Nat) (L : List Int), k ≤ 4 ∧ q = .int .i64 k ∧ n ≤ N0 + k ∧ wr.ownsRow w.heap.size 3 1 v n (ints L) ∧ (∀ z ∈ L, Rs.pt z = true) ∧ Below w.heap.size w wr ∧ v.ownBlock ≠ some B ∧ B < wr.heap.size ∧ ∀ (j : Nat) (y : Int), ys[j]? = some y → wr.cell? ⟨B, j, none⟩ = some (.int .i64 y)

set_option maxRecDepth 100000 in
set_option maxHeartbeats 1000000 in
theorem about_calls (a : Option Addr) (cap : Nat) (ls : List Rs.S) (w : World) (h : SlS w a ls) (hn : ls.length ≤ 1000) (hbd : ∀ l ∈ ls, BdS l) :
    Calls Tryz.prog 30 #[.slice a ls.length cap] w fun e w' => ∃ v n L, e = .returned v ∧ n ≤ 4004000 ∧ w'.ownsRow w.heap.size 3 1 v n (ints L) ∧ (∀ z ∈ L, Rs.pt z = true) ∧ Below w.heap.size w w' := by
  have HS := Lib.hid (show _ ∧ _ from ⟨h, hbd⟩)
  clear h hbd
  obtain ⟨i0, hi0, hz0, hz1, hz2⟩ := info_parts infoInt
  go_enter Tryz.func30, Tryz.ntmps30
  go_wp2
  go_loopw [3, 5, 7, 9, 13] (fun v _ _ _ i wr => AbO w 4 4000 ls.length v i wr) (fun _ _ _ _ i _ => ls.length - (intOf i).toNat)
  case atStart =>
    exact ⟨0, 4, [0, 55295, 57344, 1114111], Nat.zero_le _, rfl, by omega, own_alloc w w.heap.size (Nat.le_refl _) 3 (ints [0, 55295, 57344, 1114111]) (by decide), by decide, (Below.refl _ _).alloc (Nat.le_refl _) _⟩
  case round =>
    obtain ⟨k, n, L, hk, rfl, hnn, hrow, hpt, hb⟩ := hrel
    have hbs := hb.size
    have HNN := Lib.hid hnn
    clear hnn
    by_cases hlt : k < ls.length
    · obtain ⟨b, off, rfl, hbl, hc⟩ := HS.out.1.rd (by intro e; subst e; simp at hlt)
      obtain ⟨l, hl⟩ : ∃ l, ls[k]? = some l := ⟨_, List.getElem?_eq_getElem hlt⟩
      obtain ⟨a', cap', c0, hsl⟩ := hc k l hl
      rw [← hb.cell (by exact hbl)] at c0
      have hbd := HS.out.2 l (List.mem_of_getElem? hl)
      have hln := hbd.1
      have hbw : b < wr.heap.size := by omega
      have HST : Hid (AbO w n 4 l.length _ (.int .i64 0) wr) := Lib.hid ⟨0, n, L, Nat.zero_le _, rfl, by omega, hrow, hpt, hb⟩
      have HR := Lib.hid (show _ ∧ _ from ⟨hsl, hbd.2⟩)
      clear hl hc hrow hpt hb hsl hbd
      go_wp2
      go_loopw [3, 7, 9, 19] (fun v _ _ j wz => AbO w n 4 l.length v j wz) (fun _ _ _ j _ => l.length - (intOf j).toNat)
      case atStart => exact HST.out
      case round =>
        obtain ⟨j, n1, L1, hj, rfl, hn1, hrow, hpt, hb⟩ := hrel
        have hbs2 := hb.size
        have HN1 := Lib.hid hn1
        have hn1b : n1 ≤ 4004004 := by have := HNN.out; omega
        clear HST hn1
        by_cases hjl : j < l.length
        · obtain ⟨b2, off2, rfl, hbl2, hc⟩ := HR.out.1.rd (by intro e; subst e; simp at hjl)
          obtain ⟨r, hr⟩ : ∃ r, l[j]? = some r := ⟨_, List.getElem?_eq_getElem hjl⟩
          obtain ⟨d0, d1⟩ := hc j r hr
          rw [← hb.cell (by exact hbl2)] at d0 d1
          obtain ⟨o1, o2, o3, o4⟩ := HR.out.2 r (List.mem_of_getElem? hr)
          obtain ⟨lo, hi⟩ := r
          dsimp only at d0 d1 o1 o2 o3 o4
          have HST2 : Hid (AbI w n1 (wr.heap.size + 1) [lo - 1, lo, hi, hi + 1] _ (.int .i64 0) ((wr.alloc (.cells #[.int .i64 lo, .int .i64 hi] 34)).alloc (.cells #[.int .i64 (lo - 1), .int .i64 lo, .int .i64 hi, .int .i64 (hi + 1)] 3))) :=
            Lib.hid ⟨0, n1, L1, by omega, rfl, by omega, (hrow.alloc _).alloc _, hpt, (hb.alloc hbs2 _).alloc (by simp; omega) _, own_lt (hrow.alloc (.cells #[.int .i64 lo, .int .i64 hi] 34)) (by simp), by simp, fun j y hy => ints_new (wr.alloc (.cells #[.int .i64 lo, .int .i64 hi] 34)) [lo - 1, lo, hi, hi + 1] 3 (wr.heap.size + 1) (by simp) j y hy⟩
          have hya : ∀ (q : Nat) (y : Int), [lo - 1, lo, hi, hi + 1][q]? = some y → -1 ≤ y ∧ y ≤ 1114112 := by
            intro q y hy
            have := List.mem_of_getElem? hy
            simp only [List.mem_cons, List.not_mem_nil, or_false] at this
            omega
          have HY := Lib.hid hya
          clear hya hr hc hrow hpt hb
          go_wp2
          generalize hW4 : ((wr.alloc (.cells #[.int .i64 lo, .int .i64 hi] 34)).alloc (.cells #[.int .i64 (lo - 1), .int .i64 lo, .int .i64 hi, .int .i64 (hi + 1)] 3)) = W4 at *
          generalize wr.heap.size + 1 = B at *
          go_loopw [3, 9, 35] (fun v _ q wz => AbI w n1 B [lo - 1, lo, hi, hi + 1] v q wz) (fun _ _ q _ => 4 - (intOf q).toNat)
          case atStart => exact HST2.out
          case round =>
            obtain ⟨q, n2, L2, hq, rfl, hn2, hrow, hpt, hb, hob, hBs, hcy⟩ := hrel
            have hbs3 := hb.size
            by_cases hql : q < 4
            · obtain ⟨y, hy⟩ : ∃ y, [lo - 1, lo, hi, hi + 1][q]? = some y := ⟨_, List.getElem?_eq_getElem (by simpa using hql)⟩
              have e0 := hcy q y hy
              obtain ⟨hy1, hy2⟩ := HY.out q y hy
              have HQ := Lib.hid (show _ ∧ _ ∧ _ ∧ _ ∧ _ from ⟨hrow, hpt, hb, hob, hcy⟩)
              clear hy hrow hpt hb hob hcy
              rcases (show (y < 0) ∨ (0 ≤ y ∧ y < 55296) ∨ (55296 ≤ y ∧ y ≤ 57343) ∨ (57343 < y ∧ y ≤ 1114111) ∨ (1114111 < y) by omega) with h1 | ⟨h1, h2⟩ | ⟨h1, h2⟩ | ⟨h1, h2⟩ | h1
              · go_wp2
                go_roundw
                case rel =>
                  have HI : AbI w n1 B [lo - 1, lo, hi, hi + 1] _ (.int .i64 ((q : Int) + 1)) wr := ⟨q + 1, n2, L2, by omega, by go_num, by omega, HQ.out.1, HQ.out.2.1, HQ.out.2.2.1, HQ.out.2.2.2.1, hBs, HQ.out.2.2.2.2⟩
                  exact HI
                case measure => simp [intOf]; omega
              · go_wp2_with (at_builtin; refine wpList_append_own_at _ rfl _ _ 54 rfl w.heap.size 3 i0 (.int .i64 0) 1 8 Tryz.underlying54 hi0 hz0 hz1 hz2 rfl (by decide) _ _ _ rfl (HQ.out.1.alloc (.cells #[.int .i64 y] 3)) ⟨wr.heap.size, 0, none⟩ 1 1 [.int .i64 y] rfl rfl (cell_one_new wr (.int .i64 y) 3) (by intro u hu; simp at hu; subst hu; rfl) (by unfold maxLen; omega) (by omega) (by simp; omega) ?_; intro v' w1 hown' hgrow _ hnb;
                                        have HB := Lib.hid (show Below w.heap.size w w1 from app_endG HQ.out.1 HQ.out.2.2.1 hbs3 hgrow);
                                        have HK := Lib.hid (fun o => cell_kept (o := o) hgrow hBs HQ.out.2.2.2.1);
                                        have hnb' : v'.ownBlock ≠ some B := (hnb_ne hnb HQ.out.2.2.2.1 (by simp; omega));
                                        have hBs' : B < w1.heap.size := (by have := hgrow.size; simp at this; omega);
                                        clear hgrow hnb)
                go_roundw
                case rel =>
                  have HI : AbI w n1 B [lo - 1, lo, hi, hi + 1] v' (.int .i64 ((q : Int) + 1)) w1 := ⟨q + 1, n2 + 1, L2 ++ [y], by omega, by go_num, by omega, by simpa [ints] using hown', (by
                    intro z hz
                    rcases List.mem_append.1 hz with hz | hz
                    · exact HQ.out.2.1 z hz
                    · obtain rfl := List.mem_singleton.1 hz
                      rw [Rs.pt_iff]; omega), HB.out, hnb', hBs', fun j y hy => by rw [HK.out j]; exact HQ.out.2.2.2.2 j y hy⟩
                  exact HI
                case measure => simp [intOf]; omega
              · go_wp2
                go_roundw
                case rel =>
                  have HI : AbI w n1 B [lo - 1, lo, hi, hi + 1] _ (.int .i64 ((q : Int) + 1)) wr := ⟨q + 1, n2, L2, by omega, by go_num, by omega, HQ.out.1, HQ.out.2.1, HQ.out.2.2.1, HQ.out.2.2.2.1, hBs, HQ.out.2.2.2.2⟩
                  exact HI
                case measure => simp [intOf]; omega
              · go_wp2_with (at_builtin; refine wpList_append_own_at _ rfl _ _ 54 rfl w.heap.size 3 i0 (.int .i64 0) 1 8 Tryz.underlying54 hi0 hz0 hz1 hz2 rfl (by decide) _ _ _ rfl (HQ.out.1.alloc (.cells #[.int .i64 y] 3)) ⟨wr.heap.size, 0, none⟩ 1 1 [.int .i64 y] rfl rfl (cell_one_new wr (.int .i64 y) 3) (by intro u hu; simp at hu; subst hu; rfl) (by unfold maxLen; omega) (by omega) (by simp; omega) ?_; intro v' w1 hown' hgrow _ hnb;
                                        have HB := Lib.hid (show Below w.heap.size w w1 from app_endG HQ.out.1 HQ.out.2.2.1 hbs3 hgrow);
                                        have HK := Lib.hid (fun o => cell_kept (o := o) hgrow hBs HQ.out.2.2.2.1);
                                        have hnb' : v'.ownBlock ≠ some B := (hnb_ne hnb HQ.out.2.2.2.1 (by simp; omega));
                                        have hBs' : B < w1.heap.size := (by have := hgrow.size; simp at this; omega);
                                        clear hgrow hnb)
                go_roundw
                case rel =>
                  have HI : AbI w n1 B [lo - 1, lo, hi, hi + 1] v' (.int .i64 ((q : Int) + 1)) w1 := ⟨q + 1, n2 + 1, L2 ++ [y], by omega, by go_num, by omega, by simpa [ints] using hown', (by
                    intro z hz
                    rcases List.mem_append.1 hz with hz | hz
                    · exact HQ.out.2.1 z hz
                    · obtain rfl := List.mem_singleton.1 hz
                      rw [Rs.pt_iff]; omega), HB.out, hnb', hBs', fun j y hy => by rw [HK.out j]; exact HQ.out.2.2.2.2 j y hy⟩
                  exact HI
                case measure => simp [intOf]; omega
              · go_wp2
                go_roundw
                case rel =>
                  have HI : AbI w n1 B [lo - 1, lo, hi, hi + 1] _ (.int .i64 ((q : Int) + 1)) wr := ⟨q + 1, n2, L2, by omega, by go_num, by omega, HQ.out.1, HQ.out.2.1, HQ.out.2.2.1, HQ.out.2.2.2.1, hBs, HQ.out.2.2.2.2⟩
                  exact HI
                case measure => simp [intOf]; omega
            · have HB : Hid (AbO w n 4 l.length _ (.int .i64 ((j : Int) + 1)) wr) := Lib.hid ⟨j + 1, n2, L2, by omega, by go_num, by have := HN1.out; omega, hrow, hpt, hb⟩
              clear hrow hpt hb hob hcy
              go_wp2
              go_roundw
              case rel => exact HB.out
              case measure => simp [intOf]; omega
        · have HB : Hid (AbO w 4 4000 ls.length _ (.int .i64 ((k : Int) + 1)) wr) := Lib.hid ⟨k + 1, n1, L1, by omega, by go_num, by have := HN1.out; have := HNN.out; omega, hrow, hpt, hb⟩
          clear hrow hpt hb hn1b
          go_wp2
          go_roundw
          case rel => exact HB.out
          case measure => simp [intOf]; omega
    · have HB := Lib.hid (show _ ∧ _ ∧ _ from ⟨hrow, hpt, hb⟩)
      clear hrow hpt hb
      go_wp2
      go_ret
      exact ⟨_, n, L, rfl, by have := HNN.out; omega, HB.out.1, HB.out.2.1, HB.out.2.2⟩
end Go.Proofs.YtkjilodmmcefbaaGreatDoor
