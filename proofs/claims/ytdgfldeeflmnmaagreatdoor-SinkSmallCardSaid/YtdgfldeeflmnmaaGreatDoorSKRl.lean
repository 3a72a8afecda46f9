/- Texts of the claim, put together: KRl. -/
import Derived.Test.YtdgfldeeflmnmaaGreatDoorSKRg
import Derived.Test.YtdgfldeeflmnmaaGreatDoorSKRj
import Derived.Test.YtdgfldeeflmnmaaGreatDoorSKsE
import Derived.Laws.BytesString
namespace Go.Proofs.YtdgfldeeflmnmaaGreatDoor.Sk
open Go Go.RowKit
def cB (l : B) : List Value := l.map fun b => .int .u8 b.toNat
theorem cB_str (s : ByteArray) : Lib.strCells s = cB (d s) := rfl
theorem cB_app (a b : B) : cB (a ++ b) = cB a ++ cB b := List.map_append
theorem bytes_step {l : List Lab} {k : Nat} {x : Lab} (h : l[k]? = some x) : bytesS (l.take (k + 1)) = bytesS (l.take k) ++ d x.1 ++ [255] ++ d x.2 ++ [255] := by
  have : l.take (k + 1) = l.take k ++ [x] := by rw [List.take_add_one, h]; rfl
  rw [this]
  unfold bytesS
  rw [List.flatMap_append]
  simp
theorem conv_own {w : World} {base n cap : Nat} {a : Option Addr} {l : B} (h : w.ownsRow base 5 1 (.slice a n cap) n (cB l)) (hn : n = l.length) (hz : a = none ∨ 0 < n) :
    (convert 115 9 (.slice a n cap)).run Tryz.prog w = .ok (.string ⟨l.toArray⟩) w := by
  rcases h.2 with ⟨e, h0⟩ | ⟨g, cap', cur, e, hb, hg, h1, h2, h3, h4⟩
  · cases e
    have : l = [] := List.eq_nil_of_length_eq_zero (by omega)
    subst this
    rw [run_convert_bytes_string (P := Tryz.prog) w 115 9 5 none 0 0 Tryz.underlying115 Tryz.underlying5 Tryz.underlying9]
    rfl
  · cases e
    subst hn
    refine run_convert_bytes_back (P := Tryz.prog) w 115 9 5 ⟨g, 0, none⟩ _ l Tryz.underlying115 Tryz.underlying5 Tryz.underlying9 (fun j hj => ?_)
    rw [Addr.add_lit, Nat.zero_add]
    have hu : (cB l)[j]? = some (.int .u8 (l[j].toNat)) := by
      unfold cB
      rw [List.getElem?_map, List.getElem?_eq_getElem hj]
      rfl
    rw [← h4, List.getElem?_take] at hu
    split at hu
    · simp only [World.cell?, hg]
      simpa using hu
    · cases hu
def RbyInv (l : List Lab) (w : World) (out i : Value) (wr : World) : Prop :=
  ∃ (k N : Nat), k ≤ l.length ∧ i = .int .i64 k ∧ N = (bytesS (l.take k)).length ∧ wr.ownsRow w.heap.size 5 1 out N (cB (bytesS (l.take k))) ∧ (k = 0 → out = .slice none 0 0) ∧ Below w.heap.size w wr
set_option maxRecDepth 100000 in
set_option maxHeartbeats 4000000 in
theorem rbytesG_calls (a : Option Addr) (cap : Nat) (l : List Lab) (w : World) (h : RdL w a l) (hr : labRight l = true) :
    Calls Tryz.prog 75 #[.slice a l.length cap] w fun e w' => e = .returned (.tuple #[.string ⟨(bytesS l).toArray⟩, .int .i64 0]) ∧ Below w.heap.size w w' := by
  obtain ⟨hl64, hbd⟩ := labRight_ok hr
  have hz : LabZ l := fun x hx => by
    have := hbd x hx
    simp at this
    omega
  have HC := Lib.hid (rrightG_calls a cap l w h (by omega) hz)
  rw [hr] at HC
  have HS := Lib.hid h
  have HB := Lib.hid hbd
  have HR := Lib.hid hr
  obtain ⟨i0, hi0, hz0, hz1, hz2⟩ := info_parts infoByte
  have HI0 := Lib.hid (And.intro hi0 (And.intro hz0 (And.intro hz1 hz2)))
  clear h hbd hr hz hi0 hz0 hz1 hz2
  go_enter Tryz.func75, Tryz.ntmps75
  go_wp2_with fail
  go_at_call 117
  refine HC.out.mono ?_
  rintro e w1 ⟨rfl, hb1⟩
  have HB1 := Lib.hid hb1
  clear hb1
  go_wp2_with fail
  go_loopw [4, 5] (fun out i wr => RbyInv l w out i wr) (fun _ i _ => l.length - (intOf i).toNat)
  case atStart => exact ⟨0, 0, Nat.zero_le _, rfl, rfl, World.ownsRow_nil _ _ _ _, fun _ => rfl, HB1.out⟩
  case round =>
    obtain ⟨k, N, hk, rfl, hN, hown, hnil, hb⟩ := hrel
    obtain ⟨w2, hw2⟩ : ∃ q, q = wr := ⟨_, rfl⟩
    subst hw2
    have hNb : N ≤ k * 1154 := by
      have h1 := bytesS_le (l.take k) (fun x hx => HB.out x (List.mem_of_mem_take hx))
      rw [List.length_take, ← hN] at h1
      omega
    have HO0 := Lib.hid hown
    have HBR := Lib.hid hb
    have HN := Lib.hid hN
    have HNI := Lib.hid hnil
    have hsr := hb.size
    clear hown hb hN hnil
    by_cases hlt : k < l.length
    · obtain ⟨b, off, rfl, ht, hc⟩ := HS.out (by intro e; subst e; simp at hlt)
      have hbl := ht
      obtain ⟨x, hx⟩ : ∃ x, l[k]? = some x := ⟨_, List.getElem?_eq_getElem hlt⟩
      obtain ⟨c0, c1⟩ := hc k x hx
      rw [← HBR.out.cell (by exact hbl)] at c0
      obtain ⟨zn, zv⟩ := HB.out x (List.mem_of_getElem? hx)
      have HST := Lib.hid (bytes_step hx)
      obtain ⟨nm, vl⟩ := x
      dsimp only at c0 c1 zn zv
      have zn' : nm.size ≤ 128 := by simpa using zn
      have zv' : vl.size ≤ 1024 := by simpa using zv
      have hlt' : decide (k < l.length) = true := decide_eq_true hlt
      have hb2 : b < w2.heap.size := by omega
      have HC1 := Lib.hid c1
      have hN2 : N ≤ 73856 := by omega
      clear hc hx c1 zn zv ht hNb
      go_wp2_with (first
        | (at_builtin; refine Lib.wpList_append_own_string _ rfl _ _ 115 9 rfl w.heap.size 5 i0 Tryz.underlying115 Tryz.underlying9 HI0.out.1 HI0.out.2.1 HI0.out.2.2.1 HI0.out.2.2.2 _ _ _ rfl HO0.out nm rfl (by unfold maxLen; omega) (by omega) hsr ?_; intro v1 w3 own1 hg1 _; have HB3 := Lib.hid (below_own HBR.out hsr HO0.out hg1); have HO1 := Lib.hid own1; have s3 := HB3.out.size; clear own1 hg1)
        | (at_builtin; refine wpList_app rfl _ _ 115 5 1 1 _ rfl Tryz.underlying115 infoByte rfl (by decide) (by decide) w.heap.size _ (N + nm.size) (cB (bytesS (l.take k)) ++ Lib.strCells nm) rfl (HO1.out.alloc _) ⟨w3.heap.size, 0, none⟩ 1 1 [.int .u8 255] rfl rfl (cells_new w3 #[.int .u8 255] _ _ rfl) (by intro u hu; rw [List.mem_singleton.1 hu]; rfl) (by omega) (Nat.le_trans s3 (by simp)) ?_; intro v2 w4 own2 _ _ hbel; have HB4 := Lib.hid (hbel _ (HB3.out.alloc s3 _)); have HO2 := Lib.hid own2; have s4 := HB4.out.size; have d1 : w4.cell? ⟨b, off + k * 2 + 1, none⟩ = some (.string vl) := (HB4.out.cell (p := ⟨b, off + k * 2 + 1, none⟩) hbl).trans HC1.out; have hb4 : b < w4.heap.size := (by omega); clear hbel own2)
        | (at_builtin; refine Lib.wpList_append_own_string _ rfl _ _ 115 9 rfl w.heap.size 5 i0 Tryz.underlying115 Tryz.underlying9 HI0.out.1 HI0.out.2.1 HI0.out.2.2.1 HI0.out.2.2.2 _ _ _ rfl HO2.out vl rfl (by unfold maxLen; omega) (by omega) s4 ?_; intro v3 w5 own3 hg3 _; have HB5 := Lib.hid (below_own HB4.out s4 HO2.out hg3); have HO3 := Lib.hid own3; have s5 := HB5.out.size; clear own3 hg3)
        | (at_builtin; refine wpList_app rfl _ _ 115 5 1 1 _ rfl Tryz.underlying115 infoByte rfl (by decide) (by decide) w.heap.size _ (N + nm.size + 1 + vl.size) (cB (bytesS (l.take k)) ++ Lib.strCells nm ++ [.int .u8 255] ++ Lib.strCells vl) rfl (HO3.out.alloc _) ⟨w5.heap.size, 0, none⟩ 1 1 [.int .u8 255] rfl rfl (cells_new w5 #[.int .u8 255] _ _ rfl) (by intro u hu; rw [List.mem_singleton.1 hu]; rfl) (by omega) (Nat.le_trans s5 (by simp)) ?_; intro v4 w6 own4 _ _ hbel; have HB6 := Lib.hid (hbel _ (HB5.out.alloc s5 _)); have HO4 := Lib.hid own4; clear hbel own4))
      go_roundw
      case rel =>
        refine ⟨k + 1, N + nm.size + 1 + vl.size + 1, by omega, by go_num, ?_, ?_, fun h => by omega, HB6.out⟩
        · rw [HST.out, HN.out, List.length_append, List.length_append, List.length_append, List.length_append, show (d nm).length = nm.size by simp, show (d vl).length = vl.size by simp]
          rfl
        · rw [HST.out, cB_app, cB_app, cB_app, cB_app, ← cB_str, ← cB_str]
          exact HO4.out
      case measure => simp [intOf]; omega
    · obtain rfl : k = l.length := by omega
      have hlt' : decide (l.length < l.length) = false := by simp
      have hown := HO0.out
      have hN := HN.out
      rw [List.take_length] at hown hN
      obtain ⟨a4, c4, rfl⟩ := own_form hown
      have hcv := conv_own hown hN (by
        rcases Nat.eq_zero_or_pos l.length with h0 | h0
        · have := HNI.out h0
          injection this with e1 _ _
          exact .inl e1
        · right
          rw [hN]
          have : bytesS l ≠ [] := by
            cases l with
            | nil => simp at h0
            | cons x r => simp [bytesS]
          exact List.length_pos_iff.2 this)
      clear hown hN hNb
      go_wp2
      go_ret2
      exact ⟨rfl, HBR.out⟩
end Go.Proofs.YtdgfldeeflmnmaaGreatDoor.Sk
namespace Go.Proofs.YtdgfldeeflmnmaaGreatDoor.Sk
open Go Go.RowKit
theorem d_app (a b : ByteArray) : d (a ++ b) = d a ++ d b := by simp
theorem textR_mark {k : B} {e : Ent} (h : e.mark = true) : textR k e = [109, 97, 114, 107, 101, 114, 32] ++ Lib.itoa e.stamp ++ [32] ++ wordS k ++ [32] ++ wordS (bytesS e.lab) := by
  unfold textR headW
  rw [if_pos h]
  simp [Lib.join_cons, Lib.joinTail]
theorem textR_st {k : B} {e : Ent} (h : e.mark = false) (hs : e.st = true) : textR k e = [115, 97, 109, 112, 108, 101, 32] ++ Lib.itoa e.stamp ++ [32] ++ bitsT e.bits ++ [32] ++ Lib.itoa e.time ++ [32] ++ wordS k ++ [32] ++ wordS (bytesS e.lab) := by
  unfold textR headW
  rw [if_neg (by rw [h]; decide), if_pos hs]
  simp [Lib.join_cons, Lib.joinTail]
theorem textR_no {k : B} {e : Ent} (h : e.mark = false) (hs : e.st = false) : textR k e = [115, 97, 109, 112, 108, 101, 32] ++ Lib.itoa e.stamp ++ [32] ++ bitsT e.bits ++ [32, 45] ++ [32] ++ wordS k ++ [32] ++ wordS (bytesS e.lab) := by
  unfold textR headW
  rw [if_neg (by rw [h]; decide), if_neg (by rw [hs]; decide)]
  simp [Lib.join_cons, Lib.joinTail]
/-- a string by its bytes -/
theorem str_of (l : B) : ∃ u : ByteArray, (⟨l.toArray⟩ : ByteArray) = u ∧ d u = l ∧ u.size = l.length := ⟨_, rfl, rfl, by show l.toArray.size = _; simp⟩
set_option maxRecDepth 100000 in
set_option maxHeartbeats 8000000 in
theorem rtext_calls (key : ByteArray) (la : Option Addr) (lc : Nat) (e : Ent) (w : World) (hk : key.size ≤ 1100000) (h : RdL w la e.lab) (hn : e.lab.length ≤ 1000000000) (hsz : LabZ e.lab) (hI : EntIn e) :
    Calls Tryz.prog 25 #[.agg #[.string key, .slice la e.lab.length lc, .bool e.mark, .int .u64 e.bits, .bool e.st, .int .i64 e.time, .int .i64 e.stamp]] w
      (TdPost (.tuple #[.string ⟨(textT (d key) e).toArray⟩, .int .i64 (textErr (d key) e)]) w) := by
  obtain ⟨w0, hw0⟩ : ∃ q, q = w.alloc (.cells #[.string key, .slice la e.lab.length lc, .bool e.mark, .int .u64 e.bits, .bool e.st, .int .i64 e.time, .int .i64 e.stamp] 70) := ⟨_, rfl⟩
  have hblk0 : w0.heap[w.heap.size]? = some (.cells #[.string key, .slice la e.lab.length lc, .bool e.mark, .int .u64 e.bits, .bool e.st, .int .i64 e.time, .int .i64 e.stamp] 70 (0, 0)) := by rw [hw0]; exact heap_alloc_new w _
  have hb0 : Below w.heap.size w w0 := by rw [hw0]; exact (Below.refl _ _).alloc (Nat.le_refl _) _
  have hcall := rr38_calls key la lc e w0 hk (h.below hb0 (Nat.le_refl _)) hn hsz
  have HC := Lib.hid hcall
  have H := Lib.hid (And.intro h (And.intro hsz hI))
  clear h hsz hI hcall
  go_enter Tryz.func25, Tryz.ntmps25
  go_wp2_with fail
  go_at_call 71
  rw [← hw0]
  obtain ⟨g, hg⟩ : ∃ g, g = w.heap.size := ⟨_, rfl⟩
  rw [← hg] at hblk0 ⊢
  have H0 := Lib.hid (And.intro hblk0 (And.intro hb0 hg))
  clear hw0 hblk0 hb0 hg
  refine HC.out.mono ?_
  rintro en w1 ⟨rfl, hb1⟩
  have hbk1 := (hb1.block g (Array.getElem?_eq_some_iff.1 H0.out.1).1).trans H0.out.1
  have H1 := Lib.hid (And.intro hbk1 (H0.out.2.1.trans (hb1.mono H0.out.2.1.size)))
  have c0 := bk_cell hbk1 0 _ rfl
  have c1 := bk_cell hbk1 1 _ rfl
  have c2 := bk_cell hbk1 2 _ rfl
  have c3 := bk_cell hbk1 3 _ rfl
  have c4 := bk_cell hbk1 4 _ rfl
  have c5 := bk_cell hbk1 5 _ rfl
  have c6 := bk_cell hbk1 6 _ rfl
  clear hbk1 hb1 HC
  cases hr : itemRight (d key) e with
  | false =>
    have HT : Hid (textT (d key) e = [] ∧ textErr (d key) e = 380) := Lib.hid (by unfold textT textErr; rw [hr]; exact ⟨rfl, rfl⟩)
    go_wp2
    go_ret2
    exact ⟨by rw [HT.out.1, HT.out.2]; rfl, H1.out.2⟩
  | true =>
  have HT : Hid (textT (d key) e = textR (d key) e ∧ textErr (d key) e = 0) := Lib.hid (by unfold textT textErr; rw [hr]; exact ⟨rfl, rfl⟩)
  have hlr : labRight e.lab = true := by unfold itemRight at hr; simp only [Bool.and_eq_true] at hr; exact hr.1.1.1.2
  have HLR := Lib.hid hlr
  obtain ⟨q0, q1, q2, q3, q4, q5⟩ := H.out.2.2
  obtain ⟨s1, es1, ds1, zs1⟩ := str_of (Lib.itoa e.stamp)
  obtain ⟨s2, es2, ds2, zs2⟩ := str_of (hexP 16 e.bits.toNat)
  obtain ⟨s3, es3, ds3, zs3⟩ := str_of (Lib.itoa e.time)
  obtain ⟨s4, es4, ds4, zs4⟩ := str_of (bytesS e.lab)
  obtain ⟨s5, es5, ds5, zs5⟩ := str_of (wordS (d key))
  obtain ⟨s6, es6, ds6, zs6⟩ := str_of (wordS (d s4))
  have y1 : s1.size ≤ 21 := by rw [zs1]; exact Nat.le_trans (Lib.itoa_length_le e.stamp q4 q5) (by decide)
  have y2 : s2.size = 16 := by rw [zs2, hexP_len]
  have y3 : s3.size ≤ 21 := by rw [zs3]; exact Nat.le_trans (Lib.itoa_length_le e.time q2 q3) (by decide)
  have y4 : s4.size ≤ 73856 := by have := bytesS_bound hlr; omega
  have y5 : s5.size ≤ 3300003 := by have := word_len (d key); have h2 : (d key).length = key.size := by simp
                                    omega
  have y6 : s6.size ≤ 300000 := by have := word_len (d s4); have h2 : (d s4).length = s4.size := by simp
                                   omega
  have hbits : e.bits = ((e.bits.toNat : Nat) : Int) := by omega
  have HI1 : Hid (∀ wx, Calls Tryz.prog 73 #[.int .i64 e.stamp] wx fun en w' => en = .returned (.string s1) ∧ w' = wx) := Lib.hid (fun wx => by rw [← es1]; exact (rinteger_calls e.stamp q4 q5 wx).mono fun _ _ h => ⟨h.1, h.2.symm⟩)
  have HI2 : Hid (∀ wx, Calls Tryz.prog 74 #[.int .u64 e.bits, .int .u64 16, .int .i64 16] wx fun en w' => en = .returned (.string s2) ∧ w' = wx) := Lib.hid (fun wx => by rw [← es2]; have := rdigits16_calls e.bits.toNat (by omega) wx; rw [← hbits] at this; exact this.mono fun _ _ h => ⟨h.1, h.2.symm⟩)
  have HI3 : Hid (∀ wx, Calls Tryz.prog 73 #[.int .i64 e.time] wx fun en w' => en = .returned (.string s3) ∧ w' = wx) := Lib.hid (fun wx => by rw [← es3]; exact (rinteger_calls e.time q2 q3 wx).mono fun _ _ h => ⟨h.1, h.2.symm⟩)
  have HI4 : Hid (∀ wx, Below w.heap.size w wx → Calls Tryz.prog 75 #[.slice la e.lab.length lc] wx fun en w' => en = .returned (.tuple #[.string s4, .int .i64 0]) ∧ Below wx.heap.size wx w') := Lib.hid (fun wx hb => by rw [← es4]; exact rbytesG_calls la lc e.lab wx (H.out.1.below hb (Nat.le_refl _)) hlr)
  have HI5 : Hid (∀ wx, Calls Tryz.prog 76 #[.string key] wx fun en w' => en = .returned (.string s5) ∧ ∃ m, w' = wx.drewN m) := Lib.hid (fun wx => by rw [← es5]; exact rword_calls key hk wx)
  have HI6 : Hid (∀ wx, Calls Tryz.prog 76 #[.string s4] wx fun en w' => en = .returned (.string s6) ∧ ∃ m, w' = wx.drewN m) := Lib.hid (fun wx => by rw [← es6]; exact rword_calls s4 (by omega) wx)
  have HD := Lib.hid (And.intro ds1 (And.intro (ds2.trans (bitsT_hexP q1).symm) (And.intro ds3 (And.intro ds4 (And.intro ds5 ds6)))))
  have hS : (⟨#[115, 97, 109, 112, 108, 101, 32]⟩ : ByteArray).size = 7 := rfl
  have hM : (⟨#[109, 97, 114, 107, 101, 114, 32]⟩ : ByteArray).size = 7 := rfl
  have hW : (⟨#[32]⟩ : ByteArray).size = 1 := rfl
  have hW2 : (⟨#[32, 45]⟩ : ByteArray).size = 2 := rfl
  clear hr hlr q0 q1 q2 q3 q4 q5 es1 es2 es3 es4 es5 es6 ds1 ds2 ds3 ds4 ds5 ds6 zs1 zs2 zs3 zs4 zs5 zs6 hbits hk hn
  go_wp2_with fail
  go_quiet ((first | (go_at_call 73; exact Calls.quiet_of_same (HI1.out _)) | (go_at_call 74; exact Calls.quiet_of_same (HI2.out _))))
  rcases Bool.eq_false_or_eq_true e.mark with hm | hm
  · go_wp2_with fail
    go_at_call 73
    refine (HI1.out _).mono ?_
    rintro en w2 ⟨rfl, rfl⟩
    go_wp2_with fail
    go_at_call 75
    refine (HI4.out _ (below_drewN H1.out.2 _)).mono ?_
    rintro en w3 ⟨rfl, hb3⟩
    have hb13 : Below w1.heap.size w1 w3 := (below_drewN (Below.refl w1.heap.size w1) _).trans (hb3.mono (by simp))
    have hbk3 := (hb13.block g (Array.getElem?_eq_some_iff.1 H1.out.1).1).trans H1.out.1
    have H3 := Lib.hid (H1.out.2.trans (hb13.mono H1.out.2.size))
    have e0 := bk_cell hbk3 0 _ rfl
    clear hb3 hb13 hbk3 c0 c1 c2 c3 c4 c5 c6
    go_wp2_with fail
    go_at_call 76
    refine (HI5.out _).mono ?_
    rintro en w4 ⟨rfl, m4, rfl⟩
    go_wp2_with fail
    go_at_call 76
    refine (HI6.out _).mono ?_
    rintro en w5 ⟨rfl, m5, rfl⟩
    go_wp2
    go_ret2
    refine ⟨?_, below_drewN H3.out _⟩
    rw [HT.out.1, HT.out.2]
    refine congrArg (fun q => Ending.returned (.tuple #[.string q, .int .i64 0])) (ba_of ?_)
    rw [textR_mark hm]
    simp only [d_app]
    rw [HD.out.1, HD.out.2.2.2.2.1, HD.out.2.2.2.2.2, HD.out.2.2.2.1]
  rcases Bool.eq_false_or_eq_true e.st with hst | hst
  · go_wp2_with fail
    go_at_call 73
    refine (HI3.out _).mono ?_
    rintro en w2 ⟨rfl, rfl⟩
    go_wp2_with fail
    go_at_call 75
    refine (HI4.out _ (below_drewN H1.out.2 _)).mono ?_
    rintro en w3 ⟨rfl, hb3⟩
    have hb13 : Below w1.heap.size w1 w3 := (below_drewN (Below.refl w1.heap.size w1) _).trans (hb3.mono (by simp))
    have hbk3 := (hb13.block g (Array.getElem?_eq_some_iff.1 H1.out.1).1).trans H1.out.1
    have H3 := Lib.hid (H1.out.2.trans (hb13.mono H1.out.2.size))
    have e0 := bk_cell hbk3 0 _ rfl
    clear hb3 hb13 hbk3 c0 c1 c2 c3 c4 c5 c6
    go_wp2_with fail
    go_at_call 76
    refine (HI5.out _).mono ?_
    rintro en w4 ⟨rfl, m4, rfl⟩
    go_wp2_with fail
    go_at_call 76
    refine (HI6.out _).mono ?_
    rintro en w5 ⟨rfl, m5, rfl⟩
    go_wp2
    go_ret2
    refine ⟨?_, below_drewN H3.out _⟩
    rw [HT.out.1, HT.out.2]
    refine congrArg (fun q => Ending.returned (.tuple #[.string q, .int .i64 0])) (ba_of ?_)
    rw [textR_st hm hst]
    simp only [d_app]
    rw [HD.out.1, HD.out.2.1, HD.out.2.2.1, HD.out.2.2.2.2.1, HD.out.2.2.2.2.2, HD.out.2.2.2.1]
  · go_wp2_with fail
    go_at_call 75
    refine (HI4.out _ (below_drewN H1.out.2 _)).mono ?_
    rintro en w3 ⟨rfl, hb3⟩
    have hb13 : Below w1.heap.size w1 w3 := (below_drewN (Below.refl w1.heap.size w1) _).trans (hb3.mono (by simp))
    have hbk3 := (hb13.block g (Array.getElem?_eq_some_iff.1 H1.out.1).1).trans H1.out.1
    have H3 := Lib.hid (H1.out.2.trans (hb13.mono H1.out.2.size))
    have e0 := bk_cell hbk3 0 _ rfl
    clear hb3 hb13 hbk3 c0 c1 c2 c3 c4 c5 c6
    go_wp2_with fail
    go_at_call 76
    refine (HI5.out _).mono ?_
    rintro en w4 ⟨rfl, m4, rfl⟩
    go_wp2_with fail
    go_at_call 76
    refine (HI6.out _).mono ?_
    rintro en w5 ⟨rfl, m5, rfl⟩
    go_wp2
    go_ret2
    refine ⟨?_, below_drewN H3.out _⟩
    rw [HT.out.1, HT.out.2]
    refine congrArg (fun q => Ending.returned (.tuple #[.string q, .int .i64 0])) (ba_of ?_)
    rw [textR_no hm hst]
    simp only [d_app]
    rw [HD.out.1, HD.out.2.1, HD.out.2.2.2.2.1, HD.out.2.2.2.2.2, HD.out.2.2.2.1]
end Go.Proofs.YtdgfldeeflmnmaaGreatDoor.Sk
