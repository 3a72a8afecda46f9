/- Texts of the claim, put together: KTr. -/
import Derived.Test.YtdgfldeeflmnmaaGreatDoorSKJc
import Derived.Laws.AppendOwnNone
import Derived.Test.YtdgfldeeflmnmaaGreatDoorSKTl
namespace Go.Proofs.YtdgfldeeflmnmaaGreatDoor.Sk
open Go Go.RowKit
/-- the slice at a reads as the entries l, of any type -/
structure RdEj (w : World) (a : Option Addr) (l : List SE) : Prop where
  rd : RdF w a (eFlat l)
  lab : ∀ x ∈ l, RdL w x.la x.e.lab
theorem RdEj.below {w w' : World} {a : Option Addr} {l : List SE} (h : RdEj w a l) (hb : Below w.heap.size w w') : RdEj w' a l := ⟨h.rd.below hb, fun x hx => (h.lab x hx).below hb (Nat.le_refl _)⟩
theorem RdEj.at_ {w : World} {a : Option Addr} {l : List SE} (h : RdEj w a l) {k : Nat} {x : SE} (hx : l[k]? = some x) :
    ∃ b off, a = some ⟨b, off, none⟩ ∧ b < w.heap.size ∧ ∀ j u, (eB x)[j]? = some u → w.cell? ⟨b, off + k * 6 + j, none⟩ = some u := by
  obtain ⟨b, off, e, hl, hc⟩ := h.rd (by
    intro e
    have := congrArg List.length e
    rw [eFlat_length] at this
    have := (List.getElem?_eq_some_iff.1 hx).1
    simp at *
    omega)
  refine ⟨b, off, e, hl, fun j u hu => ?_⟩
  rw [Nat.add_assoc]
  exact hc _ _ (flat_at eB 6 (fun _ => rfl) hx hu)
/-- entries whose parts are not longer than this machine's -/
structure EOk (l : List SE) : Prop where
  ln : ∀ x ∈ l, x.e.lab.length ≤ 1000000000
  sz : ∀ x ∈ l, LabZ x.e.lab
/-- an entry of a key as an item -/
def mkI (key : ByteArray) (x : SE) : SI := ⟨key, x.la, x.lc, x.e⟩
theorem mkI_it (key : ByteArray) (x : SE) : (mkI key x).it = toIt key x := rfl
/-- items, and the first k entries behind them -/
def Lk (l : List SI) (key : ByteArray) (es : List SE) (k : Nat) : List SI := l ++ (es.take k).map (mkI key)
theorem Lk_len (l : List SI) (key : ByteArray) (es : List SE) {k : Nat} (hk : k ≤ es.length) : (Lk l key es k).length = l.length + k := by
  unfold Lk
  rw [List.length_append, List.length_map, List.length_take]
  omega
theorem Lk_it (l : List SI) (key : ByteArray) (es : List SE) (k : Nat) : (Lk l key es k).map SI.it = l.map SI.it ++ (es.map (toIt key)).take k := by
  unfold Lk
  rw [List.map_append, List.map_map, ← List.map_take]
  rfl
theorem Lk_snoc (l : List SI) (key : ByteArray) {es : List SE} {k : Nat} {x : SE} (hx : es[k]? = some x) : iFlat (Lk l key es (k + 1)) = iFlat (Lk l key es k) ++ iB (mkI key x) := by
  unfold Lk
  rw [List.take_add_one, hx]
  simp [iFlat]
theorem Lk_all (l : List SI) (key : ByteArray) (es : List SE) : Lk l key es es.length = l ++ es.map (mkI key) := by
  unfold Lk
  rw [List.take_of_length_le (Nat.le_refl _)]
theorem Lk_mem {l : List SI} {key : ByteArray} {es : List SE} {k : Nat} {y : SI} (h : y ∈ Lk l key es k) : y ∈ l ∨ ∃ x ∈ es.take k, y = mkI key x := by
  unfold Lk at h
  rcases List.mem_append.1 h with h | h
  · exact .inl h
  · obtain ⟨x, hx, rfl⟩ := List.mem_map.1 h
    exact .inr ⟨x, hx, rfl⟩
/-- where an own row lies -/
theorem own_type {w : World} {base n cap k size : Nat} {T : TypeId} {a : Option Addr} {xs : List Value} (h : w.ownsRow base T size (.slice a n cap) k xs) : ∀ q, a = some q → isT w q.block T ∧ base ≤ q.block := fun q e => by
  rcases h.2 with ⟨hv, h0⟩ | ⟨g, cap', cur, hv, hb, hg, _⟩
  · rw [e] at hv; cases hv
  · rw [e] at hv; cases hv; exact ⟨isT_of hg, hb⟩
/-- what Append gives: the items then, and the error -/
def RaPost (ai : Option Addr) (l : List SI) (key : ByteArray) (es : List SE) (w : World) (e : Ending) (w' : World) : Prop :=
  ∃ (a : Option Addr) (c : Nat) (l' : List SI), e = .returned (.tuple #[.slice a l'.length c, .int .i64 (appErr (l.map SI.it) (es.map (toIt key)))]) ∧ RdJ w' a l' ∧ l'.length ≤ c ∧ (a = none → c = 0) ∧ (∀ q, a = some q → ∃ b, q = ⟨b, 0, none⟩) ∧ c ≤ 9223372036854775807 ∧
    l' = (if appErr (l.map SI.it) (es.map (toIt key)) = 0 then l ++ es.map (mkI key) else l) ∧ Below w.heap.size w w' ∧ ∀ q, a = some q → ai = some q ∨ (w.heap.size ≤ q.block ∧ q.block < w'.heap.size)
theorem appErr_bad {its m : List It} {k : Nat} {x : It} (hx : m[k]? = some x) (h : itemRight (d x.key) x.e = false) : appErr its m = 380 := by
  unfold appErr
  rw [if_neg]
  intro ha
  have := List.all_eq_true.1 ha x (List.mem_of_getElem? hx)
  rw [h] at this
  cases this
theorem appErr_go {its m : List It} (h : ∀ x ∈ m, itemRight (d x.key) x.e = true) : appErr its m = if appGo (lastOf its) m = 0 then (if 65536 < its.length + m.length then 4 else 0) else appGo (lastOf its) m := by
  unfold appErr
  rw [if_pos (List.all_eq_true.2 h)]
theorem lastOf_snoc' (its : List It) (x : It) : lastOf (its ++ [x]) = know (lastOf its) x := by
  unfold lastOf
  rw [List.foldl_append]
  rfl
theorem iFlat_oneJ {l : List SI} : ∀ u ∈ iFlat l, u.oneCell' = true := by
  intro u hu
  unfold iFlat at hu
  obtain ⟨x, _, h⟩ := List.mem_flatMap.1 hu
  exact iB_one' u h
theorem own_empty (w : World) (T : TypeId) (size : Nat) : (w.alloc (.cells #[] T)).ownsRow w.heap.size T size (.slice (some ⟨w.heap.size, 0, none⟩) 0 0) 0 [] :=
  ⟨by rw [Nat.zero_mul]; rfl, .inr ⟨w.heap.size, 0, #[], rfl, Nat.le_refl _, heap_alloc_new w _, Nat.le_refl _, Nat.zero_le _, by rw [Nat.zero_mul]; rfl, by rw [Nat.zero_mul]; rfl⟩⟩
set_option maxRecDepth 100000 in
set_option maxHeartbeats 8000000 in
theorem rappend_calls (ai : Option Addr) (ci : Nat) (l : List SI) (key : ByteArray) (ae : Option Addr) (ce : Nat) (es : List SE) (w : World) (hl : RdJ w ai l) (he : RdEj w ae es) (hlo : JOk l) (heo : EOk es) (hkey : key.size ≤ 1100000)
    (hr : ∀ y ∈ l, itemRight (d y.key) y.e = true) (hci : l.length ≤ ci) (hnil : ai = none → ci = 0) (hfm : ∀ q, ai = some q → ∃ b, q = ⟨b, 0, none⟩) (hcm : ci ≤ 9223372036854775807) (hn : l.length + es.length ≤ 1000000) :
    Calls Tryz.prog 66 #[.slice ai l.length ci, .string key, .slice ae es.length ce] w (RaPost ai l key es w) := by
  have HR := Lib.hid (And.intro hl (And.intro he (And.intro hlo (And.intro heo hr))))
  have HNI := Lib.hid (And.intro hci (And.intro hnil (And.intro hfm hcm)))
  clear hl he hlo heo hr hnil hfm
  go_enter Tryz.func66, Tryz.ntmps66
  go_wp2_with fail
  go_loopw [8] (fun i wr => ∃ k : Nat, k ≤ es.length ∧ i = .int .i64 k ∧ (∀ x ∈ es.take k, itemRight (d key) x.e = true) ∧ Below w.heap.size w wr) (fun i _ => es.length - (intOf i).toNat)
  case atStart => exact ⟨0, Nat.zero_le _, rfl, (fun x hx => by cases hx), Below.refl _ _⟩
  case round =>
    obtain ⟨k, hk, rfl, hall, hb⟩ := hrel
    obtain ⟨w1, hw1⟩ : ∃ q, q = wr := ⟨_, rfl⟩
    subst hw1
    have H1 := Lib.hid (And.intro hall hb)
    clear hall hb
    by_cases hlt : k < es.length
    · obtain ⟨x, hx⟩ : ∃ x, es[k]? = some x := ⟨_, List.getElem?_eq_getElem hlt⟩
      have hxm := List.mem_of_getElem? hx
      obtain ⟨b, off, rfl, hbl, hc⟩ := (HR.out.2.1.below H1.out.2).at_ hx
      have c0 := hc 0 _ rfl
      rw [Nat.add_zero] at c0
      have c1 := hc 1 _ rfl
      have c2 := hc 2 _ rfl
      have c3 := hc 3 _ rfl
      have c4 := hc 4 _ rfl
      have c5 := hc 5 _ rfl
      have HX := Lib.hid (And.intro hx hxm)
      clear hc hx hxm
      go_wp2_with fail
      go_at_call 71
      refine (rr38_calls key x.la x.lc x.e w1 hkey ((HR.out.2.1.lab x HX.out.2).below H1.out.2 (Nat.le_refl _)) (HR.out.2.2.2.1.ln x HX.out.2) (HR.out.2.2.2.1.sz x HX.out.2)).mono ?_
      rintro e w2 ⟨rfl, hb2⟩
      have H2 := Lib.hid (Bthen H1.out.2 hb2)
      clear hb2 c0 c1 c2 c3 c4 c5
      cases hir : itemRight (d key) x.e with
      | false =>
        have HE : Hid (appErr (l.map SI.it) (es.map (toIt key)) = 380) := Lib.hid (appErr_bad (k := k) (x := toIt key x) (by rw [List.getElem?_map, HX.out.1]; rfl) hir)
        clear hir
        go_wp2_with fail
        go_ret2
        exact ⟨ai, ci, l, by rw [HE.out]; rfl, HR.out.1.below H2.out, HNI.out.1, HNI.out.2.1, HNI.out.2.2.1, HNI.out.2.2.2, by rw [HE.out]; rfl, H2.out, fun _ e => .inl e⟩
      | true =>
        have HI := Lib.hid hir
        clear hir
        go_wp2_with fail
        go_roundw
        case rel =>
          refine ⟨k + 1, by omega, by go_num, fun y hy => ?_, H2.out⟩
          rw [List.take_add_one, HX.out.1] at hy
          rcases List.mem_append.1 hy with h | h
          · exact H1.out.1 y h
          · rw [List.mem_singleton.1 h]; exact HI.out
        case measure => simp [intOf]; omega
    · obtain rfl : k = es.length := by omega
      have hall := H1.out.1
      rw [List.take_of_length_le (Nat.le_refl _)] at hall
      have HA := Lib.hid hall
      have HB1 := Lib.hid H1.out.2
      have hsz1 := H1.out.2.size
      clear hall H1
      go_upto_region 6 with fail
      go_cut [9] (fun s9 wx => ∃ a c, s9 = .slice a l.length c ∧ wx.ownsRow w.heap.size 70 7 (.slice a l.length c) l.length (iFlat l) ∧ Below w.heap.size w wx)
      case first =>
        have HB2 : Hid (Below w.heap.size w (w1.alloc (.cells #[] 70))) := Lib.hid (HB1.out.alloc hsz1 _)
        have HOW : Hid ((w1.alloc (.cells #[] 70)).ownsRow w.heap.size 70 7 (.slice (some ⟨w1.heap.size, 0, none⟩) 0 0) 0 []) := Lib.hid (own_weak (own_empty w1 _ _) hsz1)
        cases ai with
        | none =>
          have hl0 : l = [] := by
            have h1 := HNI.out.2.1 rfl
            have h2 := HNI.out.1
            exact List.eq_nil_of_length_eq_zero (by omega)
          have hc0 := HNI.out.2.1 rfl
          subst hl0
          subst hc0
          obtain ⟨i0, hi0, hz0, hz1, hz2⟩ := info_parts Tryz.info70
          have HI0 := Lib.hid hi0
          clear hi0 hz0 hz1 hz2
          go_wp2_with (at_builtin; refine wpList_append_own_none rfl _ _ 125 rfl w.heap.size 70 i0 7 Tryz.underlying125 HI0.out _ 0 [] rfl HOW.out rfl ?_)
          go_meet
          exact ⟨_, _, rfl, HOW.out, HB2.out⟩
        | some ad =>
          have hnews : ∀ j u, (iFlat l)[j]? = some u → (w1.alloc (.cells #[] 70)).cell? (ad.add j) = some u := fun j u hu => by
            obtain ⟨b, off, e, hbl, hc⟩ := (HR.out.1.below HB2.out).rd (by intro e; rw [e] at hu; cases hu)
            cases e
            rw [Addr.add_lit]
            exact hc j u hu
          have HN := Lib.hid hnews
          clear hnews
          go_wp2_with (at_builtin; refine wpList_app rfl _ _ 125 70 7 80 _ rfl Tryz.underlying125 Tryz.info70 rfl (by decide) (by decide) w.heap.size _ 0 [] rfl HOW.out ad l.length ci (iFlat l) rfl (iFlat_length l) HN.out iFlat_oneJ (by omega) (by simp; omega) ?_; intro v4 w4 hown4 _ _ hbel4; have H4 := Lib.hid (And.intro hown4 (hbel4 _ HB2.out)); clear hown4 hbel4)
          go_meet
          have hown := H4.out.1
          rw [List.nil_append, Nat.zero_add] at hown
          obtain ⟨a9, c9, e9⟩ := own_form hown
          rw [e9] at hown ⊢
          exact ⟨a9, c9, rfl, hown, H4.out.2⟩
      case rest =>
      obtain ⟨w3, hw3⟩ : ∃ q, q = wc := ⟨_, rfl⟩
      subst hw3
      obtain ⟨a9, c9, h9, hown9, hb9⟩ := hcut
      subst h9
      have H9 := Lib.hid (And.intro hown9 hb9)
      have hs9 := hb9.size
      clear hown9 hb9 HB1 hsz1
      go_wp2_with fail
      go_loopw [9, 10] (fun out i wr => ∃ k : Nat, k ≤ es.length ∧ i = .int .i64 k ∧ wr.ownsRow w.heap.size 70 7 out (l.length + k) (iFlat (Lk l key es k)) ∧ appGo (lastOf (l.map SI.it)) (es.map (toIt key)) = appGo (lastOf ((Lk l key es k).map SI.it)) ((es.map (toIt key)).drop k) ∧ Below w.heap.size w wr) (fun _ i _ => es.length - (intOf i).toNat)
      case atStart =>
        refine ⟨0, Nat.zero_le _, rfl, ?_, ?_, H9.out.2⟩
        · have : Lk l key es 0 = l := by unfold Lk; simp
          rw [this]
          exact H9.out.1
        · have : Lk l key es 0 = l := by unfold Lk; simp
          rw [this]
          rfl
      case round =>
        obtain ⟨k, hk, rfl, hown, hgo, hb⟩ := hrel
        obtain ⟨w4, hw4⟩ : ∃ q, q = wr := ⟨_, rfl⟩
        subst hw4
        obtain ⟨ao, co, rfl⟩ := own_form hown
        have hs4 := hb.size
        have hll := Lk_len l key es hk
        have H4 := Lib.hid (And.intro hown (And.intro hgo hb))
        have hrl : ∀ y ∈ Lk l key es k, itemRight (d y.key) y.e = true := fun y hy => by
          rcases Lk_mem hy with h | ⟨z, hz, rfl⟩
          · exact HR.out.2.2.2.2 y h
          · exact HA.out z (List.mem_of_mem_take hz)
        have hjo : JOk (Lk l key es k) := by
          refine ⟨fun y hy => ?_, fun y hy => ?_, fun y hy => ?_⟩
          · rcases Lk_mem hy with h | ⟨z, hz, rfl⟩
            · exact HR.out.2.2.1.ky y h
            · exact hkey
          · rcases Lk_mem hy with h | ⟨z, hz, rfl⟩
            · exact HR.out.2.2.1.ln y h
            · exact HR.out.2.2.2.1.ln z (List.mem_of_mem_take hz)
          · rcases Lk_mem hy with h | ⟨z, hz, rfl⟩
            · exact HR.out.2.2.1.sz y h
            · exact HR.out.2.2.2.1.sz z (List.mem_of_mem_take hz)
        have hrj : RdJ w4 ao (Lk l key es k) := by
          refine RdJ.own hown (fun y hy => ?_)
          rcases Lk_mem hy with h | ⟨z, hz, rfl⟩
          · exact (HR.out.1.lab y h).below hb (Nat.le_refl _)
          · exact (HR.out.2.1.lab z (List.mem_of_mem_take hz)).below hb (Nat.le_refl _)
        have hcap : l.length + k ≤ co := by
          rcases hown.2 with ⟨hv, h0⟩ | ⟨g, cap', cur, hv, _, _, h1, _⟩
          · omega
          · cases hv; exact h1
        have hnil4 : ao = none → co = 0 := fun e => by
          rcases hown.2 with ⟨hv, h0⟩ | ⟨g, cap', cur, hv, _, _, h1, _⟩
          · injection hv
          · rw [e] at hv; cases hv
        have hfm4 : ∀ q, ao = some q → ∃ b, q = ⟨b, 0, none⟩ := fun q e => by
          rcases hown.2 with ⟨hv, h0⟩ | ⟨g, cap', cur, hv, _⟩
          · rw [e] at hv; cases hv
          · rw [e] at hv; cases hv
            exact ⟨g, rfl⟩
        have hcm4 : co ≤ 9223372036854775807 := by
          rcases hown.2 with ⟨hv, h0⟩ | ⟨g, cap', cur, hv, _, _, _, h2, _⟩
          · injection hv with _ _ h3
            omega
          · cases hv
            exact h2
        have HJ := Lib.hid (And.intro hrl (And.intro hjo (And.intro hrj (And.intro hcap (And.intro hnil4 (And.intro hfm4 hcm4))))))
        clear hown hgo hb hrl hjo hrj hcap hnil4 hfm4 hcm4
        by_cases hlt : k < es.length
        · obtain ⟨x, hx⟩ : ∃ x, es[k]? = some x := ⟨_, List.getElem?_eq_getElem hlt⟩
          have hxm := List.mem_of_getElem? hx
          obtain ⟨b, off, rfl, hbl, hc⟩ := (HR.out.2.1.below H4.out.2.2).at_ hx
          have c0 := hc 0 _ rfl
          rw [Nat.add_zero] at c0
          have c1 := hc 1 _ rfl
          have c2 := hc 2 _ rfl
          have c3 := hc 3 _ rfl
          have c4 := hc 4 _ rfl
          have c5 := hc 5 _ rfl
          have HX := Lib.hid (And.intro hx (And.intro hxm hc))
          obtain ⟨er, her⟩ : ∃ er, er = fol (lastOf ((Lk l key es k).map SI.it)) (toIt key x) := ⟨_, rfl⟩
          have hcall := rbreaks_calls ao co (Lk l key es k) (mkI key x) w4 HJ.out.2.2.1 ((HR.out.2.1.lab x hxm).below H4.out.2.2 (Nat.le_refl _)) HJ.out.2.1 ⟨HR.out.2.2.2.1.ln x hxm, HR.out.2.2.2.1.sz x hxm⟩ HJ.out.1 (HA.out x hxm) (by omega)
          rw [hll, mkI_it] at hcall
          unfold BrPost at hcall
          rw [← her] at hcall
          have HER := Lib.hid her
          clear hc hx hxm her
          go_wp2_with fail
          go_at_call 107
          refine hcall.mono ?_
          clear hcall
          rintro e w5 ⟨rfl, hb5⟩
          have hgo' : appGo (lastOf (l.map SI.it)) (es.map (toIt key)) = if er = 0 then appGo (lastOf ((Lk l key es (k + 1)).map SI.it)) ((es.map (toIt key)).drop (k + 1)) else er := by
            have hxm : (es.map (toIt key))[k]? = some (toIt key x) := by rw [List.getElem?_map, HX.out.1]; rfl
            rw [H4.out.2.1, appGo_at hxm, ← HER.out]
            have : (Lk l key es (k + 1)).map SI.it = (Lk l key es k).map SI.it ++ [toIt key x] := by
              rw [Lk_it, Lk_it, List.take_add_one, hxm, ← List.append_assoc]
              rfl
            rw [this, lastOf_snoc']
          have H5 := Lib.hid (And.intro (own_fr H4.out.1 (Fr.of_below hb5) (fun b hb hx => by have h1 := (own_isT H4.out.1 hb).lt; have hx : w4.heap.size ≤ b := hx; omega)) (And.intro (Bthen H4.out.2.2 hb5) hgo'))
          have hbl5 : b < w5.heap.size := Nat.lt_of_lt_of_le hbl hb5.size
          have hcl : ∀ o v, w4.cell? ⟨b, o, none⟩ = some v → w5.cell? ⟨b, o, none⟩ = some v := fun o v h => (hb5.cell (p := ⟨b, o, none⟩) hbl).trans h
          have d0 := hcl _ _ c0
          have d1 := hcl _ _ c1
          have d2 := hcl _ _ c2
          have d3 := hcl _ _ c3
          have d4 := hcl _ _ c4
          have d5 := hcl _ _ c5
          have hs5 := (Bthen H4.out.2.2 hb5).size
          clear hb5 hgo' hcl c0 c1 c2 c3 c4 c5
          rcases (show (er != 0) = true ∨ (er != 0) = false by cases (er != 0) <;> simp) with he0 | he0
          · have hne : er ≠ 0 := by simpa using he0
            have HE : Hid (appErr (l.map SI.it) (es.map (toIt key)) = er) := Lib.hid (by
              rw [appErr_go (fun y hy => by obtain ⟨z, hz, rfl⟩ := List.mem_map.1 hy; exact HA.out z hz), H5.out.2.2, if_neg hne, if_neg hne])
            have HNE := Lib.hid hne
            clear hne
            go_wp2_with fail
            go_ret2
            exact ⟨ai, ci, l, by rw [HE.out]; rfl, HR.out.1.below H5.out.2.1, HNI.out.1, HNI.out.2.1, HNI.out.2.2.1, HNI.out.2.2.2, by rw [HE.out, if_neg HNE.out], H5.out.2.1, fun _ e => .inl e⟩
          · have HZ : Hid (er = 0) := Lib.hid (by simpa using he0)
            go_wp2_with (at_builtin; refine wpList_app rfl _ _ 125 70 7 80 _ rfl Tryz.underlying125 Tryz.info70 rfl (by decide) (by decide) w.heap.size _ (l.length + k) (iFlat (Lk l key es k)) rfl (H5.out.1.alloc _) ⟨w5.heap.size, 0, none⟩ 1 1 (iB (mkI key x)) rfl rfl (cells_new w5 #[.string key, .slice x.la x.e.lab.length x.lc, .bool x.e.mark, .int .u64 x.e.bits, .bool x.e.st, .int .i64 x.e.time, .int .i64 x.e.stamp] _ _ rfl) iB_one' (by omega) (by simp; omega) ?_; intro v6 w6 hown6 _ _ hbel6; have H6 := Lib.hid (And.intro hown6 (hbel6 _ (H5.out.2.1.alloc hs5 _))); clear hown6 hbel6)
            go_roundw
            case rel =>
              refine ⟨k + 1, by omega, by go_num, by rw [Lk_snoc l key HX.out.1]; exact H6.out.1, ?_, H6.out.2⟩
              rw [H5.out.2.2, if_pos HZ.out]
            case measure => simp [intOf]; omega
        · obtain rfl : k = es.length := by omega
          have HG : Hid (appErr (l.map SI.it) (es.map (toIt key)) = if 65536 < l.length + es.length then 4 else 0) := Lib.hid (by
            have hg : appGo (lastOf (l.map SI.it)) (es.map (toIt key)) = 0 := by
              rw [H4.out.2.1, List.drop_of_length_le (by simp)]
              rfl
            rw [appErr_go (fun y hy => by obtain ⟨z, hz, rfl⟩ := List.mem_map.1 hy; exact HA.out z hz), hg, if_pos rfl, List.length_map, List.length_map])
          by_cases hbig : 65536 < l.length + es.length
          · have HE : Hid (appErr (l.map SI.it) (es.map (toIt key)) = 4) := Lib.hid (by rw [HG.out, if_pos hbig])
            clear HG
            go_wp2_with fail
            go_ret2
            exact ⟨ai, ci, l, by rw [HE.out]; rfl, HR.out.1.below H4.out.2.2, HNI.out.1, HNI.out.2.1, HNI.out.2.2.1, HNI.out.2.2.2, by rw [HE.out]; rfl, H4.out.2.2, fun _ e => .inl e⟩
          · have HE : Hid (appErr (l.map SI.it) (es.map (toIt key)) = 0) := Lib.hid (by rw [HG.out, if_neg hbig])
            have HLL := Lib.hid hll
            clear HG hll
            go_wp2_with fail
            go_ret2
            refine ⟨ao, co, Lk l key es es.length, by rw [HE.out, HLL.out]; rfl, HJ.out.2.2.1, by rw [HLL.out]; exact HJ.out.2.2.2.1, HJ.out.2.2.2.2.1, HJ.out.2.2.2.2.2.1, HJ.out.2.2.2.2.2.2, by rw [HE.out, if_pos rfl, Lk_all], H4.out.2.2, fun q e => .inr ⟨(own_type H4.out.1 q e).2, (own_type H4.out.1 q e).1.lt⟩⟩
end Go.Proofs.YtdgfldeeflmnmaaGreatDoor.Sk
namespace Go.Proofs.YtdgfldeeflmnmaaGreatDoor.Sk
open Go Go.RowKit
theorem Tryz.info68 : (Tryz.prog.info? 68).map (fun i => (i.zero, i.size, i.bytes)) = some (some (.agg #[.slice none 0 0, .bool false, .int .u64 0, .bool false, .int .i64 0, .int .i64 0]), 6, 64) := by kernel_rfl
def mkE (x : SI) : SE := ⟨x.la, x.lc, x.e⟩
/-- the entries of a key -/
def ownX (K : ByteArray) (l : List SI) : List SE := (l.filter fun x => decide (x.key = K)).map mkE
theorem ownX_yes {K : ByteArray} {l : List SI} {x : SI} {k : Nat} (hx : l[k]? = some x) (h : x.key = K) : ownX K (l.take (k + 1)) = ownX K (l.take k) ++ [mkE x] := by
  unfold ownX
  rw [List.take_add_one, hx]
  simp [h]
theorem ownX_no {K : ByteArray} {l : List SI} {x : SI} {k : Nat} (hx : l[k]? = some x) (h : x.key ≠ K) : ownX K (l.take (k + 1)) = ownX K (l.take k) := by
  unfold ownX
  rw [List.take_add_one, hx]
  simp [h]
theorem ownX_len (K : ByteArray) (l : List SI) : (ownX K l).length ≤ l.length := by
  unfold ownX
  rw [List.length_map]
  exact List.length_filter_le _ _
theorem ownX_e (K : ByteArray) (l : List SI) : (ownX K l).map SE.e = ownE K (l.map SI.it) := by
  unfold ownX ownE ownL
  rw [List.filter_map, List.map_map, List.map_map]
  rfl
theorem ownX_mem {K : ByteArray} {l : List SI} {x : SE} (h : x ∈ ownX K l) : ∃ y ∈ l, x = mkE y := by
  unfold ownX at h
  obtain ⟨y, hy, rfl⟩ := List.mem_map.1 h
  exact ⟨y, (List.mem_filter.1 hy).1, rfl⟩
theorem eFlat_snoc (l : List SE) (x : SE) : eFlat (l ++ [x]) = eFlat l ++ eB x := by simp [eFlat]
theorem eB_oneJ {x : SE} : ∀ u ∈ eB x, u.oneCell' = true := by
  intro u hu
  unfold eB at hu
  simp only [List.mem_cons, List.not_mem_nil, or_false] at hu
  rcases hu with rfl | rfl | rfl | rfl | rfl | rfl <;> rfl
theorem RdEj.own {w : World} {base n cap k : Nat} {a : Option Addr} {l : List SE} {T : TypeId} (h : w.ownsRow base T 6 (.slice a n cap) k (eFlat l)) (hl : ∀ x ∈ l, RdL w x.la x.e.lab) : RdEj w a l := by
  refine ⟨fun hx => ?_, hl⟩
  obtain ⟨g, e, _, ht, hc⟩ := own_at0 h hx
  exact ⟨g, 0, e, ht.lt, fun j u hu => by rw [Nat.zero_add]; exact hc j u hu⟩
/-- what the reference's Of gives -/
def RoPost (K : ByteArray) (l : List SI) (w : World) (e : Ending) (w' : World) : Prop :=
  ∃ a c, e = .returned (.slice a (ownX K l).length c) ∧ RdEj w' a (ownX K l) ∧ Below w.heap.size w w'
set_option maxRecDepth 100000 in
set_option maxHeartbeats 4000000 in
theorem rof_calls (a : Option Addr) (c : Nat) (l : List SI) (K : ByteArray) (w : World) (hl : RdJ w a l) (hn : l.length ≤ 1000000) :
    Calls Tryz.prog 110 #[.slice a l.length c, .string K] w (RoPost K l w) := by
  have HR := Lib.hid hl
  clear hl
  go_enter Tryz.func110, Tryz.ntmps110
  go_wp2_with fail
  go_loopw [5, 6] (fun out i wr => ∃ k : Nat, k ≤ l.length ∧ i = .int .i64 k ∧ wr.ownsRow w.heap.size 68 6 out (ownX K (l.take k)).length (eFlat (ownX K (l.take k))) ∧ Below w.heap.size w wr) (fun _ i _ => l.length - (intOf i).toNat)
  case atStart => exact ⟨0, Nat.zero_le _, rfl, World.ownsRow_nil _ _ _ _, Below.refl _ _⟩
  case round =>
    obtain ⟨k, hk, rfl, hown, hb⟩ := hrel
    obtain ⟨w1, hw1⟩ : ∃ q, q = wr := ⟨_, rfl⟩
    subst hw1
    have hbs := hb.size
    have hol : (ownX K (l.take k)).length ≤ k := Nat.le_trans (ownX_len _ _) (by rw [List.length_take]; omega)
    have H1 := Lib.hid (And.intro hown hb)
    clear hown hb
    by_cases hlt : k < l.length
    · obtain ⟨x, hx⟩ : ∃ x, l[k]? = some x := ⟨_, List.getElem?_eq_getElem hlt⟩
      obtain ⟨b, off, rfl, hbl, hc⟩ := (HR.out.below H1.out.2).at_ hx
      have c0 := hc 0 _ rfl
      rw [Nat.add_zero] at c0
      have c1 := hc 1 _ rfl
      have c2 := hc 2 _ rfl
      have c3 := hc 3 _ rfl
      have c4 := hc 4 _ rfl
      have c5 := hc 5 _ rfl
      have c6 := hc 6 _ rfl
      have HX := Lib.hid hx
      clear hc hx
      by_cases hkey : x.key = K
      · have hq : (x.key.toList == K.toList) = true := by rw [hkey]; simp
        have HY := Lib.hid (ownX_yes HX.out hkey)
        clear hkey
        go_wp2_with (at_builtin; refine wpList_app rfl _ _ 127 68 6 64 _ rfl Tryz.underlying127 Tryz.info68 rfl (by decide) (by decide) w.heap.size _ (ownX K (l.take k)).length (eFlat (ownX K (l.take k))) rfl (H1.out.1.alloc _) ⟨w1.heap.size, 0, none⟩ 1 1 (eB (mkE x)) rfl rfl (cells_new w1 #[.slice x.la x.e.lab.length x.lc, .bool x.e.mark, .int .u64 x.e.bits, .bool x.e.st, .int .i64 x.e.time, .int .i64 x.e.stamp] _ _ rfl) eB_oneJ (by omega) (by simp; omega) ?_; intro v4 w4 hown4 _ _ hbel4; have H4 := Lib.hid (And.intro hown4 (hbel4 _ (H1.out.2.alloc hbs _))); clear hown4 hbel4)
        go_roundw
        case rel => exact ⟨k + 1, by omega, by go_num, by rw [HY.out, eFlat_snoc, List.length_append]; exact H4.out.1, H4.out.2⟩
        case measure => simp [intOf]; omega
      · have hq : (x.key.toList == K.toList) = false := ba_ne hkey
        have HY := Lib.hid (ownX_no HX.out hkey)
        clear hkey
        go_wp2_with fail
        go_roundw
        case rel => exact ⟨k + 1, by omega, by go_num, by rw [HY.out]; exact H1.out.1, H1.out.2⟩
        case measure => simp [intOf]; omega
    · obtain rfl : k = l.length := by omega
      obtain ⟨ao, co, rfl⟩ := own_form H1.out.1
      have hown := H1.out.1
      rw [List.take_of_length_le (Nat.le_refl _)] at hown ⊢
      have H2 := Lib.hid (And.intro hown H1.out.2)
      clear hown H1
      go_wp2_with fail
      go_ret
      exact ⟨ao, co, rfl, RdEj.own H2.out.1 (fun x hx => by obtain ⟨y, hy, rfl⟩ := ownX_mem hx; exact (HR.out.lab y hy).below H2.out.2 (Nat.le_refl _)), H2.out.2⟩
end Go.Proofs.YtdgfldeeflmnmaaGreatDoor.Sk
