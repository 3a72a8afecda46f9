/- Texts of the claim, put together: KqO. -/
import Derived.Test.YtdgfldeeflmnmaaGreatDoorSKqB
import Derived.Test.YtdgfldeeflmnmaaGreatDoorSKqT
import Derived.Test.YtdgfldeeflmnmaaGreatDoorSKTl
namespace Go.Proofs.YtdgfldeeflmnmaaGreatDoor.Sk
open Go Go.RowKit Go.ChangeShapes Go.WideShapes Go.ChangeMaps Go.MapKept
theorem infoLs : (Tryz.prog.info? 31).map (fun i => (i.zero, i.size, i.bytes)) = some (some (.slice none 0 0), 1, 24) := by kernel_rfl
/-- what is known comes of labels that are right -/
def LabsOf (f : Line → Last) : Prop := ∀ q v, f q = some v → ∃ l, labRight l = true ∧ q.2 = bytesS l
theorem labsOf_last {l : List It} (h : ∀ x ∈ l, itemRight (d x.key) x.e = true) : LabsOf (lastOf l) := by
  intro q v hq
  obtain ⟨x, hx, e, _⟩ := last_item l q v hq
  exact ⟨x.e.lab, right_lab (h x hx), by rw [← e]; rfl⟩
def OpenPost (f : Line → Last) (key : B) (w : World) (e : Ending) (w' : World) : Prop :=
  ∃ a c ls, e = .returned (.slice a (List.length ls) c) ∧ OpenAre f key (ls.map fun x : LL => bytesS x.lab) ∧ (∀ x ∈ ls, labRight x.lab = true) ∧ ls.length ≤ 131072 ∧ RdLL w' a ls ∧ (∀ x ∈ ls, LZ w.heap.size w' x.la x.lc) ∧ (∀ q, a = some q → w.heap.size ≤ q.block ∧ isT w' q.block 31) ∧ Below w.heap.size w w'
def OInv1 (b n : Nat) (f : Line → Last) (key : B) (D : DataW Unit) (w : World) (out : Value) (wr : World) : Prop :=
  ∃ (left : Lit → Bool) (cnt : Nat) (ss : List B), wr.ranges Tryz.prog 96 lastOfV b w.heap.size n D left cnt ∧ ss.length + cnt ≤ Maps.size D ∧ wr.ownsRow (w.heap.size + 1) 9 1 out ss.length (strF ss) ∧ ss.Nodup ∧ (∀ b', b' ∈ ss ↔ fits (key, b') ∧ (∃ s, f (key, b') = some (s, false)) ∧ left (kl (key, b')) = false) ∧ Below w.heap.size w wr
def OInv2 (w : World) (aS : Option Addr) (S : List B) (out i : Value) (wr : World) : Prop :=
  ∃ (k : Nat) (ls : List LL), k ≤ S.length ∧ i = .int .i64 k ∧ ls.map (fun x : LL => bytesS x.lab) = S.take k ∧ (∀ x ∈ ls, labRight x.lab = true ∧ LlF w.heap.size wr x.la x.lc x.lab) ∧ wr.ownsRow w.heap.size 31 1 out ls.length (ls.map llB) ∧ RdF wr aS (strF S) ∧ (∀ q, aS = some q → isT wr q.block 9) ∧ Below w.heap.size w wr
theorem open_mem_yes {f : Line → Last} {key : B} {left left' : Lit → Bool} {ss : List B} {b : B} {s : Int} (h : ∀ b', b' ∈ ss ↔ fits (key, b') ∧ (∃ s, f (key, b') = some (s, false)) ∧ left (kl (key, b')) = false) (hf : fits (key, b)) (hs : f (key, b) = some (s, false))
    (h1 : left' (kl (key, b)) = false) (h2 : ∀ q, fits q → q ≠ (key, b) → left' (kl q) = left (kl q)) : ∀ b', b' ∈ ss ++ [b] ↔ fits (key, b') ∧ (∃ s, f (key, b') = some (s, false)) ∧ left' (kl (key, b')) = false := by
  intro x
  rw [List.mem_append, h x, List.mem_singleton]
  constructor
  · rintro (⟨e1, e2, e3⟩ | rfl)
    · by_cases e : (key, x) = (key, b)
      · exact ⟨e1, e2, by rw [e]; exact h1⟩
      · exact ⟨e1, e2, by rw [h2 _ e1 e]; exact e3⟩
    · exact ⟨hf, ⟨s, hs⟩, h1⟩
  · rintro ⟨e1, e2, e3⟩
    by_cases e : (key, x) = (key, b)
    · exact .inr (by injection e)
    · exact .inl ⟨e1, e2, by rw [← h2 _ e1 e]; exact e3⟩
theorem open_mem_no {f : Line → Last} {key : B} {left left' : Lit → Bool} {ss : List B} {k : Line} {v : Int × Bool} (h : ∀ b', b' ∈ ss ↔ fits (key, b') ∧ (∃ s, f (key, b') = some (s, false)) ∧ left (kl (key, b')) = false) (hs : f k = some v) (hn : ¬ (k.1 = key ∧ v.2 = false))
    (h2 : ∀ q, fits q → q ≠ k → left' (kl q) = left (kl q)) : ∀ b', b' ∈ ss ↔ fits (key, b') ∧ (∃ s, f (key, b') = some (s, false)) ∧ left' (kl (key, b')) = false := by
  intro x
  rw [h x]
  have hne : ∀ s, f (key, x) = some (s, false) → (key, x) ≠ k := fun s hs' e => by
    rw [e, hs] at hs'
    cases hs'
    exact hn ⟨by rw [← e], rfl⟩
  constructor
  · rintro ⟨e1, ⟨s, e2⟩, e3⟩
    exact ⟨e1, ⟨s, e2⟩, by rw [h2 _ e1 (hne s e2)]; exact e3⟩
  · rintro ⟨e1, ⟨s, e2⟩, e3⟩
    exact ⟨e1, ⟨s, e2⟩, by rw [← h2 _ e1 (hne s e2)]; exact e3⟩
set_option maxRecDepth 100000 in
set_option maxHeartbeats 4000000 in
theorem open_calls (key : ByteArray) (_hkey : key.size ≤ 1100000) (w : World) (hv : Kv w) {p base mb n : Nat} {v : Value} {l : List SI} (h : SinkAt w p base mb n v l) :
    Calls Tryz.prog 79 #[.pointer (some ⟨p, 0, none⟩), .string key] w (OpenPost (lastOf (l.map SI.it)) (d key) w) := by
  have c1 : w.cell? ⟨p, 1, none⟩ = some (.map (some mb)) := by simp [World.cell?, h.cells]
  have hle := h.le
  have hlen := h.len
  have hlab : LabsOf (lastOf (l.map SI.it)) := labsOf_last (fun x hx => by obtain ⟨y, hy, rfl⟩ := List.mem_map.1 hx; exact (h.ok y hy).1)
  obtain ⟨f, hf⟩ : ∃ f, f = lastOf (l.map SI.it) := ⟨_, rfl⟩
  obtain ⟨D, hown, ht⟩ := h.map
  rw [← hf] at ht hlab ⊢
  have hsz := hown.size_le
  have hlt := hown.lt
  have HT : Hid (Tells D f) := Lib.hid ht
  have HL := Lib.hid (And.intro hlab hv)
  clear ht hf h hlab hv
  go_enter Tryz.func79, Tryz.ntmps79
  go_wp2_with fail
  go_at_call 39
  refine (none_cell _ (mb := mb) c1).mono ?_
  rintro e w1 ⟨rfl, rfl⟩
  go_wp2_with (at_range; refine wpList_range_own _ rfl _ 74 rfl 96 93 lineLaw Tryz.underlying74 _ mb n D rfl hown ?_; intro w0 hrg0 hg0 hs0)
  have hbl0 : Below w.heap.size w w0 := (fr_grown (X := fun _ => False) hg0 (fun k hk => by cases hk)).below (fun _ _ h => h) (Nat.le_refl _)
  go_frame
  go_loopw [5] (fun out wr => OInv1 mb n f (d key) D w out wr) (fun _ wr => wr.rangeLeft mb w.heap.size)
  case atStart =>
    refine ⟨_, _, [], hrg0, by simp, World.ownsRow_nil _ _ _ _, List.nodup_nil, fun x => ⟨(fun h => by cases h), ?_⟩, hbl0⟩
    rintro ⟨h1, ⟨s, h2⟩, h3⟩
    rw [(HT.out _ h1).1, h2] at h3
    cases h3
  case round =>
    obtain ⟨left, cnt, ss, hrg, hcs, hown5, hnd, hmem, hb⟩ := hrel
    have hbs := hb.size
    have hssl : ss.length ≤ 131072 := by omega
    have HB := Lib.hid (And.intro hb (And.intro hown5 (And.intro hmem hnd)))
    clear hb hown5 hmem hbl0 hnd
    go_wp2_with (at_next; refine wpList_next_ranges _ rfl _ rfl 96 lineLaw lastOfV (fun p : Ln => .agg #[.string p.a, .string p.b]) (fun c : Ls => .agg #[.int .i64 c.s, .bool c.m]) (fun key kl hk => by obtain ⟨a, b, rfl, _⟩ := keyOf_line_inv hk; exact ⟨⟨a, b⟩, rfl⟩) (fun v y hv => by obtain ⟨s, m, rfl, _⟩ := lastOfV_some hv; exact ⟨⟨s, m⟩, rfl⟩) mb w.heap.size n D left cnt rfl hrg ?_ ?_)
    · intro hc0 hl0
      obtain ⟨aS, cS, rfl⟩ := own_form HB.out.2.1
      have hmem2 : ∀ b', b' ∈ ss ↔ fits (d key, b') ∧ ∃ s, f (d key, b') = some (s, false) := fun x => by
        rw [HB.out.2.2.1 x]
        constructor
        · rintro ⟨h1, h2, _⟩; exact ⟨h1, h2⟩
        · rintro ⟨h1, h2⟩; exact ⟨h1, h2, hl0 _⟩
      have HM := Lib.hid hmem2
      obtain ⟨w3, hw3⟩ : ∃ q, q = wr := ⟨_, rfl⟩
      subst hw3
      clear hmem2 hl0 hc0 hrg
      go_wp2_with fail
      go_at_call 126
      refine (sortS_calls (w.heap.size + 1) cS 9 aS ss w3 HB.out.2.1 (by omega)).mono ?_
      rintro e w4 ⟨rfl, hown4, hf4⟩
      have hb4 : Below w.heap.size w w4 := HB.out.1.trans (hf4.below (B := w.heap.size) (fun k hk e => by have := own_base HB.out.2.1 e; omega) hbs)
      have hsl := sortS_len ss
      have hoa : OpenAre f (d key) (ss.mergeSort leS) := ⟨sortS_strict HB.out.2.2.2, fun b => by rw [sortS_mem, HM.out b]; rfl⟩
      obtain ⟨ts, hts⟩ : ∃ ts, ts = ss.mergeSort leS := ⟨_, rfl⟩
      rw [← hts] at hsl hown4 hoa
      have htl : ∀ b ∈ ts, ∃ l, labRight l = true ∧ b = bytesS l := fun b hb => by
        obtain ⟨_, s, hs⟩ := (hoa.mem b).1 hb
        exact HL.out.1 _ _ hs
      have hit4 : ∀ q, aS = some q → isT w4 q.block 9 := fun q hq => by subst hq; exact own_isT hown4 rfl
      have HO4 := Lib.hid (And.intro (RdF.of_own hown4) (And.intro hb4 (And.intro hoa (And.intro htl hit4))))
      have hs4 := hb4.size
      rw [← hsl]
      rw [← hsl] at hssl
      clear hown4 hf4 hb4 hts hoa hsl HM htl hit4
      go_wp2_with fail
      go_loopw [8, 43] (fun out i wr => OInv2 w aS ts out i wr) (fun _ i _ => ts.length - (intOf i).toNat)
      case atStart => exact ⟨0, [], Nat.zero_le _, rfl, rfl, (fun x hx => by cases hx), World.ownsRow_nil _ _ _ _, HO4.out.1, HO4.out.2.2.2.2, HO4.out.2.1⟩
      case round =>
        obtain ⟨k, ls, hk, rfl, hls, hlx, hown6, hrd, hit6, hb6⟩ := hrel
        have hbs6 := hb6.size
        have H6 := Lib.hid (And.intro hls (And.intro hlx (And.intro hown6 (And.intro hrd (And.intro hit6 hb6)))))
        have hll : ls.length = k := by have := congrArg List.length hls; rw [List.length_map, List.length_take] at this; omega
        clear hls hlx hown6 hrd hit6 hb6
        by_cases hlt2 : k < ts.length
        · obtain ⟨x, hx⟩ : ∃ x, ts[k]? = some x := ⟨_, List.getElem?_eq_getElem hlt2⟩
          obtain ⟨L, hL1, hL2⟩ := HO4.out.2.2.2.1 x (List.mem_of_getElem? hx)
          obtain ⟨ba, oa, rfl, hta, hca⟩ := H6.out.2.2.2.1 (by intro e; have := strF_length ts; rw [e] at this; simp at this; omega)
          have c0 := hca k (encStr x) (by unfold strF; rw [List.getElem?_map, hx]; rfl)
          obtain ⟨xs, hxs⟩ : ∃ q : ByteArray, q = ⟨x.toArray⟩ := ⟨_, rfl⟩
          rw [show encStr x = Value.string xs by rw [hxs]] at c0
          have hxd : d xs = x := by rw [hxs]
          have hbd := bytesS_bound hL1
          have hxz : xs.size ≤ 1100000 := by
            have h1 : (d xs).length ≤ 73856 := by rw [hxd, hL2]; exact hbd
            have h2 : xs.size = (d xs).length := by simp [d]
            omega
          have hrs : readS (d xs) = some L := by rw [hxd, hL2]; exact readS_bytes hL1
          obtain ⟨w0', hw0⟩ : ∃ q, q = wr := ⟨_, rfl⟩
          subst hw0
          have hkv := HL.out.2.below H6.out.2.2.2.2.2 (Nat.le_refl _)
          obtain ⟨mx, hmx⟩ := hkv.mx
          have HX := Lib.hid (And.intro hx (And.intro hL1 (And.intro hL2 hrs)))
          have hcall := cread_calls xs w0' hxz mx hmx
          have HC := Lib.hid hcall
          clear hx hL1 hL2 hta hca hxs hxd hbd hrs hkv hmx hcall
          go_wp2_with fail
          go_at_call 53
          refine HC.out.mono ?_
          rintro e w7 hp
          have hp2 : (∃ v, e = .returned (.tuple #[v, .int .i64 0]) ∧ w7.ownsRow w0'.heap.size 79 2 v L.length (lFlat L)) ∧ Below w0'.heap.size w0' w7 := by
            have := hp
            unfold CrPost at this
            rw [HX.out.2.2.2] at this
            exact this
          obtain ⟨⟨v7, rfl, hown7⟩, hb7⟩ := hp2
          obtain ⟨a7, c7, rfl⟩ := own_form hown7
          have hs7 := hb7.size
          have H7 := Lib.hid (And.intro (show LlF w.heap.size w7 a7 c7 L from ⟨Ll.of_own hown7, (LZ.of_own hown7).mono hbs6⟩) (And.intro hb7 (own_fr H6.out.2.2.1 (X := fun k => w0'.heap.size ≤ k) (Fr.of_below hb7) (fun k hk => by have := (own_isT H6.out.2.2.1 hk).lt; omega))))
          clear hp hown7 hb7 HC
          go_wp2_with (at_builtin; refine wpList_app rfl _ _ 77 31 1 24 _ rfl Tryz.underlying77 infoLs rfl (by decide) (by decide) w.heap.size _ ls.length (ls.map llB) rfl (H7.out.2.2.alloc _) ⟨w7.heap.size, 0, none⟩ 1 1 [.slice a7 L.length c7] rfl rfl (cells_new w7 #[.slice a7 L.length c7] _ _ (by simp)) (by intro u hu; simp at hu; subst hu; rfl) (by omega) (by simp; omega) ?_; intro v8 w8 hown8 hgrow8 _ _; have H8 := Lib.hid (And.intro hown8 hgrow8); clear hown8 hgrow8)
          have hb79 : Below w0'.heap.size w0' (w7.alloc (.cells #[.slice a7 L.length c7] 31)) := H7.out.2.1.alloc hs7 _
          have hown9 := H7.out.2.2.alloc (.cells #[.slice a7 L.length c7] 31)
          have hfr8 : Fr (fun k => u8.ownBlock = some k) (w7.alloc (.cells #[.slice a7 L.length c7] 31)) w8 := fr_grown H8.out.2 (fun _ hk => hk)
          have hb9 : Below w.heap.size w w8 := below_own (H6.out.2.2.2.2.2.trans (hb79.mono hbs6)) (by simp; omega) hown9 H8.out.2
          have hnl : ∀ {a : Option Addr} {c : Nat} {m : List Lab}, LlF w.heap.size (w7.alloc (.cells #[.slice a7 L.length c7] 31)) a c m → LlF w.heap.size w8 a c m := fun hl => llF_grown hown9 (by decide) H8.out.2 hl
          have hit9 : isT (w7.alloc (.cells #[.slice a7 L.length c7] 31)) ba 9 := (Fr.of_below hb79).isT (H6.out.2.2.2.2.1 _ rfl) (by have h : ba < w0'.heap.size := (H6.out.2.2.2.2.1 _ rfl).lt; omega)
          have hne8 : ¬ (u8.ownBlock = some ba) := fun e => hit9.ne (own_isT hown9 e) (by decide) rfl
          have hrd8 : RdF w8 (some ⟨ba, oa, none⟩) (strF ts) := (H6.out.2.2.2.1.below hb79).fr hfr8 (fun q hq e => by
            cases hq
            exact hne8 e)
          go_roundw
          case rel =>
            refine ⟨k + 1, ls ++ [⟨a7, c7, L⟩], by omega, by go_num, ?_, fun x hx => ?_, ?_, hrd8, (fun q hq => by cases hq; exact hfr8.isT hit9 hne8), hb9⟩
            · rw [List.map_append, H6.out.1, take_succ_at HX.out.1]
              simp only [List.map_cons, List.map_nil]
              rw [← HX.out.2.2.1]
            · rcases List.mem_append.1 hx with hx | hx
              · exact ⟨(H6.out.2.1 x hx).1, hnl ((H6.out.2.1 x hx).2.below hb79 (Nat.le_refl _))⟩
              · obtain rfl := List.mem_singleton.1 hx
                exact ⟨HX.out.2.1, hnl (H7.out.1.below ((Below.refl _ _).alloc (Nat.le_refl _) _) (Nat.le_refl _))⟩
            · rw [List.map_append, List.length_append]
              exact H8.out.1
          case measure => simp [intOf]; omega
        · obtain rfl : k = ts.length := by omega
          obtain ⟨ao, co, rfl⟩ := own_form H6.out.2.2.1
          have hmp := H6.out.1
          rw [List.take_of_length_le (Nat.le_refl _)] at hmp
          have HMP := Lib.hid hmp
          clear hmp
          go_wp2_with fail
          go_ret
          refine ⟨ao, co, ls, rfl, by rw [HMP.out]; exact HO4.out.2.2.1, fun x hx => (H6.out.2.1 x hx).1, by omega, ⟨RdF.of_own H6.out.2.2.1, fun x hx => (H6.out.2.1 x hx).2.ll⟩, fun x hx => (H6.out.2.1 x hx).2.lz, fun q hq => ?_, H6.out.2.2.2.2.2⟩
          subst hq
          exact ⟨own_base H6.out.2.2.1 rfl, own_isT H6.out.2.2.1 rfl⟩
    · intro x c kl' yd yp w1 cnt1 hkey1 hlk hv hat hrg1 hlt1 hg1 hs1 hen
      obtain ⟨a, b⟩ := x
      obtain ⟨s, m⟩ := c
      dsimp only at hkey1 hv hen ⊢
      obtain ⟨a', b', hab, ha, hbb, rfl⟩ := keyOf_line_inv hkey1
      injection hab with hab
      simp only [Array.mk.injEq, List.cons.injEq, Value.string.injEq, and_true] at hab
      obtain ⟨rfl, rfl⟩ := hab
      obtain ⟨s', m', hsm, hyd⟩ := lastOfV_some hv
      injection hsm with hsm
      simp only [Array.mk.injEq, List.cons.injEq, Value.int.injEq, Value.bool.injEq, true_and, and_true] at hsm
      obtain ⟨rfl, rfl⟩ := hsm
      simp only [Prod.mk.injEq] at hyd
      obtain ⟨rfl, -⟩ := hyd
      have hfit : fits (d a, d b) := ⟨by simpa using ha, by simpa using hbb⟩
      have hg : f (d a, d b) = some (s, m) := by
        obtain ⟨t1, t2⟩ := HT.out _ hfit
        rw [Go.Maps.has_true_of_atKey hat] at t1
        cases hg : f (d a, d b) with
        | none => rw [hg] at t1; cases t1
        | some v =>
          have := (t2 v hg).symm.trans (hat zl)
          rw [lastD_inj this]
      have hfr1 : Fr (fun k => k = w.heap.size) wr w1 := fr_grown hg1 (fun k e => by cases e; rfl)
      have hown1 : w1.ownsRow (w.heap.size + 1) 9 1 u5 ss.length (strF ss) := own_fr HB.out.2.1 hfr1 (fun k hk e => by have := own_base HB.out.2.1 hk; omega)
      have hb1 : Below w.heap.size w w1 := HB.out.1.trans (hfr1.below (B := w.heap.size) (fun k hk e => by omega) hbs)
      have hleft : ∀ q, fits q → q ≠ (d a, d b) → (fun z : Lit => left z && !z.sameKey (kl (d a, d b))) (kl q) = left (kl q) := fun q hq hne => by
        have e1 := Go.Maps.sameKey_ne (fun e => hne (kl_inj hq hfit e))
        simp [e1]
      have hl1 : (fun z : Lit => left z && !z.sameKey (kl (d a, d b))) (kl (d a, d b)) = false := by simp [WideAt.sameKey_self (kl_key (d a, d b))]
      have H1 := Lib.hid (And.intro hown1 (And.intro hb1 (And.intro hleft (And.intro hl1 (And.intro hfit (And.intro hg hlk))))))
      have hs1' : w.heap.size + 1 ≤ w1.heap.size := by
        have := hrg.lt
        omega
      have HRG := Lib.hid hrg1
      have hke : (d a = d key) = (a.toList = key.toList) := by rw [ByteArray.toList_eq, ByteArray.toList_eq]
      clear hkey1 hlk hv hat hfit hg hfr1 hown1 hb1 ha hbb hs1 hleft hl1
      by_cases hyes : d a = d key ∧ m = false
      · obtain ⟨hy1, rfl⟩ := hyes
        have hq1 : (a.toList == key.toList) = true := beq_iff_eq.2 (by rw [← hke]; exact hy1)
        have HY := Lib.hid hy1
        clear hy1 hke
        go_wp2_with (at_builtin; refine wpList_app rfl _ _ 65 9 1 16 _ rfl Tryz.underlying65 infoSt rfl (by decide) (by decide) (w.heap.size + 1) _ ss.length (strF ss) rfl (((H1.out.1.alloc _).alloc _).alloc _) ⟨w1.heap.size + 1 + 1, 0, none⟩ 1 1 [.string b] rfl rfl (cells_new ((w1.alloc (.cells #[.string a, .string b] 96)).alloc (.cells #[.int .i64 s, .bool false] 93)) #[.string b] _ _ (by simp)) (by intro u hu; simp at hu; subst hu; rfl) (by omega) (by simp; omega) ?_; intro v6 w6 hown6 hgrow6 _ _; have H6 := Lib.hid (And.intro hown6 hgrow6); clear hown6 hgrow6)
        have hown2 := ((H1.out.1.alloc (.cells #[.string a, .string b] 96)).alloc (.cells #[.int .i64 s, .bool false] 93)).alloc (.cells #[.string b] 9)
        have hrg6 := (((HRG.out.alloc (.cells #[.string a, .string b] 96)).alloc (.cells #[.int .i64 s, .bool false] 93)).alloc (.cells #[.string b] 9)).kept H6.out.2 (fun e => by have := own_base hown2 e.symm; omega) (fun e => by have := own_base hown2 e.symm; omega)
        have hb2 : Below w.heap.size w (((w1.alloc (.cells #[.string a, .string b] 96)).alloc (.cells #[.int .i64 s, .bool false] 93)).alloc (.cells #[.string b] 9)) := ((H1.out.2.1.alloc H1.out.2.1.size _).alloc (by have := H1.out.2.1.size; simp; omega) _).alloc (by have := H1.out.2.1.size; simp; omega) _
        have hb6 := below_own hb2 hb2.size (own_weak hown2 (Nat.le_succ _)) H6.out.2
        have hnm : d b ∉ ss := fun hm => by
          have h3 := ((HB.out.2.2.1 _).1 hm).2.2
          rw [← HY.out, H1.out.2.2.2.2.2.2] at h3
          cases h3
        go_roundw
        case rel =>
          refine ⟨_, cnt1, ss ++ [d b], hrg6, by simp; omega, ?_, ?_, ?_, hb6⟩
          · rw [strF_append, List.length_append]
            exact H6.out.1
          · rw [List.nodup_append]
            exact ⟨HB.out.2.2.2, by simp, fun x hx y hy e => by rw [List.mem_singleton.1 hy] at e; exact hnm (e ▸ hx)⟩
          · exact open_mem_yes (left' := fun z : Lit => left z && !z.sameKey (kl (d a, d b))) HB.out.2.2.1 (HY.out ▸ H1.out.2.2.2.2.1) (s := s) (by rw [← HY.out]; exact H1.out.2.2.2.2.2.1) (by rw [← HY.out]; exact H1.out.2.2.2.1) (by rw [← HY.out]; exact H1.out.2.2.1)
        case measure => rw [hrg6.left_eq, hrg.left_eq]; exact hlt1
      · have HN := Lib.hid hyes
        have hrg2 := (HRG.out.alloc (.cells #[.string a, .string b] 96)).alloc (.cells #[.int .i64 s, .bool m] 93)
        have hcase : (a.toList == key.toList) = false ∨ ((a.toList == key.toList) = true ∧ m = true) := by
          by_cases hy : d a = d key
          · refine .inr ⟨beq_iff_eq.2 (by rw [← hke]; exact hy), ?_⟩
            cases m with
            | true => rfl
            | false => exact absurd ⟨hy, rfl⟩ hyes
          · exact .inl (beq_eq_false_iff_ne.2 (by rw [ne_eq, ← hke]; exact hy))
        have hb2 : Below w.heap.size w ((w1.alloc (.cells #[.string a, .string b] 96)).alloc (.cells #[.int .i64 s, .bool m] 93)) := (H1.out.2.1.alloc H1.out.2.1.size _).alloc (by have := H1.out.2.1.size; simp; omega) _
        have HREL := Lib.hid (And.intro hb2 hrg2)
        have hcc : ss.length + cnt1 ≤ Maps.size D := by omega
        have hmsr := hrg2.left_eq
        have hmsr2 := hrg.left_eq
        have HMS := Lib.hid (show ((w1.alloc (.cells #[.string a, .string b] 96)).alloc (.cells #[.int .i64 s, .bool m] 93)).rangeLeft mb w.heap.size < wr.rangeLeft mb w.heap.size by rw [hmsr, hmsr2]; exact hlt1)
        clear hyes hke hb2 hrg2 hmsr hmsr2 hlt1
        rcases hcase with hq1 | ⟨hq1, rfl⟩
        all_goals
          go_wp2_with fail
          go_roundw
          case rel => exact ⟨_, cnt1, ss, HREL.out.2, hcc, (H1.out.1.alloc _).alloc _, HB.out.2.2.2, open_mem_no (left' := fun z : Lit => left z && !z.sameKey (kl (d a, d b))) HB.out.2.2.1 H1.out.2.2.2.2.2.1 HN.out H1.out.2.2.1, HREL.out.1⟩
          case measure => exact HMS.out
end Go.Proofs.YtdgfldeeflmnmaaGreatDoor.Sk
