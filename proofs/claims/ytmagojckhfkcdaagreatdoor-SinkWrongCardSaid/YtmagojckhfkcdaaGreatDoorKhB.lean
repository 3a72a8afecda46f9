/- Chapter 38: the law's fill. -/
import Derived.Test.YtmagojckhfkcdaaGreatDoorKhA
import Derived.Outline
namespace Go.Proofs.YtmagojckhfkcdaaGreatDoor.Sk
open Go Go.RowKit
def smB (x : Sm) : List Value := [.int .u8 x.key, .int .u8 x.ser, .int .u8 x.kind, .int .u8 x.more]
/-- the slice at a reads as the small entries l -/
def RdS (w : World) (a : Option Addr) (l : List Sm) : Prop :=
  l ≠ [] → ∃ b off, a = some ⟨b, off, none⟩ ∧ isT w b 24 ∧ ∀ (i : Nat) (x : Sm), l[i]? = some x → ∀ j u, (smB x)[j]? = some u → w.cell? ⟨b, off + i * 4 + j, none⟩ = some u
theorem RdS.fr {X : Nat → Prop} {w w' : World} {a : Option Addr} {l : List Sm} (h : RdS w a l) (hf : Fr X w w') (hx : ∀ b, isT w b 24 → ¬ X b) : RdS w' a l := by
  intro hl
  obtain ⟨b, off, e, ht, hc⟩ := h hl
  exact ⟨b, off, e, hf.isT ht (hx b ht), fun i x hi j u hu => (hf.cell ht.lt (hx b ht)).trans (hc i x hi j u hu)⟩
theorem RdS.below {w w' : World} {a : Option Addr} {l : List Sm} (h : RdS w a l) (hb : Below w.heap.size w w') : RdS w' a l :=
  h.fr (Fr.of_below hb) (fun b ht hx => by have := ht.lt; omega)
/-- where fill stands: a sink, and the items that were accepted -/
structure FillS (w : World) (p base mb n : Nat) (v : Value) (lS lO : List SI) (out : Value) (wr : World) : Prop where
  sink : SinkAt wr p base mb n v lS
  own : wr.ownsRow w.heap.size 40 7 out lO.length (iFlat lO)
  lab : ∀ x ∈ lO, Ll wr x.la x.lc x.e.lab
  ap : ∀ b, v.ownBlock = some b → out.ownBlock ≠ some b
  hi : ∀ b, v.ownBlock = some b → w.heap.size ≤ b
  fr : Fr (fun k => k = p ∨ k = mb) w wr
section
variable {w wr w' : World} {p base mb n n' : Nat} {v v' out out' : Value} {lS lS' lO : List SI}
theorem FillS.below (h : FillS w p base mb n v lS lO out wr) (hb : Below wr.heap.size wr w') : FillS w p base mb n v lS lO out w' :=
  ⟨h.sink.below hb, own_fr h.own (Fr.of_below hb) (fun k hk hx => by have := (own_isT h.own hk).lt; omega), fun x hx => (h.lab x hx).below hb (Nat.le_refl _), h.ap, h.hi, h.fr.thenX (Fr.of_below hb) (fun i hi e => by have := h.fr.size; omega)⟩
theorem FillS.app (h : FillS w p base mb n v lS lO out wr) (hS : SinkAt w' p base mb n' v' lS') (hf : Fr (fun k => k = p ∨ k = mb ∨ v.ownBlock = some k) wr w') (hk : ∀ k, v'.ownBlock = some k → v.ownBlock = some k ∨ wr.heap.size ≤ k) : FillS w p base mb n' v' lS' lO out w' := by
  have hw := h.fr.size
  refine ⟨hS, own_fr h.own hf (fun k hk hx => ?_), fun x hx => h.sink.ll hf (h.lab x hx), fun b hb e => ?_, fun b hb => ?_, h.fr.thenX hf (fun i hi e => ?_)⟩
  · rcases hx with e | e | e
    · exact (own_isT h.own hk).ne (isT_of h.sink.cells) (by decide) e
    · exact h.sink.notMap (own_isT h.own hk) e
    · exact h.ap k e hk
  · rcases hk b hb with e1 | e1
    · exact h.ap b e1 e
    · have := (own_isT h.own e).lt; omega
  · rcases hk b hb with e1 | e1
    · exact h.hi b e1
    · omega
  · rcases e with e | e | e
    · exact .inl e
    · exact .inr e
    · have := h.hi i e; omega
theorem FillS.row {y : SI} (h : FillS w p base mb n v lS lO out wr) (hown : w'.ownsRow w.heap.size 40 7 out' (lO.length + 1) (iFlat lO ++ iB y)) (hg : wr.grownBy w' out.ownBlock) (ho : out'.ownBlock = out.ownBlock ∨ out'.ownBlock = some wr.heap.size) (hy : Ll wr y.la y.lc y.e.lab) : FillS w p base mb n v lS (lO ++ [y]) out' w' := by
  have hf : Fr (fun k => out.ownBlock = some k) wr w' := fr_grown hg (fun _ hk => hk)
  have hw := h.fr.size
  refine ⟨⟨(hf.block p h.sink.lp (fun e => (own_isT h.own e).ne (isT_of h.sink.cells) (by decide) rfl)).trans h.sink.cells, own_fr h.sink.own hf (fun k hk e => h.ap k hk e), fun x hx => ll_grown h.own (by decide) hg (h.sink.lab x hx), h.sink.map.fr hf (fun e => h.sink.notMap (own_isT h.own e) rfl), h.sink.le, h.sink.len, h.sink.ok, Nat.le_trans h.sink.bs hf.size⟩, ?_, ?_, ?_, h.hi, h.fr.thenX hf (fun i hi e => ?_)⟩
  · rw [iFlat_append]
    simpa [iFlat] using hown
  · intro x hx
    rcases List.mem_append.1 hx with hx | hx
    · exact ll_grown h.own (by decide) hg (h.lab x hx)
    · obtain rfl := List.mem_singleton.1 hx
      exact ll_grown h.own (by decide) hg hy
  · intro b hb e
    rcases ho with e1 | e1
    · exact h.ap b hb (e1 ▸ e)
    · rw [e1] at e
      have := (own_isT h.sink.own hb).lt
      have := Option.some.inj e
      omega
  · have := own_base h.own e
    omega
end
def FillAt (w : World) (p base mb : Nat) (its : List It) (out : Value) (wr : World) : Prop :=
  ∃ n v lS lO, FillS w p base mb n v lS lO out wr ∧ lS.map SI.it = its ∧ lO.map SI.it = its
def FillInv (w : World) (p base mb : Nat) (l : List Sm) (out st i : Value) (wr : World) : Prop :=
  ∃ (k : Nat) (s : Int), k ≤ l.length ∧ i = .int .i64 k ∧ st = .int .i64 s ∧ s = stGo 5 (l.take k) ∧ FillAt w p base mb (fillS [] 5 (l.take k)) out wr
theorem Kv.fr2 {w w' : World} {p base mb n : Nat} {v : Value} {l : List SI} (h : Kv w) (hS : SinkAt w p base mb n v l) (hf : Fr (fun k => k = p ∨ k = mb) w w') : Kv w' := by
  obtain ⟨m, hm⟩ := h.mx
  obtain ⟨va, vc, rfl⟩ := own_form hS.own
  have h1 : 4 ≠ p := by
    rintro rfl
    simp [World.cell?, hS.cells] at hm
  have h2 : 4 ≠ mb := by
    rintro rfl
    obtain ⟨D, ⟨q, c, hq, _⟩, _⟩ := hS.map
    simp [World.cell?, hq] at hm
  have hx : ¬ (4 = p ∨ 4 = mb) := fun e => e.elim h1 h2
  exact ⟨Nat.lt_of_lt_of_le h.sz hf.size, m, (hf.cell h.sz hx).trans hm⟩
theorem FillS.start {w : World} {p base mb : Nat} (h : SinkAt w p base mb 0 (.slice none 0 0) []) : FillAt w p base mb [] (.slice none 0 0) w :=
  ⟨0, _, [], [], ⟨h, World.ownsRow_nil _ _ _ _, (fun x hx => by cases hx), (fun b hb => by simp [Value.ownBlock] at hb), (fun b hb => by simp [Value.ownBlock] at hb), Fr.refl _ _⟩, rfl, rfl⟩
theorem FillInv.next {w wr : World} {p base mb : Nat} {l : List Sm} {k : Nat} {s s' : Int} {x : Sm} {out : Value} (hx : l[k]? = some x) (hs : s = stGo 5 (l.take k)) (hs' : s' = stepS s x) (hF : FillAt w p base mb (app (fillS [] 5 (l.take k)) [itS x s']) out wr) : FillInv w p base mb l out (.int .i64 s') (.int .i64 ((k + 1 : Nat) : Int)) wr := by
  refine ⟨k + 1, s', by have := (List.getElem?_eq_some_iff.1 hx).1; omega, rfl, rfl, ?_, ?_⟩
  · rw [take_succ_at hx, stGo_snoc, ← hs]
    exact hs'
  · rw [take_succ_at hx, fillS_snoc, ← hs, ← hs']
    exact hF
theorem app_one {its : List It} {x : It} : (appErr its [x] = 0 → app its [x] = its ++ [x]) ∧ (appErr its [x] ≠ 0 → app its [x] = its) := by
  unfold app
  exact ⟨fun h => by rw [if_pos h], fun h => by rw [if_neg h]⟩
theorem serN_ok (s : Int) : (serN s).length ≤ 1 ∧ ∀ y ∈ serN s, y.2.size ≤ 1 := by
  unfold serN
  split
  · decide
  · split
    · decide
    · decide
theorem keyS_le (x : Sm) : (keyS x).size ≤ 1100000 := by
  unfold keyS keyN
  split
  · decide
  · split <;> decide
theorem esOk_S {w : World} {a : Option Addr} {c : Nat} {x : Sm} {st : Int} : EsOk w [(⟨a, c, entS x st⟩ : SE)] := by
  have h := serN_ok (x.ser % 3)
  refine ⟨fun y hy => ?_, fun y hy z hz => ?_⟩
  · obtain rfl := List.mem_singleton.1 hy
    have : (entS x st).lab.length ≤ 1 := h.1
    show (entS x st).lab.length ≤ 1000000000
    omega
  · obtain rfl := List.mem_singleton.1 hy
    have := h.2 z hz
    omega
/-- the small entries at a, in no block that the sink at p has -/
def RdG (w : World) (p mb : Nat) (a : Option Addr) (l : List Sm) : Prop :=
  l ≠ [] → ∃ b off, a = some ⟨b, off, none⟩ ∧ b < w.heap.size ∧ ¬ (b = p ∨ b = mb) ∧ ∀ (i : Nat) (x : Sm), l[i]? = some x → ∀ j u, (smB x)[j]? = some u → w.cell? ⟨b, off + i * 4 + j, none⟩ = some u
theorem RdG.fr {w w' : World} {p mb : Nat} {a : Option Addr} {l : List Sm} (h : RdG w p mb a l) (hf : Fr (fun k => k = p ∨ k = mb) w w') : RdG w' p mb a l := by
  intro hl
  obtain ⟨b, off, e, hb, hn, hc⟩ := h hl
  exact ⟨b, off, e, Nat.lt_of_lt_of_le hb hf.size, hn, fun i x hi j u hu => (hf.cell hb hn).trans (hc i x hi j u hu)⟩
theorem RdS.g {w : World} {p base mb n : Nat} {v : Value} {lS : List SI} {a : Option Addr} {l : List Sm} (h : RdS w a l) (hS : SinkAt w p base mb n v lS) (m : Nat) : RdG w p mb a (l.take m) := by
  intro hl
  obtain ⟨b, off, e, ht, hc⟩ := h (by intro e; subst e; simp at hl)
  refine ⟨b, off, e, ht.lt, fun hx => ?_, fun i x hi j u hu => hc i x ?_ j u hu⟩
  · rcases hx with e | e
    · exact ht.ne (isT_of hS.cells) (by decide) e
    · exact hS.notMap ht e
  · rw [List.getElem?_take] at hi
    split at hi
    · exact hi
    · cases hi
set_option maxRecDepth 100000 in
set_option maxHeartbeats 4000000 in
theorem fill_callsG (a : Option Addr) (cap : Nat) (l : List Sm) (w : World) {p base mb : Nat} (h : SinkAt w p base mb 0 (.slice none 0 0) []) (hv : Kv w) (hl : RdG w p mb a (l.take 40)) (hok : ∀ x ∈ l, SmOk x) (hcap : l.length ≤ cap) (hc2 : cap ≤ maxLen) :
    Calls Tryz.prog 6 #[.pointer (some ⟨p, 0, none⟩), .slice a l.length cap] w fun e w' => ∃ out, e = .returned out ∧ FillAt w p base mb (fillS [] 5 (l.take 40)) out w' := by
  have HR := Lib.hid (And.intro h (And.intro hv (And.intro hl hok)))
  have hps := h.lp
  have hmbs := h.map.lt
  unfold maxLen at hc2
  obtain ⟨m, hm⟩ : ∃ m, m = (l.take 40).length := ⟨_, rfl⟩
  have hm1 := hm
  rw [List.length_take] at hm1
  have hmin : min (l.length : Int) 40 = (m : Int) := by omega
  have hmax : max (m : Int) 0 = (m : Int) := by omega
  have hm40 : m ≤ 40 := by omega
  have hml : m ≤ l.length := by omega
  have HM := Lib.hid hm
  clear h hv hl hok hm hm1
  go_enter Tryz.func6, Tryz.ntmps6
  go_wp2_with fail
  go_loopw [5, 6, 17] (fun out st i wr => FillInv w p base mb (l.take 40) out st i wr) (fun _ _ i _ => m - (intOf i).toNat)
  case atStart => exact ⟨0, 5, Nat.zero_le _, rfl, rfl, rfl, FillS.start HR.out.1⟩
  case round =>
    obtain ⟨k, s, hk, rfl, rfl, hs, n, v, lS, lO, hF, hmS, hmO⟩ := hrel
    rw [← HM.out] at hk
    have hsb := stGo_bd ((l.take 40).take k) 5
    rw [← hs, List.length_take] at hsb
    have hs1 : -200 ≤ s := by omega
    have hs2 : s ≤ 200 := by omega
    have hwr := hF.fr.size
    have hlO : lO.length ≤ 40 := by
      have h1 := congrArg List.length hmO
      have h2 := fillS_len ((l.take 40).take k) [] 5
      rw [List.length_map] at h1
      rw [List.length_take] at h2
      simp only [List.length_nil] at h2
      omega
    have HF := Lib.hid (And.intro hF (And.intro hmS (And.intro hmO hs)))
    clear hF hmS hmO hs hsb
    by_cases hlt : k < m
    · obtain ⟨x, hx⟩ : ∃ x, (l.take 40)[k]? = some x := ⟨_, List.getElem?_eq_getElem (by rw [← HM.out]; exact hlt)⟩
      have hxl : l[k]? = some x := by rw [List.getElem?_take] at hx; split at hx; exact hx; cases hx
      have hxo := HR.out.2.2.2 x (List.mem_of_getElem? hxl)
      have hrd := HR.out.2.2.1.fr HF.out.1.fr
      obtain ⟨b, off, rfl, hbl, hnb, hc⟩ := hrd (by intro e; rw [e] at hx; simp at hx)
      have c0 := hc k x hx 0 _ rfl
      rw [Nat.add_zero] at c0
      have c1 := hc k x hx 1 _ rfl
      have c2 := hc k x hx 2 _ rfl
      have c3 := hc k x hx 3 _ rfl
      have HX := Lib.hid (And.intro hx hxo)
      have hmo0 := hxo.m0
      have hmo1 := hxo.m1
      have hkl : k < l.length := by omega
      obtain ⟨w0, hw0⟩ : ∃ q, q = wr := ⟨_, rfl⟩
      subst hw0
      clear hc hx hxo hnb hrd hxl
      obtain ⟨s', hs'⟩ : ∃ s', s' = stepS s x := ⟨_, rfl⟩
      have HS' := Lib.hid hs'
      clear hs'
      rcases (show decide (250 ≤ x.more) = true ∨ decide (250 ≤ x.more) = false by cases decide (250 ≤ x.more) <;> simp) with h250 | h250
      all_goals
        go_wp2_with fail
        go_at_call 7
        first
          | rw [show s + x.more % 4 - 3 = s' by rw [HS'.out]; unfold stepS; rw [if_pos (by simpa using h250)]]
          | rw [show s + x.more % 4 = s' by rw [HS'.out]; unfold stepS; rw [if_neg (by simpa using h250)]]
        refine (entry_calls x HX.out.2 s' _).mono ?_
        rintro e w5 ⟨a5, c5, rfl, hl5, hb5⟩
        have hb05 : Below w0.heap.size w0 w5 := ((Below.refl _ _).alloc (Nat.le_refl _) _).trans (hb5.mono (by simp))
        obtain ⟨en, hen⟩ : ∃ en, en = entS x s' := ⟨_, rfl⟩
        obtain ⟨K, hK⟩ : ∃ K, K = keyS x := ⟨_, rfl⟩
        rw [← hen] at hl5 ⊢
        rw [← hK]
        have HE := Lib.hid (And.intro hen hK)
        clear hen hK
        go_wp2_with fail
        obtain ⟨w1, hw1⟩ : ∃ w1, w1 = w5.alloc (.cells #[.slice a5 en.lab.length c5, .bool en.mark, .int .u64 en.bits, .bool en.st, .int .i64 en.time, .int .i64 en.stamp] 34) := ⟨_, rfl⟩
        rw [← hw1]
        have hsz1 : w5.heap.size + 1 = w1.heap.size := by rw [hw1]; simp
        rw [hsz1]
        have hb01 : Below w0.heap.size w0 w1 := by rw [hw1]; exact hb05.alloc hb05.size _
        have hl1 : Ll w1 a5 c5 en.lab := by rw [hw1]; exact hl5.below ((Below.refl _ _).alloc (Nat.le_refl _) _) (Nat.le_refl _)
        have hy1 : w1.heap[w5.heap.size]? = some (.cells #[.slice a5 en.lab.length c5, .bool en.mark, .int .u64 en.bits, .bool en.st, .int .i64 en.time, .int .i64 en.stamp] 34 (0, 0)) := by rw [hw1]; exact heap_alloc_new w5 _
        have HF1 := Lib.hid (And.intro (HF.out.1.below hb01) (And.intro hl1 hy1))
        have HKV : Hid (Kv w1) := Lib.hid (HR.out.2.1.fr2 HR.out.1 HF1.out.1.fr)
        clear hb05 hb5 hl5 hb01 hl1 hy1 c0 c1 c2 c3 hw1
        go_at_call 11
        have ha : Below w1.heap.size w1 (w1.alloc (.cells #[.slice a5 en.lab.length c5, .bool en.mark, .int .u64 en.bits, .bool en.st, .int .i64 en.time, .int .i64 en.stamp] 34)) := (Below.refl _ _).alloc (Nat.le_refl _) _
        have HF2 := Lib.hid (HF1.out.1.below ha)
        refine (append_calls _ K (some ⟨w1.heap.size, 0, none⟩) 1 [⟨a5, c5, en⟩] HF2.out.sink (HKV.out.below ha (Nat.le_refl _)) (by rw [HE.out.2]; exact keyS_le x) (RdE.new w1 _ _ rfl (one_ll HF1.out.2.1)) (by rw [HE.out.1]; exact esOk_S) (by simp)).mono ?_
        rintro e w6 ⟨rfl, n6, v6, l6, hS6, hm6, hf6, hk6⟩
        have hF6 := HF2.out.app hS6 hf6 hk6
        have hy6 := HF2.out.sink.keep hf6 ((ha.block _ (isT_of HF1.out.2.2).lt).trans HF1.out.2.2) (by decide) (by decide)
        have hl6 := HF2.out.sink.ll hf6 (HF1.out.2.1.below ha (Nat.le_refl _))
        have hit : ([⟨a5, c5, en⟩] : List SE).map (toIt K) = [itS x s'] := by rw [HE.out.1, HE.out.2]; rfl
        rw [hit] at hm6 ⊢
        rw [HF.out.2.1] at hm6 ⊢
        obtain ⟨er, her⟩ : ∃ er, er = appErr (fillS [] 5 ((l.take 40).take k)) [itS x s'] := ⟨_, rfl⟩
        rw [← her]
        have HF6 := Lib.hid (And.intro hF6 (And.intro hm6 (And.intro her hl6)))
        have z0 := block_cell hy6 0 _ rfl
        have z1 := block_cell hy6 1 _ rfl
        have z2 := block_cell hy6 2 _ rfl
        have z3 := block_cell hy6 3 _ rfl
        have z4 := block_cell hy6 4 _ rfl
        have z5 := block_cell hy6 5 _ rfl
        have hs6 := hF6.fr.size
        clear hF6 hy6 hl6 hit hm6 her hS6 hf6 hk6 ha hsz1
        rcases (show (er == 0) = true ∨ (er == 0) = false by cases (er == 0) <;> simp) with he0 | he0
        · have hz : er = 0 := by simpa using he0
          subst hz
          clear he0
          go_wp2_with (at_builtin; refine wpList_app rfl _ _ 28 40 7 80 _ rfl Tryz.underlying28 Tryz.info40 rfl (by decide) (by decide) w.heap.size _ lO.length (iFlat lO) rfl (HF6.out.1.own.alloc _) ⟨w6.heap.size, 0, none⟩ 1 1 (iB ⟨K, a5, c5, en⟩) rfl rfl (cells_new w6 #[.string K, .slice a5 en.lab.length c5, .bool en.mark, .int .u64 en.bits, .bool en.st, .int .i64 en.time, .int .i64 en.stamp] _ _ rfl) (by intro u hu; simp [iB] at hu; rcases hu with rfl | rfl | rfl | rfl | rfl | rfl | rfl <;> rfl) (by omega) (by simp; omega) ?_; intro v7 w7 hown7 hgrow7 hap7 _; have H7 := Lib.hid (And.intro hown7 (And.intro hgrow7 hap7)); clear hown7 hgrow7 hap7)
          go_roundw
          case rel =>
            refine FillInv.next HX.out.1 HF.out.2.2.2 HS'.out ⟨_, _, _, _, (HF6.out.1.below ((Below.refl _ _).alloc (Nat.le_refl _) _)).row (y := ⟨K, a5, c5, en⟩) H7.out.1 H7.out.2.1 H7.out.2.2 (HF6.out.2.2.2.below ((Below.refl _ _).alloc (Nat.le_refl _) _) (Nat.le_refl _)), HF6.out.2.1, ?_⟩
            rw [app_one.1 HF6.out.2.2.1.symm, List.map_append, HF.out.2.2.1, HE.out.1, HE.out.2]
            rfl
          case measure => simp [intOf]; omega
        · have HZ : Hid (er ≠ 0) := Lib.hid (by simpa using he0)
          go_wp2
          go_roundw
          case rel =>
            refine FillInv.next HX.out.1 HF.out.2.2.2 HS'.out ⟨_, _, _, _, HF6.out.1, HF6.out.2.1, ?_⟩
            rw [app_one.2 (by rw [← HF6.out.2.2.1]; exact HZ.out), HF.out.2.2.1]
          case measure => simp [intOf]; omega
    · obtain rfl : k = m := by omega
      have hF2 := HF.out
      rw [List.take_of_length_le (by rw [← HM.out]; exact Nat.le_refl _)] at hF2
      have HF2 := Lib.hid hF2
      clear hF2
      go_wp2
      go_ret
      exact ⟨_, rfl, n, v, lS, lO, HF2.out.1, HF2.out.2.1, HF2.out.2.2.1⟩
theorem fill_calls (a : Option Addr) (cap : Nat) (l : List Sm) (w : World) {p base mb : Nat} (h : SinkAt w p base mb 0 (.slice none 0 0) []) (hv : Kv w) (hl : RdS w a l) (hok : ∀ x ∈ l, SmOk x) (hcap : l.length ≤ cap) (hc2 : cap ≤ maxLen) :
    Calls Tryz.prog 6 #[.pointer (some ⟨p, 0, none⟩), .slice a l.length cap] w fun e w' => ∃ out, e = .returned out ∧ FillAt w p base mb (fillS [] 5 (l.take 40)) out w' :=
  fill_callsG a cap l w h hv (hl.g h 40) hok hcap hc2
end Go.Proofs.YtmagojckhfkcdaaGreatDoor.Sk
