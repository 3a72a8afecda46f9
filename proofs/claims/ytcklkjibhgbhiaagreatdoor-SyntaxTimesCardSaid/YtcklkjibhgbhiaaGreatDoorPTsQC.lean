/- The card of the law SyntaxTimes: whatever the input, it returns true. Its conditions: the package-level variables that it lists read as the program's text lays them. -/
import Derived.Test.YtcklkjibhgbhiaaGreatDoorPFrS
import Derived.Test.YtcklkjibhgbhiaaGreatDoorPTsQ
namespace Go.Proofs.YtcklkjibhgbhiaaGreatDoor.syTimes
open Go.Proofs.YtcklkjibhgbhiaaGreatDoor.Sy Go.ChangeShapes Go.WideShapes Go.ChangeAt Go.RowKit
set_option maxRecDepth 100000 in
theorem contract (H : Type) (enc : TypeId × Value → H) (W : World) (base : Nat) (args : Array Value) (ds gs : List (DataW H)) (before : List MemPlace)
    (hval : ∀ (j : Nat) t v, Tryz.f6.params[j]? = some t → args[j]? = some v → Value.okWide Tryz.prog W .any base t v)
    (hW : DataW.Whole enc Tryz.prog Tryz.f6.params.toList Rows.syntaxTimesSpec.vars false W args.toList ds gs before) (hL : laidMetH Tryz.prog Rows.syntaxTimesRow.laid W) (hsh : W.ShapedOpen Tryz.prog) :
    Calls Tryz.prog 6 args W fun e W' => ∃ v, e = .returned v ∧ Rows.syntaxTimesSpec.post enc Tryz.prog Tryz.f6 false true false false W args v W' := by
  have hW' := hW
  obtain ⟨p, q, hA0, hV, rfl, hfz, hnd⟩ := hW
  have hA : DataW.TrodAll enc Tryz.prog W 0 (fun _ => true) true Tryz.f6.params.toList args.toList ds p := hA0
  rw [Tryz.params6] at hA hval
  obtain ⟨v0, v1, v2, v3, d0, d1, d2, d3, p0, p1, p2, p3, rfl, rfl, rfl, h0, h1, h2, h3⟩ := trodAll_four hA
  obtain ⟨rfl, rfl⟩ := trodVars_none hV
  obtain ⟨a0, cap0, l0, rfl, hS0, hn0, hk0, hc0, hm0⟩ := open_small (hval 0 _ v0 rfl rfl) h0
  obtain ⟨x1, rfl, -, -, hx1⟩ := open_int Tryz.underlying44 (hval 1 _ v1 rfl rfl) h1
  replace hx1 := wf_u16 hx1
  obtain ⟨x2, rfl, -, -, hx2⟩ := open_int Tryz.underlying44 (hval 2 _ v2 rfl rfl) h2
  replace hx2 := wf_u16 hx2
  obtain ⟨x3, rfl, -, -⟩ := open_bool Tryz.underlying4 (hval 3 _ v3 rfl rfl) h3
  have hL' : Vs W := vs_of hL hsh
  refine (qtimes_law a0 cap0 l0 x1 x2 x3 W hL' hS0 hn0 hk0 hc0 hm0 hx1 hx2).mono fun e W' ⟨he, hb⟩ => ?_
  subst he
  exact ⟨_, rfl, law_true laidOut0 hW' (by kernel_rfl) rfl (by kernel_rfl) Tryz.underlying4 rfl hb⟩
theorem reads (os : Os) {H : Type} (enc : TypeId × Value → H) : ∃ places, DataW.whole enc Tryz.prog ((laidWorld os).forCall (fun _ _ => 0) ⟨#[], #[.slice none 0 0, .int .u16 0, .int .u16 0, .bool false], []⟩).memory Tryz.f6.params.toList Rows.syntaxTimesSpec.vars false #[Value.slice none 0 0, Value.int .u16 0, Value.int .u16 0, Value.bool false].toList 8 = some ([.nil, .lit (.int .u16 0), .lit (.int .u16 0), .lit (.bool false)], [], places) :=
  ⟨[], by kernel_rfl⟩
set_option maxRecDepth 100000 in
theorem lifted (os : Os) (started : os.Started) (H : Type) (enc : TypeId × Value → H) (F : Stop.Interp) :
    ReturnsInHanded {} Tryz.checked os 6 .any ((OpenSpec.ofChange Rows.syntaxTimesSpec).preRow enc Tryz.prog Tryz.f6 Rows.syntaxTimesRow.domain false Rows.syntaxTimesRow.laid) (((OpenSpec.ofChange Rows.syntaxTimesSpec).at F).post enc Tryz.prog Tryz.f6 false true false false) := by
  obtain ⟨places, hx⟩ := reads os enc
  refine returnsInHanded_of_row (C := Tryz.checked) (s := OpenSpec.ofChange Rows.syntaxTimesSpec) ownKnob0 started (by as_aux_lemma => kernel_rfl) Tryz.func6
    (witness_row_atRef (enc := enc) (C := Tryz.checked) false (laidWorld os) #[.slice none 0 0, .int .u16 0, .int .u16 0, .bool false] rfl (by as_aux_lemma => kernel_rfl) (by as_aux_lemma => kernel_rfl) (by as_aux_lemma => kernel_rfl)
      (OpenSpec.preRow_of_cond 8 hx (by as_aux_lemma => kernel_rfl) (fun k hk => by cases hk) (by as_aux_lemma => kernel_rfl) (laid_met os _))) ?_
  intro W base args ds gs before hval hW _ _ _ hL hsh _
  exact contract H enc W base args ds gs before hval hW hL hsh
set_option maxHeartbeats 40000000 in
theorem closed : joinedFacts Tryz.pinned.checked.prog 6 Tryz.f6 (OpenSpec.ofChange Rows.syntaxTimesSpec).bare Rows.syntaxTimesRow = true := by
  unfold joinedFacts
  simp only [Bool.and_eq_true]
  repeat' apply And.intro
  all_goals as_aux_lemma => kernel_rfl
theorem said : Rows.SyntaxTimesSaid :=
  OpenClaim.holds_of_cond 6 Tryz.f6 rfl rfl rfl rfl rfl rfl rfl ⟨rfl, rfl, rfl, rfl, rfl⟩ rfl rfl rfl rfl rfl (by as_aux_lemma => kernel_rfl) Tryz.func6 closed
    (of_decide_eq_true (by as_aux_lemma => kernel_rfl)) (by as_aux_lemma => (unfold Func.isWrapper; first | (rw [if_pos (by decide +kernel)]; kernel_rfl) | (rw [if_neg (by decide +kernel)]; exact ⟨rfl, rfl⟩)))
    (fun os started H enc _ F => by rw [OpenClaim.pre_eq_preRow]; exact lifted os started H enc F)
theorem plain (f : FuncId) (fn : Func) (hf : Tryz.pinned.checked.prog.funcNamed "gauger/gaugerlaw07.SyntaxTimes" = some f) (hfn : Tryz.pinned.checked.prog.funcs[f]? = some fn) :
    true = Tryz.pinned.checked.prog.looks [] ∧ ∀ (j : Nat) t, fn.params[j]? = some t → Tryz.pinned.checked.prog.wantsStandIn t = false := by
  obtain rfl : f = 6 := Option.some.inj ((show Tryz.prog.funcNamed "gauger/gaugerlaw07.SyntaxTimes" = some 6 by kernel_rfl).symm.trans hf) |>.symm
  obtain rfl : fn = Tryz.f6 := (Option.some.inj (Tryz.func6.symm.trans hfn)).symm
  refine ⟨by kernel_rfl, fun j t ht => ?_⟩
  rw [Tryz.params6] at ht
  have hall : ∀ t ∈ (#[22, 44, 44, 4] : Array TypeId), Tryz.prog.wantsStandIn t = false := by
    intro t ht
    simp only [List.mem_toArray, List.mem_cons, List.not_mem_nil, or_false] at ht
    rcases ht with rfl | rfl | rfl | rfl
    · exact (show Tryz.prog.wantsStandIn 22 = false by kernel_rfl)
    · exact (show Tryz.prog.wantsStandIn 44 = false by kernel_rfl)
    · exact (show Tryz.prog.wantsStandIn 44 = false by kernel_rfl)
    · exact (show Tryz.prog.wantsStandIn 4 = false by kernel_rfl)
  exact hall t (Array.mem_of_getElem? ht)
theorem card : Rows.SyntaxTimesCardSaid :=
  Claim7.holds_tied_plain_at .later [] _ _ _ _ said (fun _ h => by cases h) (by kernel_rfl) (fun _ h => by cases h) syntaxTimes_row_tie rfl ⟨rfl, rfl⟩ (by kernel_rfl) rfl plain (by kernel_rfl)
end Go.Proofs.YtcklkjibhgbhiaaGreatDoor.syTimes
