/- Plain facts for Append: what is known of lines, entry by entry. -/
import Derived.Test.YtiooimdncocfdaaGreatDoorKgA
namespace Go.Proofs.YtiooimdncocfdaaGreatDoor.Sk
theorem know_agree {g h : Line → Last} {ks : List Line} (hgh : ∀ q ∈ ks, g q = h q) (x : It) : ∀ q ∈ ks, know g x q = know h x q := by
  intro q hq
  unfold know upd
  split
  · rfl
  · exact hgh q hq
theorem know_none {g : Line → Last} {ks : List Line} (hg : ∀ q, q ∉ ks → g q = none) {x : It} (hx : lineOf x ∈ ks) : ∀ q, q ∉ ks → know g x q = none := by
  intro q hq
  unfold know upd
  rw [if_neg (fun e => hq (by rw [e]; exact hx))]
  exact hg q hq
theorem fol_agree {g h : Line → Last} {x : It} (hx : g (lineOf x) = h (lineOf x)) : fol g x = fol h x := by
  unfold fol
  rw [hx]
theorem know_keeps {q : Line} : ∀ (xs : List It) (f : Line → Last), xs.foldl know f q = none → f q = none
  | [], _, h => h
  | x :: r, f, h => by
    have := know_keeps r (know f x) h
    unfold know upd at this
    split at this
    · cases this
    · exact this
theorem know_other {q : Line} : ∀ (xs : List It) (f : Line → Last), (∀ x ∈ xs, lineOf x ≠ q) → xs.foldl know f q = f q
  | [], _, _ => rfl
  | x :: r, f, h => by
    have h1 := know_other r (know f x) (fun y hy => h y (List.mem_cons_of_mem _ hy))
    simp only [List.foldl_cons]
    rw [h1]
    unfold know upd
    rw [if_neg (fun e => h x (List.mem_cons_self ..) e.symm)]
theorem merge_end {f g h : Line → Last} {ks : List Line} {xs : List It} (hks : ks = xs.map lineOf) (hh : h = xs.foldl know f) (hgh : ∀ q ∈ ks, g q = h q) (hg : ∀ q, q ∉ ks → g q = none) : merge f g = h := by
  funext q
  unfold merge
  by_cases hq : q ∈ ks
  · rw [hgh q hq]
    cases e : h q with
    | some v => rfl
    | none =>
      rw [hh] at e
      exact know_keeps xs f e
  · rw [hg q hq, hh]
    refine (know_other xs f (fun x hx e => hq ?_)).symm
    rw [hks, ← e]
    exact List.mem_map_of_mem hx
theorem lastOf_append (l m : List It) : lastOf (l ++ m) = m.foldl know (lastOf l) := by unfold lastOf; rw [List.foldl_append]
theorem appGo_at {h : Line → Last} {xs : List It} {k : Nat} {x : It} (hx : xs[k]? = some x) : appGo h (xs.drop k) = if fol h x = 0 then appGo (know h x) (xs.drop (k + 1)) else fol h x := by
  have hk := (List.getElem?_eq_some_iff.1 hx).1
  rw [List.drop_eq_getElem_cons hk, (List.getElem?_eq_some_iff.1 hx).2, appGo]
theorem fold_at {f : Line → Last} {xs : List It} {k : Nat} {x : It} (hx : xs[k]? = some x) : (xs.take (k + 1)).foldl know f = know ((xs.take k).foldl know f) x := by
  have : xs.take (k + 1) = xs.take k ++ [x] := by rw [List.take_add_one, hx]; rfl
  rw [this, List.foldl_append]
  rfl
end Go.Proofs.YtiooimdncocfdaaGreatDoor.Sk
