/- Chapter 38's texts: FormatUint at base 16. -/
import Derived.Test.YtmagojckhfkcdaaGreatDoorUpA
namespace Go.Proofs.YtmagojckhfkcdaaGreatDoor.Sk
open Go Go.RowKit
theorem fu_calls (n : Nat) (hn : n < 18446744073709551616) (w : World) (hL : Lb w) :
    Calls Tryz.prog 25 #[.int .u64 n, .int .i64 16] w fun e w' => e = .returned (.string ⟨(Rs.hx n).toArray⟩) ∧ Below w.heap.size w w' := by
  have hf := fb_lb n (by omega) w hL
  clear hL
  generalize Rs.hx n = H at hf ⊢
  have hin : Calls Tryz.prog 58 #[.int .u64 n, .int .i64 16] w fun e w' => e = .returned (.string ⟨H.toArray⟩) ∧ Below w.heap.size w w' := by
    go_enter Tryz.func58, Tryz.ntmps58
    go_wp2_with (go_at_call 85; refine hf.mono ?_; clear hf; rintro e w' ⟨rfl, hb⟩)
    go_ret
    exact ⟨rfl, hb⟩
  clear hf
  go_enter Tryz.func25, Tryz.ntmps25
  go_wp2_with (go_at_call 58; refine hin.mono ?_; clear hin; rintro e w' ⟨rfl, hb⟩)
  go_ret
  exact ⟨rfl, hb⟩
end Go.Proofs.YtmagojckhfkcdaaGreatDoor.Sk
