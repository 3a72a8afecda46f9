/- The law ClassWrong: it returns true, whatever the input. -/
import Derived.Test.YtiooimdncocfdaaGreatDoorWr0
import Derived.Test.YtiooimdncocfdaaGreatDoorWr1
import Derived.Test.YtiooimdncocfdaaGreatDoorWr2
import Derived.Test.YtiooimdncocfdaaGreatDoorWr3
import Derived.Test.YtiooimdncocfdaaGreatDoorWr4
import Derived.Test.YtiooimdncocfdaaGreatDoorWr5
namespace Go.Proofs.YtiooimdncocfdaaGreatDoor
open Go.RowKit Go.Shelf
theorem ClassWrong_calls (a : Option Addr) (ca : Nat) (l : List Rs.Sm) (x1 x2 n x4 : Int) (w : World) (hL : Lv w) (hsl : Sm w a ca l) (hn : ca ≤ maxLen) (h10 : 0 ≤ x1) (h11 : x1 ≤ 255) (h20 : 0 ≤ x2) (h40 : 0 ≤ x4) (h41 : x4 ≤ 255) (hn0 : -9223372036854775808 ≤ n) (hn1 : n ≤ 9223372036854775807) :
    Calls Tryz.prog 3 #[.slice a l.length ca, .int .u8 x1, .int .u8 x2, .int .i64 n, .int .u8 x4] w fun e w' => e = .returned (.bool true) ∧ Below w.heap.size w w' := by
  rcases (show x2 % 6 = 0 ∨ x2 % 6 = 1 ∨ x2 % 6 = 2 ∨ x2 % 6 = 3 ∨ x2 % 6 = 4 ∨ x2 % 6 = 5 by omega) with h | h | h | h | h | h
  · exact wrong_0 a ca l x1 x2 n x4 w hL hsl hn h10 h11 h20 h40 h41 h hn0 hn1
  · exact wrong_1 a ca l x1 x2 n x4 w hL hsl hn h10 h11 h20 h40 h41 h hn0 hn1
  · exact wrong_2 a ca l x1 x2 n x4 w hL hsl hn h10 h11 h20 h40 h41 h hn0 hn1
  · exact wrong_3 a ca l x1 x2 n x4 w hL hsl hn h10 h11 h20 h40 h41 h hn0 hn1
  · exact wrong_4 a ca l x1 x2 n x4 w hL hsl hn h10 h11 h20 h40 h41 h hn0 hn1
  · exact wrong_5 a ca l x1 x2 n x4 w hL hsl hn h10 h11 h20 h40 h41 h hn0 hn1
end Go.Proofs.YtiooimdncocfdaaGreatDoor
