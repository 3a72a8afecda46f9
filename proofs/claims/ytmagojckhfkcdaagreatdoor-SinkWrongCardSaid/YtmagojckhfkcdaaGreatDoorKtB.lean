/- Chapter 38's texts: what an item's text is; what is read of the variables. -/
import Derived.Test.YtmagojckhfkcdaaGreatDoorKtA
import Derived.Test.YtmagojckhfkcdaaGreatDoorKtF
import Derived.Test.YtmagojckhfkcdaaGreatDoorKrA
import Derived.Test.YtmagojckhfkcdaaGreatDoorLaid
import Derived.Test.YtmagojckhfkcdaaGreatDoorKjA
import Derived.Lib.AppendIntMem
import Derived.Lib.ItoaLen
namespace Go.Proofs.YtmagojckhfkcdaaGreatDoor.Sk
open Go Go.RowKit
/-- bits in sixteen digits -/
def bitsT (b : Int) : B := Lib.repeatL [48] (16 - (Rs.hx b.toNat).length) ++ Rs.hx b.toNat
def headW (e : Ent) : List B :=
  if e.mark then [[109, 97, 114, 107, 101, 114], Lib.itoa e.stamp] else [[115, 97, 109, 112, 108, 101], Lib.itoa e.stamp, bitsT e.bits, if e.st then Lib.itoa e.time else [45]]
/-- the text of an item that is right -/
def textR (k : B) (e : Ent) : B := Lib.join (headW e ++ [wordS k, wordS (bytesS e.lab)]) [32]
def textT (k : B) (e : Ent) : B := if itemRight k e then textR k e else []
def textErr (k : B) (e : Ent) : Int := if itemRight k e then 0 else 380
/-- numbers that Go's types hold -/
structure EntIn (e : Ent) : Prop where
  b0 : 0 ≤ e.bits
  b1 : e.bits < 18446744073709551616
  t0 : -9223372036854775808 ≤ e.time
  t1 : e.time ≤ 9223372036854775807
  s0 : -9223372036854775808 ≤ e.stamp
  s1 : e.stamp ≤ 9223372036854775807
/-- what chapter 38 reads of the variables -/
structure Ev (w : World) : Prop where
  lb : Lb w
  kv : Kv w
  pow : Lib.TabIs Tryz.prog w "internal/strconv.uint64pow10" .u64 Lib.pow10Tab
theorem Ev.below {w w' : World} (h : Ev w) (hb : Below w.heap.size w w') : Ev w' := ⟨h.lb.below hb, h.kv.below hb (Nat.le_refl _), Lib.tabBelow_of_tabIs h.pow w' hb⟩
theorem itoa_calls (n : Int) (h0 : -9223372036854775808 ≤ n) (h1 : n ≤ 9223372036854775807) (w : World) (hE : Ev w) :
    Calls Tryz.prog 24 #[.int .i64 n] w fun e w' => e = .returned (.string ⟨(Lib.itoa n).toArray⟩) ∧ Below w.heap.size w w' :=
  (Tryz.strconv_Itoa n h0 h1 w hE.pow).mono fun e w' h => ⟨h.1, by obtain ⟨k, os, rfl⟩ := h.2; exact Lib.below_grow _ _ (Nat.le_refl _) _ _⟩
theorem hx_len16 {b : Int} (h1 : b < 18446744073709551616) : (Rs.hx b.toNat).length ≤ 16 := Rs.hx_len 15 _ (by
  show b.toNat < 16 ^ 16
  omega)
theorem word_len (s : B) : (wordS s).length ≤ 3 * s.length + 3 := by
  unfold wordS
  split
  · simp
  · split
    · simp
    · have := wordF_len s
      omega
theorem bitsT_len {b : Int} (h1 : b < 18446744073709551616) : (bitsT b).length ≤ 32 := by
  have := hx_len16 h1
  unfold bitsT
  rw [List.length_append, Lib.repeatL_length]
  simp
  omega
end Go.Proofs.YtmagojckhfkcdaaGreatDoor.Sk
