/- Chapter 38: the values of the chapter's example. -/
import Derived.Test.YtiooimdncocfdaaGreatDoorKxC
import Derived.Test.YtiooimdncocfdaaGreatDoorKtD
namespace Go.Proofs.YtiooimdncocfdaaGreatDoor.Sk
open Go Go.RowKit
def kJ : ByteArray := ⟨#[106]⟩ ++ ⟨#[254]⟩ ++ ⟨#[97, 255, 49, 255]⟩
def aw1 : List It := [⟨kJ, entX false 4607182418800017408 20⟩, ⟨kJ, entX true 0 21⟩]
theorem aw1_ok : appErr [] aw1 = 0 := by kernel_rfl
theorem aw2_err : appErr aw1 [⟨kJ, entX true 0 22⟩] = 382 := by kernel_rfl
theorem aw3_err : appErr aw1 [⟨kJ, entX false 5 21⟩] = 381 := by kernel_rfl
theorem aw4_right : itemRight (d kJ) (entX false 4607182418800017408 20) = true := by kernel_rfl
def aw4T : B := [115, 97, 109, 112, 108, 101, 32, 50, 48, 32, 51, 102, 102, 48, 48, 48, 48, 48, 48, 48, 48, 48, 48, 48, 48, 48, 32, 45, 32, 106, 37, 70, 69, 97, 37, 70, 70, 49, 37, 70, 70, 32, 120, 37, 70, 70, 49, 37, 70, 70]
theorem aw4_text : textR (d kJ) (entX false 4607182418800017408 20) = aw4T := by kernel_rfl
end Go.Proofs.YtiooimdncocfdaaGreatDoor.Sk
