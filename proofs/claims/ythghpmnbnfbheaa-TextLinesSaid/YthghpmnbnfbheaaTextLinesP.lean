/- TextLines, plainly: five lines, two of them changed to a great letter, whichever. -/
import Derived.Test.YthghpmnbnfbheaaText
namespace Go.Proofs.Ythghpmnbnfbheaa.Text
open Go.RowKit
def fiveO : ByteArray := ⟨#[97, 10, 98, 10, 99, 10, 100, 10, 101, 10]⟩
def great (x : Nat) : UInt8 := UInt8.ofNat (65 + x)
def fiveA (x : Nat) : ByteArray := ⟨#[97, 10, great x, 10, 99, 10, 100, 10, 101, 10]⟩
def five2 (y : Nat) : ByteArray := ⟨#[97, 10, 98, 10, great y, 10, 100, 10, 101, 10]⟩
def five3 (y : Nat) : ByteArray := ⟨#[97, 10, 98, 10, 99, 10, great y, 10, 101, 10]⟩
def want3 (x y : Nat) : ByteArray := ⟨#[97, 10, great x, 10, 99, 10, great y, 10, 101, 10]⟩
theorem far_all : ((List.range 26).all fun x => (List.range 26).all fun y => decide (merge fiveO (fiveA x) (five3 y) = some (want3 x y))) = true := by kernel_rfl
theorem near_all : ((List.range 26).all fun x => (List.range 26).all fun y => decide (merge fiveO (fiveA x) (five2 y) = none)) = true := by kernel_rfl
end Go.Proofs.Ythghpmnbnfbheaa.Text
