/- script.awake's plain values. -/
import Derived.Test.YtipccndoffcfiaaDoorScriptParse
import Derived.Test.YtipccndoffcfiaaDoorScriptHexQ
namespace Go.Proofs.YtipccndoffcfiaaDoor.Script
open Go.RowKit Go.Proofs.YtipccndoffcfiaaDoor.PRef
set_option maxRecDepth 100000 in
theorem awake_one : parseP ⟨#[115, 101, 116, 32, 49, 32, 50, 32, 51, 32, 52, 32, 53, 10, 101, 118, 32, 50, 32, 57, 10, 97, 115, 107, 32, 48, 102, 10]⟩ = ([1, 2, 3, 4, 5], [⟨2, 9, ⟨#[]⟩⟩, ⟨1, 0, ⟨#[15]⟩⟩], 0, 0) := by kernel_rfl
set_option maxRecDepth 100000 in
theorem awake_two : parseP ⟨#[101, 118, 32, 50, 32, 49, 10, 101, 118, 32, 49, 32, 48]⟩ = ([0, 0, 0, 0, 0], [], 2, 10) := by kernel_rfl
theorem awake_hex : hexP ⟨#[15, 122]⟩ = ⟨#[48, 102, 55, 97]⟩ := by kernel_rfl
end Go.Proofs.YtipccndoffcfiaaDoor.Script
