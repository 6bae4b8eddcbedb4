/- What every program answers that is one: text's awake. -/
import Derived.Test.YthghpmnbnfbheaaTextRun
namespace Go.Proofs.Ythghpmnbnfbheaa.SeqS
open Go.RowKit Go.Shelf Go.Proofs.Ythghpmnbnfbheaa.SeqM Go.Proofs.Ythghpmnbnfbheaa.PRef Go.Proofs.YthghpmnbnfbheaaW.PrintWords Go.Proofs.Ythghpmnbnfbheaa.Lines
attribute [local go_sem] Oper.semAt_some
set_option linter.unusedVariables false
set_option linter.unusedSimpArgs false
theorem tw1 : Text.merge ⟨#[97, 10, 98, 10]⟩ ⟨#[97, 10, 66, 10]⟩ ⟨#[65, 10, 98, 10]⟩ = none := by kernel_rfl
theorem tw2 : Text.merge ⟨#[97, 10, 98, 10, 99, 10]⟩ ⟨#[65, 10, 98, 10, 99, 10]⟩ ⟨#[97, 10, 98, 10, 67, 10]⟩ = some ⟨#[65, 10, 98, 10, 67, 10]⟩ := by kernel_rfl
theorem tw3 : Text.confl ⟨#[97, 10, 98, 10]⟩ ⟨#[97, 10, 66, 10]⟩ ⟨#[65, 10, 98, 10]⟩ = 1 := by kernel_rfl
theorem tw4 : Text.confl ⟨#[]⟩ ⟨#[120]⟩ ⟨#[120]⟩ = 0 := by kernel_rfl
set_option maxHeartbeats 4000000 in
set_option maxRecDepth 100000 in
theorem awake6 (w : World) : Calls Try.prog 7 #[] w fun e w' => e = .returned (.bool true) ∧ Below w.heap.size w w' := by
  go_enter Try.func7, Try.ntmps7
  go_wp2_with fail
  refine (tmerge_calls _ _ _ _ (by decide) (by decide) (by decide)).mono ?_
  rintro e w1 ⟨rfl, hb⟩
  rw [tw1]
  have HB := Lib.hid hb
  clear hb
  go_wp2_with fail
  refine (tmerge_calls _ _ _ _ (by decide) (by decide) (by decide)).mono ?_
  rintro e w2 ⟨rfl, hb⟩
  rw [tw2]
  replace HB := Lib.hid (HB.out.trans (hb.mono HB.out.size))
  clear hb
  go_wp2_with fail
  refine (confl_calls _ _ _ _ (by decide) (by decide) (by decide)).mono ?_
  rintro e w3 ⟨rfl, hb⟩
  rw [tw3]
  replace HB := Lib.hid (HB.out.trans (hb.mono HB.out.size))
  clear hb
  go_wp2_with fail
  refine (confl_calls _ _ _ _ (by decide) (by decide) (by decide)).mono ?_
  rintro e w4 ⟨rfl, hb⟩
  rw [tw4]
  replace HB := Lib.hid (HB.out.trans (hb.mono HB.out.size))
  clear hb
  go_wp2_with fail
  go_ret
  exact ⟨rfl, HB.out⟩
end Go.Proofs.Ythghpmnbnfbheaa.SeqS
