/- The walk of the law TextSides answers true, whatever the texts. -/
import Derived.Test.YthghpmnbnfbheaaTextAwake
namespace Go.Proofs.Ythghpmnbnfbheaa.SeqS
open Go.RowKit Go.Shelf Go.Proofs.Ythghpmnbnfbheaa.SeqM Go.Proofs.Ythghpmnbnfbheaa.PRef Go.Proofs.YthghpmnbnfbheaaW.PrintWords Go.Proofs.Ythghpmnbnfbheaa.Lines
attribute [local go_sem] Oper.semAt_some
set_option linter.unusedVariables false
set_option linter.unusedSimpArgs false
set_option maxHeartbeats 4000000 in
set_option maxRecDepth 100000 in
theorem tsides_long1 (o a b : ByteArray) (w : World) (h : 500 < o.size) :
    Calls Try.prog 4 #[.string o, .string a, .string b] w fun e w' => e = .returned (.bool true) ∧ Below w.heap.size w w' := by
  have go : decide ((500 : Int) < (o.size : Int)) = true := by simp; omega
  have go' : decide (500 < o.size) = true := by simp; omega
  go_enter Try.func4, Try.ntmps4
  go_wp2_with fail
  refine (awake6 _).mono ?_
  rintro e w1 ⟨rfl, hb⟩
  have HB := Lib.hid hb
  clear hb
  go_wp2
  go_ret
  exact ⟨rfl, HB.out⟩
set_option maxHeartbeats 4000000 in
set_option maxRecDepth 100000 in
theorem tsides_long2 (o a b : ByteArray) (w : World) (h : ¬ 500 < o.size) (h' : 500 < a.size) :
    Calls Try.prog 4 #[.string o, .string a, .string b] w fun e w' => e = .returned (.bool true) ∧ Below w.heap.size w w' := by
  have go : decide ((500 : Int) < (o.size : Int)) = false := by simp; omega
  have go' : decide (500 < o.size) = false := by simp; omega
  have ga : decide ((500 : Int) < (a.size : Int)) = true := by simp; omega
  have ga' : decide (500 < a.size) = true := by simp; omega
  go_enter Try.func4, Try.ntmps4
  go_wp2_with fail
  refine (awake6 _).mono ?_
  rintro e w1 ⟨rfl, hb⟩
  have HB := Lib.hid hb
  clear hb
  go_wp2
  go_ret
  exact ⟨rfl, HB.out⟩
set_option maxHeartbeats 4000000 in
set_option maxRecDepth 100000 in
theorem tsides_long3 (o a b : ByteArray) (w : World) (h : ¬ 500 < o.size) (h' : ¬ 500 < a.size) (h'' : 500 < b.size) :
    Calls Try.prog 4 #[.string o, .string a, .string b] w fun e w' => e = .returned (.bool true) ∧ Below w.heap.size w w' := by
  have go : decide ((500 : Int) < (o.size : Int)) = false := by simp; omega
  have go' : decide (500 < o.size) = false := by simp; omega
  have ga : decide ((500 : Int) < (a.size : Int)) = false := by simp; omega
  have ga' : decide (500 < a.size) = false := by simp; omega
  have gb : decide ((500 : Int) < (b.size : Int)) = true := by simp; omega
  have gb' : decide (500 < b.size) = true := by simp; omega
  go_enter Try.func4, Try.ntmps4
  go_wp2_with fail
  refine (awake6 _).mono ?_
  rintro e w1 ⟨rfl, hb⟩
  have HB := Lib.hid hb
  clear hb
  go_wp2
  go_ret
  exact ⟨rfl, HB.out⟩
set_option maxHeartbeats 8000000 in
set_option maxRecDepth 100000 in
theorem tsides_some (o a b s : ByteArray) (w : World) (l0 : o.size ≤ 500) (l1 : a.size ≤ 500) (l2 : b.size ≤ 500) (hm : Text.merge o a b = some s) :
    Calls Try.prog 4 #[.string o, .string a, .string b] w fun e w' => e = .returned (.bool true) ∧ Below w.heap.size w w' := by
  have go : decide ((500 : Int) < (o.size : Int)) = false := by simp; omega
  have go' : decide (500 < o.size) = false := by simp; omega
  have ga : decide ((500 : Int) < (a.size : Int)) = false := by simp; omega
  have ga' : decide (500 < a.size) = false := by simp; omega
  have gb : decide ((500 : Int) < (b.size : Int)) = false := by simp; omega
  have gb' : decide (500 < b.size) = false := by simp; omega
  obtain ⟨C, hC⟩ : ∃ C, C = Text.confl o a b := ⟨_, rfl⟩
  have hz := Text.confl_zero o a b
  rw [hm, ← hC] at hz
  have hC0 : C = 0 := by simpa using hz
  rw [hC0] at hC
  clear hz hC0
  have HM := Lib.hid hm
  have HC := Lib.hid hC
  have HB := Lib.hid (Below.refl w.heap.size w)
  clear hm hC
  go_enter Try.func4, Try.ntmps4
  go_wp2_with fail
  refine (tmerge_calls o a b _ (by omega) (by omega) (by omega)).mono ?_
  rintro e w1 ⟨rfl, hb⟩
  rw [HM.out]
  simp only [Option.isSome_some, Option.getD_some, Option.isSome_none, Option.getD_none]
  replace HB := Lib.hid (HB.out.trans (hb.mono HB.out.size))
  clear hb
  go_wp2_with fail
  refine (tmerge_calls o b a _ (by omega) (by omega) (by omega)).mono ?_
  rintro e w2 ⟨rfl, hb⟩
  rw [Text.merge_swap o a b, HM.out]
  simp only [Option.isSome_some, Option.getD_some, Option.isSome_none, Option.getD_none]
  replace HB := Lib.hid (HB.out.trans (hb.mono HB.out.size))
  clear hb
  go_wp2_with fail
  refine (tmerge_calls o a a _ (by omega) (by omega) (by omega)).mono ?_
  rintro e w3 ⟨rfl, hb⟩
  rw [Text.merge_same]
  simp only [Option.isSome_some, Option.getD_some, Option.isSome_none, Option.getD_none]
  replace HB := Lib.hid (HB.out.trans (hb.mono HB.out.size))
  clear hb
  go_wp2_with fail
  refine (tmerge_calls o o b _ (by omega) (by omega) (by omega)).mono ?_
  rintro e w4 ⟨rfl, hb⟩
  rw [Text.merge_left]
  simp only [Option.isSome_some, Option.getD_some, Option.isSome_none, Option.getD_none]
  replace HB := Lib.hid (HB.out.trans (hb.mono HB.out.size))
  clear hb
  go_wp2_with fail
  refine (tmerge_calls o a o _ (by omega) (by omega) (by omega)).mono ?_
  rintro e w5 ⟨rfl, hb⟩
  rw [Text.merge_right]
  simp only [Option.isSome_some, Option.getD_some, Option.isSome_none, Option.getD_none]
  replace HB := Lib.hid (HB.out.trans (hb.mono HB.out.size))
  clear hb
  go_wp2_with fail
  refine (confl_calls o a b _ (by omega) (by omega) (by omega)).mono ?_
  rintro e w6 ⟨rfl, hb⟩
  rw [← HC.out]
  replace HB := Lib.hid (HB.out.trans (hb.mono HB.out.size))
  clear hb
  go_wp2_with fail
  refine (confl_calls o b a _ (by omega) (by omega) (by omega)).mono ?_
  rintro e w7 ⟨rfl, hb⟩
  rw [Text.confl_swap o a b, ← HC.out]
  replace HB := Lib.hid (HB.out.trans (hb.mono HB.out.size))
  clear hb
  go_wp2_with fail
  refine (awake6 _).mono ?_
  rintro e w8 ⟨rfl, hb⟩
  replace HB := Lib.hid (HB.out.trans (hb.mono HB.out.size))
  clear hb
  go_wp2
  go_ret
  exact ⟨rfl, HB.out⟩
set_option maxHeartbeats 8000000 in
set_option maxRecDepth 100000 in
theorem tsides_none (o a b : ByteArray) (w : World) (l0 : o.size ≤ 500) (l1 : a.size ≤ 500) (l2 : b.size ≤ 500) (hm : Text.merge o a b = none) :
    Calls Try.prog 4 #[.string o, .string a, .string b] w fun e w' => e = .returned (.bool true) ∧ Below w.heap.size w w' := by
  have go : decide ((500 : Int) < (o.size : Int)) = false := by simp; omega
  have go' : decide (500 < o.size) = false := by simp; omega
  have ga : decide ((500 : Int) < (a.size : Int)) = false := by simp; omega
  have ga' : decide (500 < a.size) = false := by simp; omega
  have gb : decide ((500 : Int) < (b.size : Int)) = false := by simp; omega
  have gb' : decide (500 < b.size) = false := by simp; omega
  obtain ⟨C, hC⟩ : ∃ C, C = Text.confl o a b := ⟨_, rfl⟩
  have hz := Text.confl_zero o a b
  rw [hm, ← hC] at hz
  have hC0 : ¬ C = 0 := by simpa using hz
  have z1 : decide ((C : Int) = 0) = false := by simp; omega
  have z2 : decide (C = 0) = false := by simp; omega
  have z4 : ((C : Int) == 0) = false := by simp; omega
  have z3 : decide ((0 : Int) ≤ (C : Int)) = true := by simp
  clear hz
  have HM := Lib.hid hm
  have HC := Lib.hid hC
  have HB := Lib.hid (Below.refl w.heap.size w)
  clear hm hC
  go_enter Try.func4, Try.ntmps4
  go_wp2_with fail
  refine (tmerge_calls o a b _ (by omega) (by omega) (by omega)).mono ?_
  rintro e w1 ⟨rfl, hb⟩
  rw [HM.out]
  simp only [Option.isSome_some, Option.getD_some, Option.isSome_none, Option.getD_none]
  replace HB := Lib.hid (HB.out.trans (hb.mono HB.out.size))
  clear hb
  go_wp2_with fail
  refine (tmerge_calls o b a _ (by omega) (by omega) (by omega)).mono ?_
  rintro e w2 ⟨rfl, hb⟩
  rw [Text.merge_swap o a b, HM.out]
  simp only [Option.isSome_some, Option.getD_some, Option.isSome_none, Option.getD_none]
  replace HB := Lib.hid (HB.out.trans (hb.mono HB.out.size))
  clear hb
  go_wp2_with fail
  refine (tmerge_calls o a a _ (by omega) (by omega) (by omega)).mono ?_
  rintro e w3 ⟨rfl, hb⟩
  rw [Text.merge_same]
  simp only [Option.isSome_some, Option.getD_some, Option.isSome_none, Option.getD_none]
  replace HB := Lib.hid (HB.out.trans (hb.mono HB.out.size))
  clear hb
  go_wp2_with fail
  refine (tmerge_calls o o b _ (by omega) (by omega) (by omega)).mono ?_
  rintro e w4 ⟨rfl, hb⟩
  rw [Text.merge_left]
  simp only [Option.isSome_some, Option.getD_some, Option.isSome_none, Option.getD_none]
  replace HB := Lib.hid (HB.out.trans (hb.mono HB.out.size))
  clear hb
  go_wp2_with fail
  refine (tmerge_calls o a o _ (by omega) (by omega) (by omega)).mono ?_
  rintro e w5 ⟨rfl, hb⟩
  rw [Text.merge_right]
  simp only [Option.isSome_some, Option.getD_some, Option.isSome_none, Option.getD_none]
  replace HB := Lib.hid (HB.out.trans (hb.mono HB.out.size))
  clear hb
  go_wp2_with fail
  refine (confl_calls o a b _ (by omega) (by omega) (by omega)).mono ?_
  rintro e w6 ⟨rfl, hb⟩
  rw [← HC.out]
  replace HB := Lib.hid (HB.out.trans (hb.mono HB.out.size))
  clear hb
  go_wp2_with fail
  refine (confl_calls o b a _ (by omega) (by omega) (by omega)).mono ?_
  rintro e w7 ⟨rfl, hb⟩
  rw [Text.confl_swap o a b, ← HC.out]
  replace HB := Lib.hid (HB.out.trans (hb.mono HB.out.size))
  clear hb
  go_wp2_with fail
  refine (awake6 _).mono ?_
  rintro e w8 ⟨rfl, hb⟩
  replace HB := Lib.hid (HB.out.trans (hb.mono HB.out.size))
  clear hb
  go_wp2
  go_ret
  exact ⟨rfl, HB.out⟩
theorem tsides_law (o a b : ByteArray) (w : World) (_ : o.size ≤ 140737488351232) (_ : a.size ≤ 140737488351232) (_ : b.size ≤ 140737488351232) :
    Calls Try.prog 4 #[.string o, .string a, .string b] w fun e w' => e = .returned (.bool true) ∧ Below w.heap.size w w' := by
  by_cases h1 : 500 < o.size
  · exact tsides_long1 o a b w h1
  · by_cases h2 : 500 < a.size
    · exact tsides_long2 o a b w h1 h2
    · by_cases h3 : 500 < b.size
      · exact tsides_long3 o a b w h1 h2 h3
      · rcases hm : Text.merge o a b with _ | s
        · exact tsides_none o a b w (by omega) (by omega) (by omega) hm
        · exact tsides_some o a b s w (by omega) (by omega) (by omega) hm
end Go.Proofs.Ythghpmnbnfbheaa.SeqS
