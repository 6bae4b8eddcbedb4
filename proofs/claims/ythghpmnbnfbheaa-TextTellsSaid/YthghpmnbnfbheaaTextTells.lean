/- The walk of the law TextTells answers true, whatever the texts. -/
import Derived.Test.YthghpmnbnfbheaaTextDoc
import Derived.Test.YthghpmnbnfbheaaTextAwake
namespace Go.Proofs.Ythghpmnbnfbheaa.SeqS
open Go.RowKit Go.Shelf Go.Proofs.Ythghpmnbnfbheaa.SeqM Go.Proofs.Ythghpmnbnfbheaa.PRef Go.Proofs.YthghpmnbnfbheaaW.PrintWords Go.Proofs.Ythghpmnbnfbheaa.Lines
attribute [local go_sem] Oper.semAt_some
set_option linter.unusedVariables false
set_option linter.unusedSimpArgs false
set_option maxHeartbeats 4000000 in
set_option maxRecDepth 100000 in
theorem ttells_long1 (o a b : ByteArray) (w : World) (h : 500 < o.size) :
    Calls Try.prog 3 #[.string o, .string a, .string b] w fun e w' => e = .returned (.bool true) ∧ Below w.heap.size w w' := by
  have go : decide ((500 : Int) < (o.size : Int)) = true := by simp; omega
  have go' : decide (500 < o.size) = true := by simp; omega
  go_enter Try.func3, Try.ntmps3
  go_wp2_with fail
  refine (awake6 _).mono ?_
  rintro e w1 ⟨rfl, hb⟩
  have HB := Lib.hid hb
  clear hb
  go_wp2
  go_ret
  exact ⟨rfl, HB.out⟩
set_option maxHeartbeats 4000000 in
set_option maxRecDepth 100000 in
theorem ttells_long2 (o a b : ByteArray) (w : World) (h : ¬ 500 < o.size) (h' : 500 < a.size) :
    Calls Try.prog 3 #[.string o, .string a, .string b] w fun e w' => e = .returned (.bool true) ∧ Below w.heap.size w w' := by
  have go : decide ((500 : Int) < (o.size : Int)) = false := by simp; omega
  have go' : decide (500 < o.size) = false := by simp; omega
  have ga : decide ((500 : Int) < (a.size : Int)) = true := by simp; omega
  have ga' : decide (500 < a.size) = true := by simp; omega
  go_enter Try.func3, Try.ntmps3
  go_wp2_with fail
  refine (awake6 _).mono ?_
  rintro e w1 ⟨rfl, hb⟩
  have HB := Lib.hid hb
  clear hb
  go_wp2
  go_ret
  exact ⟨rfl, HB.out⟩
set_option maxHeartbeats 4000000 in
set_option maxRecDepth 100000 in
theorem ttells_long3 (o a b : ByteArray) (w : World) (h : ¬ 500 < o.size) (h' : ¬ 500 < a.size) (h'' : 500 < b.size) :
    Calls Try.prog 3 #[.string o, .string a, .string b] w fun e w' => e = .returned (.bool true) ∧ Below w.heap.size w w' := by
  have go : decide ((500 : Int) < (o.size : Int)) = false := by simp; omega
  have go' : decide (500 < o.size) = false := by simp; omega
  have ga : decide ((500 : Int) < (a.size : Int)) = false := by simp; omega
  have ga' : decide (500 < a.size) = false := by simp; omega
  have gb : decide ((500 : Int) < (b.size : Int)) = true := by simp; omega
  have gb' : decide (500 < b.size) = true := by simp; omega
  go_enter Try.func3, Try.ntmps3
  go_wp2_with fail
  refine (awake6 _).mono ?_
  rintro e w1 ⟨rfl, hb⟩
  have HB := Lib.hid hb
  clear hb
  go_wp2
  go_ret
  exact ⟨rfl, HB.out⟩
set_option maxHeartbeats 8000000 in
set_option maxRecDepth 100000 in
theorem ttells_short (o a b : ByteArray) (w : World) (l0 : o.size ≤ 500) (l1 : a.size ≤ 500) (l2 : b.size ≤ 500) :
    Calls Try.prog 3 #[.string o, .string a, .string b] w fun e w' => e = .returned (.bool true) ∧ Below w.heap.size w w' := by
  have go : decide ((500 : Int) < (o.size : Int)) = false := by simp; omega
  have go' : decide (500 < o.size) = false := by simp; omega
  have ga : decide ((500 : Int) < (a.size : Int)) = false := by simp; omega
  have ga' : decide (500 < a.size) = false := by simp; omega
  have gb : decide ((500 : Int) < (b.size : Int)) = false := by simp; omega
  have gb' : decide (500 < b.size) = false := by simp; omega
  obtain ⟨m, hm⟩ : ∃ m, m = (Text.merge o a b).getD ⟨#[]⟩ := ⟨_, rfl⟩
  obtain ⟨k, hk⟩ : ∃ k, k = (Text.merge o a b).isSome := ⟨_, rfl⟩
  obtain ⟨n, hn⟩ : ∃ n, n = Text.confl o a b := ⟨_, rfl⟩
  have HM := Lib.hid hm
  have HK := Lib.hid hk
  have HN := Lib.hid hn
  clear hm hk hn
  go_enter Try.func3, Try.ntmps3
  go_wp2_with fail
  refine (tmerge_calls o a b _ (by omega) (by omega) (by omega)).mono ?_
  rintro e w1 ⟨rfl, hb⟩
  rw [← HM.out, ← HK.out]
  have HB := Lib.hid hb
  clear hb
  go_wp2_with fail
  refine (dmerge_calls o a b _ l0 l1 l2).mono ?_
  rintro e w2 ⟨rfl, hb⟩
  rw [← HM.out, ← HK.out]
  replace HB := Lib.hid (HB.out.trans (hb.mono HB.out.size))
  clear hb
  go_wp2_with fail
  refine (confl_calls o a b _ (by omega) (by omega) (by omega)).mono ?_
  rintro e w3 ⟨rfl, hb⟩
  rw [← HN.out]
  replace HB := Lib.hid (HB.out.trans (hb.mono HB.out.size))
  clear hb
  go_wp2_with fail
  refine (dconfl_calls o a b _ l0 l1 l2).mono ?_
  rintro e w4 ⟨rfl, hb⟩
  rw [← HN.out]
  replace HB := Lib.hid (HB.out.trans (hb.mono HB.out.size))
  clear hb
  go_wp2_with fail
  refine (awake6 _).mono ?_
  rintro e w5 ⟨rfl, hb⟩
  replace HB := Lib.hid (HB.out.trans (hb.mono HB.out.size))
  clear hb
  go_wp2_with fail
  go_ret
  exact ⟨rfl, HB.out⟩
theorem ttells_law (o a b : ByteArray) (w : World) (_ : o.size ≤ 140737488351232) (_ : a.size ≤ 140737488351232) (_ : b.size ≤ 140737488351232) :
    Calls Try.prog 3 #[.string o, .string a, .string b] w fun e w' => e = .returned (.bool true) ∧ Below w.heap.size w w' := by
  by_cases h1 : 500 < o.size
  · exact ttells_long1 o a b w h1
  · by_cases h2 : 500 < a.size
    · exact ttells_long2 o a b w h1 h2
    · by_cases h3 : 500 < b.size
      · exact ttells_long3 o a b w h1 h2 h3
      · exact ttells_short o a b w (by omega) (by omega) (by omega)
end Go.Proofs.Ythghpmnbnfbheaa.SeqS
