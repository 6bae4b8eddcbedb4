/- Low: a number from 0 to below n. -/
import Derived.Test.YthghpmnbnfbheaaSeqS

namespace Go.Proofs.Ythghpmnbnfbheaa.SeqI
open Go.RowKit Go.Shelf Go.Proofs.Ythghpmnbnfbheaa.SeqM
attribute [local go_sem] Oper.semAt_some
set_option linter.unusedVariables false
theorem ret_int {k : IntKind} {a b : Int} (h : a = b) : Ending.returned (.int k a) = .returned (.int k b) := by rw [h]
theorem low_num (x : Int) (n : Nat) (h0 : 0 < n) (h1 : n < 100000) : ∃ r : Nat, wrap64 ((IntKind.u64.wrap x).tmod n) = (r : Int) ∧ r < n := by
  have hw : 0 ≤ IntKind.u64.wrap x := by unfold IntKind.wrap; simp [IntKind.signed, IntKind.bits]; omega
  rw [Int.tmod_eq_emod_of_nonneg hw]
  have a := Int.emod_nonneg (IntKind.u64.wrap x) (show (n : Int) ≠ 0 by omega)
  have b := Int.emod_lt_of_pos (IntKind.u64.wrap x) (show (0 : Int) < n by omega)
  obtain ⟨r, hr⟩ := Int.eq_ofNat_of_zero_le a
  rw [hr] at b ⊢
  refine ⟨r, by unfold wrap64; omega, by omega⟩
set_option maxRecDepth 100000 in
theorem low_calls (x : Int) (n : Nat) (w : World) (h0 : 0 < n) (h1 : n < 100000) : Calls Try.prog 12 #[.int .i64 x, .int .i64 n] w fun e w' => (∃ r : Nat, e = .returned (.int .i64 r) ∧ r < n) ∧ w' = w := by
  obtain ⟨r, hr, hl⟩ := low_num x n h0 h1
  have HR := Lib.hid hr
  clear hr
  go_enter Try.func12, Try.ntmps12
  go_wp2
  go_ret
  exact ⟨⟨r, ret_int HR.out, hl⟩, rfl⟩

end Go.Proofs.Ythghpmnbnfbheaa.SeqI
