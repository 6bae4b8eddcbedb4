/- The functions that SeqNests gives to Map and Filter. -/
import Derived.Test.YtnagjilogadinaaSeqJoin
import Derived.Test.YtnagjilogadinaaSeqAwake
import Derived.Test.YtnagjilogadinaaSeqLists
import Derived.Deep.RegionWith

namespace Go.Proofs.Ytnagjilogadinaa.SeqI
open Go.RowKit Go.Shelf Go.Proofs.Ytnagjilogadinaa.SeqM
attribute [local go_sem] Oper.semAt_some
set_option linter.unusedVariables false

def upF (x : Int) : Int := wrap64 (x + 3)
def timesF (x : Int) : Int := wrap64 (x * 5)
def thirdB (x : Int) : Bool := x.tmod 3 == 0
set_option maxRecDepth 100000 in
theorem up_calls (x : Int) (w : World) : Calls Try.prog 24 #[.int .i64 x] w fun e w' => e = .returned (.int .i64 (upF x)) ∧ w' = w := by
  go_enter Try.func24, Try.ntmps24
  go_wp2
  go_ret
  exact ⟨rfl, rfl⟩
set_option maxRecDepth 100000 in
theorem times_calls (x : Int) (w : World) : Calls Try.prog 25 #[.int .i64 x] w fun e w' => e = .returned (.int .i64 (timesF x)) ∧ w' = w := by
  go_enter Try.func25, Try.ntmps25
  go_wp2
  go_ret
  exact ⟨rfl, rfl⟩
set_option maxRecDepth 100000 in
theorem third_calls (x : Int) (w : World) : Calls Try.prog 27 #[.int .i64 x] w fun e w' => e = .returned (.bool (thirdB x)) ∧ w' = w := by
  go_enter Try.func27, Try.ntmps27
  go_wp2
  go_ret
  exact ⟨rfl, rfl⟩
theorem enters24 : ∀ args w, (callFunc 24 args).run Try.prog w = .ok (.enter 24 args) w := enters_of Try.func24 (by kernel_rfl) rfl
theorem enters25 : ∀ args w, (callFunc 25 args).run Try.prog w = .ok (.enter 25 args) w := enters_of Try.func25 (by kernel_rfl) rfl
theorem enters26 : ∀ args w, (callFunc 26 args).run Try.prog w = .ok (.enter 26 args) w := enters_of Try.func26 (by kernel_rfl) rfl
theorem enters27 : ∀ args w, (callFunc 27 args).run Try.prog w = .ok (.enter 27 args) w := enters_of Try.func27 (by kernel_rfl) rfl
theorem enters29 : ∀ args w, (callFunc 29 args).run Try.prog w = .ok (.enter 29 args) w := enters_of Try.func29 (by kernel_rfl) rfl
theorem up_fn (W : World) : FnV (.func (.func 24) #[] #[]) (fun x => .int .i64 (upF x)) (fun _ => False) W :=
  ⟨fun _ h => h.elim, 24, #[], rfl, enters24, fun W2 _ n x => (callsIn_wide.2 (up_calls x W2)).mono fun e w' ⟨he, hw⟩ => ⟨he, by rw [hw]; exact Below.refl _ _⟩⟩
theorem times_fn (W : World) : FnV (.func (.func 25) #[] #[]) (fun x => .int .i64 (timesF x)) (fun _ => False) W :=
  ⟨fun _ h => h.elim, 25, #[], rfl, enters25, fun W2 _ n x => (callsIn_wide.2 (times_calls x W2)).mono fun e w' ⟨he, hw⟩ => ⟨he, by rw [hw]; exact Below.refl _ _⟩⟩
theorem third_fn (W : World) : FnV (.func (.func 27) #[] #[]) (fun x => .bool (thirdB x)) (fun _ => False) W :=
  ⟨fun _ h => h.elim, 27, #[], rfl, enters27, fun W2 _ n x => (callsIn_wide.2 (third_calls x W2)).mono fun e w' ⟨he, hw⟩ => ⟨he, by rw [hw]; exact Below.refl _ _⟩⟩

set_option maxRecDepth 100000 in
theorem both_calls (b6 b5 : Nat) (x : Int) (w : World) (h6 : w.cell? ⟨b6, 0, none⟩ = some (.func (.func 25) #[] #[])) (h5 : w.cell? ⟨b5, 0, none⟩ = some (.func (.func 24) #[] #[])) :
    Calls Try.prog 26 #[.int .i64 x, .pointer (some ⟨b6, 0, none⟩), .pointer (some ⟨b5, 0, none⟩)] w fun e w' => e = .returned (.int .i64 (timesF (upF x))) ∧ Below w.heap.size w w' := by
  go_enter Try.func26, Try.ntmps26
  go_wp2
  go_region_with (first
    | (go_at_call 24; refine (up_calls _ _).mono ?_; rintro e w1 ⟨rfl, rfl⟩)
    | (go_at_call 25; refine (times_calls _ _).mono ?_; rintro e w1 ⟨rfl, rfl⟩)
    | fail)
  all_goals go_wp2
  all_goals go_ret
  all_goals exact ⟨rfl, rfl, rfl, rfl, Nat.le_refl _, fun _ _ => rfl⟩
theorem both_fn (b6 b5 : Nat) (W : World) (h6 : Boxed W b6 35 (.func (.func 25) #[] #[])) (h5 : Boxed W b5 35 (.func (.func 24) #[] #[])) :
    FnV (.func (.func 26) #[] #[.pointer (some ⟨b6, 0, none⟩), .pointer (some ⟨b5, 0, none⟩)]) (fun x => .int .i64 (timesF (upF x))) (fun k => k = b6 ∨ k = b5) W := by
  refine ⟨?_, 26, _, rfl, enters26, fun W2 hk n x => ?_⟩
  rotate_left
  · have k6 : Boxed W2 b6 35 _ := (hk.block _ h6.lt (.inl rfl)).trans h6
    have k5 : Boxed W2 b5 35 _ := (hk.block _ h5.lt (.inr rfl)).trans h5
    exact callsIn_wide.2 (both_calls b6 b5 x W2 k6.cell k5.cell)
  rintro k (rfl | rfl)
  · exact h6.lt
  · exact h5.lt
set_option maxRecDepth 100000 in
theorem apart_calls (b : Nat) (x : Int) (w : World) (h : w.cell? ⟨b, 0, none⟩ = some (.func (.func 27) #[] #[])) :
    Calls Try.prog 29 #[.int .i64 x, .pointer (some ⟨b, 0, none⟩)] w fun e w' => e = .returned (.bool (evenB x && thirdB x)) ∧ Below w.heap.size w w' := by
  go_enter Try.func29, Try.ntmps29
  go_wp2
  all_goals go_ret
  all_goals refine ⟨?_, by first | exact Below.refl _ _ | exact ⟨rfl, rfl, rfl, Nat.le_refl _, fun _ _ => rfl⟩⟩
  all_goals simp_all [evenB, thirdB]
theorem apart_fn (b : Nat) (W : World) (h6 : Boxed W b 37 (.func (.func 27) #[] #[])) :
    FnV (.func (.func 29) #[] #[.pointer (some ⟨b, 0, none⟩)]) (fun x => .bool (evenB x && thirdB x)) (fun k => k = b) W := by
  refine ⟨?_, 29, _, rfl, enters29, fun W2 hk n x => ?_⟩
  rotate_left
  · have k6 : Boxed W2 b 37 _ := (hk.block _ h6.lt rfl).trans h6
    exact callsIn_wide.2 (apart_calls b x W2 k6.cell)
  rintro k rfl
  exact h6.lt
end Go.Proofs.Ytnagjilogadinaa.SeqI
