/- A number's text, as the statements of chapter 1 make it. -/
import Derived.Test.YtnagjilogadinaaDoorSeqMapS
import Derived.Test.YtnagjilogadinaaDoorNum
namespace Go.Proofs.YtnagjilogadinaaDoor.SeqK
open Go.RowKit Go.Shelf Go.Proofs.YtnagjilogadinaaDoor.SeqM Go.Proofs.YtnagjilogadinaaDoor.SeqI Go.Proofs.YtnagjilogadinaaDoor.Num
set_option linter.unusedVariables false
set_option maxRecDepth 100000 in
theorem text_calls (x : Int) (w : World) (hx : (Lit.int .i64 x).wf = true) (ht : Tab w) : Calls Tryd.prog 6 #[.int .i64 x] w fun e w' => e = .returned (.string (itoaB x)) ∧ Below w.heap.size w w' := by
  have HT := Lib.hid ht
  clear ht
  go_enter Tryd.func6, Tryd.ntmps6
  go_wp2_with (go_at_call 23; refine (itoa_calls x _ hx HT.out).mono ?_; rintro e w1 ⟨rfl, hb⟩; have HB := Lib.hid hb; clear hb)
  go_ret
  exact ⟨rfl, HB.out⟩
theorem entersT : ∀ args w, (callFunc 6 args).run Tryd.prog w = .ok (.enter 6 args) w := enters_of Tryd.func6 (by kernel_rfl) rfl
theorem text_fn (xs : List Int) (hx : ∀ x ∈ xs, (Lit.int .i64 x).wf = true) (W : World) (ht : Tab W) : FnX (.func (.func 6) #[] #[]) xs (fun x => .string (itoaB x)) (fun k => k = 0) W :=
  ⟨fun k h => by subst h; exact ht.lt, 6, #[], rfl, entersT, fun W2 hk n x hm => callsIn_wide.2 (text_calls x W2 (hx x hm) (ht.block (hk.block 0 ht.lt rfl)))⟩
end Go.Proofs.YtnagjilogadinaaDoor.SeqK
