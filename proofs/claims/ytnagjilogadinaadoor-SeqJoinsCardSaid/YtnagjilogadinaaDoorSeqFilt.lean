/- Filter, as a sequence, tells just the elements that pass. -/
import Derived.Test.YtnagjilogadinaaDoorSeqF
import Derived.Shelf.RegionOpen

namespace Go.Proofs.YtnagjilogadinaaDoor.SeqI
open Go.RowKit Go.Shelf Go.Proofs.YtnagjilogadinaaDoor.SeqM
attribute [local go_sem] Oper.semAt_some
set_option linter.unusedVariables false
/-- A maker's post: the sequence xs, what it asks to be kept is R and two new boxes. -/
def MadePost (w : World) (xs : List Int) (e : Ending) (w' : World) : Prop := ∃ fv R, e = .returned fv ∧ SeqV fv xs R w' ∧ Below w.heap.size w w'

theorem enters34 : ∀ args w, (callFunc 29 args).run Tryd.prog w = .ok (.enter 29 args) w := enters_of Tryd.func29 (by kernel_rfl) rfl
set_option maxRecDepth 100000 in
theorem filter_calls (w : World) (sv fv : Value) (p : Int → Bool) (xs : List Int) (Rs Rf : Fp) (hs : SeqV sv xs Rs w) (hf : FnV fv (fun x => .bool (p x)) Rf w) :
    Calls Tryd.prog 16 #[sv, fv] w (MadePost w (xs.filter p)) := by
  have HS := Lib.hid hs
  have HF := Lib.hid hf
  obtain ⟨_, gf, lb, rfl, _⟩ := hs
  obtain ⟨_, g2, lb2, rfl, _⟩ := hf
  go_enter Tryd.func16, Tryd.ntmps16
  go_wp2
  go_ret
  have hB : Below w.heap.size w ((w.alloc (.cells #[.func (.func gf) #[] lb] 29)).alloc (.cells #[.func (.func g2) #[] lb2] 26)) := ((Below.refl _ w).alloc (Nat.le_refl _) _).alloc (by simp) _
  have c1 := ((Boxed.new w 29 (.func (.func gf) #[] lb)).alloc (.cells #[.func (.func g2) #[] lb2] 26))
  have c2 := Boxed.new (w.alloc (.cells #[.func (.func gf) #[] lb] 29)) 26 (.func (.func g2) #[] lb2)
  simp only [World.size_alloc] at c2
  have s1 := HS.out.below hB
  have s2 := HF.out.below hB
  refine ⟨_, R2 w.heap.size (w.heap.size + 1) Rs Rf, rfl, ⟨?_, 29, _, rfl, enters34, fun W2 hk => ?_⟩, hB⟩
  · rintro k ((rfl | rfl) | h | h)
    · exact c1.lt
    · exact c2.lt
    · exact s1.1 k h
    · exact s2.1 k h
  · have k1 : Boxed W2 w.heap.size 29 (.func (.func gf) #[] lb) := (hk.block _ c1.lt (.inl (.inl rfl))).trans c1
    have k2 : Boxed W2 (w.heap.size + 1) 26 (.func (.func g2) #[] lb2) := (hk.block _ c2.lt (.inl (.inr rfl))).trans c2
    exact filter1 _ _ _ _ p xs Rs Rf W2 k1 k2 (s1.keep (hk.mono fun k _ h => .inr (.inl h))) (s2.keep (hk.mono fun k _ h => .inr (.inr h)))
end Go.Proofs.YtnagjilogadinaaDoor.SeqI
