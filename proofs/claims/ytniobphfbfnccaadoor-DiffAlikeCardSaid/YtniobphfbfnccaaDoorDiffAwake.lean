/-
  What the statements on diff share: comparing loops, what is great, what every program answers that is one.
-/
import Derived.Test.YtniobphfbfnccaaDoorApplyString
import Derived.Test.YtniobphfbfnccaaDoorPAllx12
import Derived.Test.YtniobphfbfnccaaDoorPAllx13
namespace Go.Proofs.YtniobphfbfnccaaDoor.DiffCommon
open Go.RowKit Go.IntWalk Go.Proofs.YtniobphfbfnccaaDoor.PAll Go.Proofs.YtniobphfbfnccaaDoorW.PrintWords Go.Proofs.YtniobphfbfnccaaDoorW.PrintLast Go.Proofs.YtniobphfbfnccaaDoorW.PrintMore Go.Proofs.YtniobphfbfnccaaDoor.Lcs

theorem w1 {i : Nat} (h : i ≤ 1000000) : wrap64 ((i : Int) + 1) = ((i + 1 : Nat) : Int) := by rw [wrap64_in _ (by omega)]; omega

theorem bytes_ext {a b : ByteArray} (h : a.toList = b.toList) : a = b := by
  rw [ByteArray.toList_eq, ByteArray.toList_eq] at h
  exact ByteArray.ext (Array.ext' h)

theorem sameTexts {a b : List ByteArray} (h : a = b) (hl : a.length ≤ 1000000) : At (fun k => cortegelaw0_SameTexts.f k a b) true := by
  subst h
  have loop : ∀ (d i : Nat), i + d = a.length → At (fun k => cortegelaw0_SameTexts.l0 k a a (i : Int)) true := by
    intro d
    induction d with
    | zero =>
      intro i hi
      refine To.step fun k => ?_
      simp only [cortegelaw0_SameTexts.l0]
      rw [if_neg (by omega)]
    | succ d ih =>
      intro i hi
      refine To.step_trans (fun k => ?_) (ih (i + 1) (by omega))
      simp only [cortegelaw0_SameTexts.l0]
      rw [if_pos (by omega), if_pos (by omega), if_pos (by omega), if_pos trivial, w1 (by omega)]
  refine (To.eq fun k => ?_).trans (loop a.length 0 (by omega))
  unfold cortegelaw0_SameTexts.f
  rw [if_pos rfl]
  rfl

theorem sameSteps {a b : List S42} (h : a = b) (hl : a.length ≤ 1000000) : At (fun k => cortegelaw0_SameSteps.f k a b) true := by
  subst h
  have loop : ∀ (d i : Nat), i + d = a.length → At (fun k => cortegelaw0_SameSteps.l0 k a a (i : Int)) true := by
    intro d
    induction d with
    | zero =>
      intro i hi
      refine To.step fun k => ?_
      simp only [cortegelaw0_SameSteps.l0]
      rw [if_neg (by omega)]
    | succ d ih =>
      intro i hi
      refine To.step_trans (fun k => ?_) (ih (i + 1) (by omega))
      simp only [cortegelaw0_SameSteps.l0]
      rw [if_pos (by omega), if_pos (by omega), if_pos (by omega), if_neg (by simp), w1 (by omega)]
  refine (To.eq fun k => ?_).trans (loop a.length 0 (by omega))
  unfold cortegelaw0_SameSteps.f
  rw [if_pos rfl]
  rfl

theorem awake : At (fun k => cortegelaw4_awake.f k) true := by
  have hs : Runstring.stepsOf [⟨#[97]⟩, ⟨#[98]⟩, ⟨#[99]⟩] [⟨#[97]⟩, ⟨#[120]⟩, ⟨#[99]⟩] = [⟨1, 1, 1⟩, ⟨1, 0, 0⟩] := by
    simp [Runstring.stepsOf, Runstring.key, pr, L, Runstring.go]
  have ha : Runstring.ap [⟨#[97]⟩, ⟨#[98]⟩, ⟨#[99]⟩] [⟨#[97]⟩, ⟨#[120]⟩, ⟨#[99]⟩] [⟨1, 1, 1⟩, ⟨1, 0, 0⟩] 0 0 [] = ([⟨#[97]⟩, ⟨#[120]⟩, ⟨#[99]⟩], true) := by
    simp [Runstring.ap, Runstring.eat, Runstring.key]
  have hL : ((L (([⟨#[97]⟩, ⟨#[98]⟩, ⟨#[99]⟩] : List ByteArray).map Runstring.key) (([⟨#[97]⟩, ⟨#[120]⟩, ⟨#[99]⟩] : List ByteArray).map Runstring.key) : Nat) : Int) = 2 := by
    simp [Runstring.key, L]
  unfold cortegelaw4_awake.f
  simp only [Option.bind_some]
  have h1 := Runstring.steps [⟨#[97]⟩, ⟨#[98]⟩, ⟨#[99]⟩] [⟨#[97]⟩, ⟨#[120]⟩, ⟨#[99]⟩] (by simp) (by simp)
  rw [hs] at h1
  refine At.bind_at h1 ?_
  have h2 := Runstring.apply [⟨#[97]⟩, ⟨#[98]⟩, ⟨#[99]⟩] [⟨#[97]⟩, ⟨#[120]⟩, ⟨#[99]⟩] (by simp) (by simp) [⟨1, 1, 1⟩, ⟨1, 0, 0⟩] (by simp)
  rw [ha] at h2
  refine At.bind_at h2 (At.bind_at (sameSteps rfl (by simp)) ?_)
  simp only [if_true]
  refine At.bind_at (sameTexts rfl (by simp)) ?_
  simp only [if_true]
  have h3 := Runstring.length [⟨#[97]⟩, ⟨#[98]⟩, ⟨#[99]⟩] [⟨#[97]⟩, ⟨#[120]⟩, ⟨#[99]⟩] (by simp) (by simp)
  rw [hL] at h3
  refine At.bind_at h3 ?_
  exact To.refl _
theorem awake_bind : At (fun k => (cortegelaw4_awake.f k).bind fun t => some t) true := At.bind_at awake (To.refl _)

theorem samePairs {a b : List S44} (h : a = b) (hl : a.length ≤ 1000000) : At (fun k => cortegelaw4_samePairs.f k a b) true := by
  subst h
  have loop : ∀ (d i : Nat), i + d = a.length → At (fun k => cortegelaw4_samePairs.l0 k a a (i : Int)) true := by
    intro d
    induction d with
    | zero =>
      intro i hi
      refine To.step fun k => ?_
      simp only [cortegelaw4_samePairs.l0]
      rw [if_neg (by omega)]
    | succ d ih =>
      intro i hi
      refine To.step_trans (fun k => ?_) (ih (i + 1) (by omega))
      simp only [cortegelaw4_samePairs.l0]
      rw [if_pos (by omega), if_pos (by omega), if_pos (by omega), if_neg (by simp), w1 (by omega)]
  refine (To.eq fun k => ?_).trans (loop a.length 0 (by omega))
  unfold cortegelaw4_samePairs.f
  rw [if_pos rfl]
  rfl

theorem sameInts {a b : List Int} (h : a = b) (hl : a.length ≤ 1000000) : At (fun k => cortegelaw0_SameInts.f k a b) true := by
  subst h
  have loop : ∀ (d i : Nat), i + d = a.length → At (fun k => cortegelaw0_SameInts.l0 k a a (i : Int)) true := by
    intro d
    induction d with
    | zero =>
      intro i hi
      refine To.step fun k => ?_
      simp only [cortegelaw0_SameInts.l0]
      rw [if_neg (by omega)]
    | succ d ih =>
      intro i hi
      refine To.step_trans (fun k => ?_) (ih (i + 1) (by omega))
      simp only [cortegelaw0_SameInts.l0]
      rw [if_pos (by omega), if_pos (by omega), if_pos (by omega), if_pos trivial, w1 (by omega)]
  refine (To.eq fun k => ?_).trans (loop a.length 0 (by omega))
  unfold cortegelaw0_SameInts.f
  rw [if_pos rfl]
  rfl

end Go.Proofs.YtniobphfbfnccaaDoor.DiffCommon
