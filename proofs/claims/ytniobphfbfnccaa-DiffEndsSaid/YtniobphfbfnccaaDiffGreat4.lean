/-
  What the statements on diff share: comparing loops, what is great, what every program answers that is one.
-/
import Derived.Test.YtniobphfbfnccaaApplyString
import Derived.Test.YtniobphfbfnccaaPRefx8
namespace Go.Proofs.Ytniobphfbfnccaa.DiffCommon
open Go.RowKit Go.IntWalk Go.Proofs.Ytniobphfbfnccaa.PRef Go.Proofs.YtniobphfbfnccaaW.PrintWords Go.Proofs.YtniobphfbfnccaaW.PrintLast Go.Proofs.YtniobphfbfnccaaW.PrintMore Go.Proofs.Ytniobphfbfnccaa.Lcs

theorem w1 {i : Nat} (h : i ≤ 1000000) : wrap64 ((i : Int) + 1) = ((i + 1 : Nat) : Int) := by rw [wrap64_in _ (by omega)]; omega

theorem bytes_ext {a b : ByteArray} (h : a.toList = b.toList) : a = b := by
  rw [ByteArray.toList_eq, ByteArray.toList_eq] at h
  exact ByteArray.ext (Array.ext' h)

theorem sameTexts {a b : List ByteArray} (h : a = b) (hl : a.length ≤ 1000000) : At (fun k => cortegelaw0_SameTexts.f k a b) true := by
  subst h
  have loop : ∀ (d i : Nat), i + d = a.length → At (fun k => cortegelaw0_SameTexts.l0 k a a (i : Int)) true := by
    intro d
    induction d with
    | zero =>
      intro i hi
      refine To.step fun k => ?_
      simp only [cortegelaw0_SameTexts.l0]
      rw [if_neg (by omega)]
    | succ d ih =>
      intro i hi
      refine To.step_trans (fun k => ?_) (ih (i + 1) (by omega))
      simp only [cortegelaw0_SameTexts.l0]
      rw [if_pos (by omega), if_pos (by omega), if_pos (by omega), if_pos trivial, w1 (by omega)]
  refine (To.eq fun k => ?_).trans (loop a.length 0 (by omega))
  unfold cortegelaw0_SameTexts.f
  rw [if_pos rfl]
  rfl

theorem sameSteps {a b : List S40} (h : a = b) (hl : a.length ≤ 1000000) : At (fun k => cortegelaw0_SameSteps.f k a b) true := by
  subst h
  have loop : ∀ (d i : Nat), i + d = a.length → At (fun k => cortegelaw0_SameSteps.l0 k a a (i : Int)) true := by
    intro d
    induction d with
    | zero =>
      intro i hi
      refine To.step fun k => ?_
      simp only [cortegelaw0_SameSteps.l0]
      rw [if_neg (by omega)]
    | succ d ih =>
      intro i hi
      refine To.step_trans (fun k => ?_) (ih (i + 1) (by omega))
      simp only [cortegelaw0_SameSteps.l0]
      rw [if_pos (by omega), if_pos (by omega), if_pos (by omega), if_neg (by simp), w1 (by omega)]
  refine (To.eq fun k => ?_).trans (loop a.length 0 (by omega))
  unfold cortegelaw0_SameSteps.f
  rw [if_pos rfl]
  rfl

/-- Whether texts are too many, or one too long. -/
theorem greatTexts (l : List ByteArray) (m n : Nat) (hm : m ≤ 1000) : ∃ b, At (fun k => cortegelaw0_GreatTexts.f k l (m : Int) (n : Int)) b ∧ (b = false → l.length ≤ m ∧ ∀ s ∈ l, s.size ≤ n) := by
  by_cases hl : l.length ≤ m
  · have loop : ∀ (d i : Nat), i + d = l.length → (∀ j s, j < i → l[j]? = some s → s.size ≤ n) → ∃ b, At (fun k => cortegelaw0_GreatTexts.l0 k l (m : Int) (n : Int) (i : Int)) b ∧ (b = false → ∀ s ∈ l, s.size ≤ n) := by
      intro d
      induction d with
      | zero =>
        intro i hi hs
        refine ⟨false, To.step_trans (h := fun k => cortegelaw0_GreatTexts.j1 k l (m : Int) (n : Int) (i : Int) false) (fun k => ?_) (To.step fun k => ?_), fun _ s hmem => ?_⟩
        · simp only [cortegelaw0_GreatTexts.l0]
          rw [if_neg (by omega)]
        · simp only [cortegelaw0_GreatTexts.j1]
          rw [if_neg Bool.false_ne_true, decide_eq_false (by omega)]
        · obtain ⟨j, hj, rfl⟩ := List.getElem_of_mem hmem
          exact hs j _ (by omega) (List.getElem?_eq_getElem hj)
      | succ d ih =>
        intro i hi hs
        have hi' : i < l.length := by omega
        have he : rdOf ByteArray.empty l (i : Int) = l[i] := by simp [rdOf, List.getD_eq_getElem?_getD, hi']
        have h0 : ∀ k, cortegelaw0_GreatTexts.l0 (k + 1) l (m : Int) (n : Int) (i : Int) = cortegelaw0_GreatTexts.j1 k l (m : Int) (n : Int) (i : Int) true := by
          intro k
          simp only [cortegelaw0_GreatTexts.l0]
          rw [if_pos (by omega), decide_eq_true (by omega)]
        by_cases hsz : l[i].size ≤ n
        · obtain ⟨b, h1, h2⟩ := ih (i + 1) (by omega) (fun j s hj hjs => by
            rcases Nat.lt_or_ge j i with h | h
            · exact hs j s h hjs
            · obtain rfl : j = i := by omega
              rw [List.getElem?_eq_getElem hi'] at hjs
              cases hjs
              exact hsz)
          refine ⟨b, To.step_trans h0 (To.step_trans (fun k => ?_) h1), h2⟩
          simp only [cortegelaw0_GreatTexts.j1]
          rw [if_pos trivial, if_pos (by omega), if_pos (by omega), he, if_neg (by omega), w1 (by omega)]
        · refine ⟨true, To.step_trans h0 (To.step fun k => ?_), fun h => by cases h⟩
          simp only [cortegelaw0_GreatTexts.j1]
          rw [if_pos trivial, if_pos (by omega), if_pos (by omega), he, if_pos (by omega)]
    obtain ⟨b, h1, h2⟩ := loop l.length 0 (by omega) (fun j s hj _ => absurd hj (by omega))
    exact ⟨b, h1, fun hb => ⟨hl, h2 hb⟩⟩
  · refine ⟨true, ?_, fun h => by cases h⟩
    refine To.step_trans (h := fun k => cortegelaw0_GreatTexts.j1 k l (m : Int) (n : Int) 0 false) (fun k => ?_) (To.step fun k => ?_)
    · simp only [cortegelaw0_GreatTexts.f, cortegelaw0_GreatTexts.l0]
      rw [if_pos (by omega), decide_eq_false (by omega)]
    · simp only [cortegelaw0_GreatTexts.j1]
      rw [if_neg Bool.false_ne_true, decide_eq_true (by omega)]

/-- What every program answers that is one. -/
theorem awake : At (fun k => cortegelaw4_awake.f k) true := by
  have hs : Runstring.stepsOf [⟨#[97]⟩, ⟨#[98]⟩, ⟨#[99]⟩] [⟨#[97]⟩, ⟨#[120]⟩, ⟨#[99]⟩] = [⟨1, 1, 1⟩, ⟨1, 0, 0⟩] := by
    simp [Runstring.stepsOf, Runstring.key, pr, L, Runstring.go]
  have ha : Runstring.ap [⟨#[97]⟩, ⟨#[98]⟩, ⟨#[99]⟩] [⟨#[97]⟩, ⟨#[120]⟩, ⟨#[99]⟩] [⟨1, 1, 1⟩, ⟨1, 0, 0⟩] 0 0 [] = ([⟨#[97]⟩, ⟨#[120]⟩, ⟨#[99]⟩], true) := by
    simp [Runstring.ap, Runstring.eat, Runstring.key]
  have hL : ((L (([⟨#[97]⟩, ⟨#[98]⟩, ⟨#[99]⟩] : List ByteArray).map Runstring.key) (([⟨#[97]⟩, ⟨#[120]⟩, ⟨#[99]⟩] : List ByteArray).map Runstring.key) : Nat) : Int) = 2 := by
    simp [Runstring.key, L]
  unfold cortegelaw4_awake.f
  simp only [Option.bind_some]
  have h1 := Runstring.steps [⟨#[97]⟩, ⟨#[98]⟩, ⟨#[99]⟩] [⟨#[97]⟩, ⟨#[120]⟩, ⟨#[99]⟩] (by simp) (by simp)
  rw [hs] at h1
  refine At.bind_at h1 ?_
  have h2 := Runstring.apply [⟨#[97]⟩, ⟨#[98]⟩, ⟨#[99]⟩] [⟨#[97]⟩, ⟨#[120]⟩, ⟨#[99]⟩] (by simp) (by simp) [⟨1, 1, 1⟩, ⟨1, 0, 0⟩] (by simp)
  rw [ha] at h2
  refine At.bind_at h2 (At.bind_at (sameSteps rfl (by simp)) ?_)
  simp only [if_true]
  refine At.bind_at (sameTexts rfl (by simp)) ?_
  simp only [if_true]
  have h3 := Runstring.length [⟨#[97]⟩, ⟨#[98]⟩, ⟨#[99]⟩] [⟨#[97]⟩, ⟨#[120]⟩, ⟨#[99]⟩] (by simp) (by simp)
  rw [hL] at h3
  refine At.bind_at h3 ?_
  exact To.refl _
theorem awake_bind : At (fun k => (cortegelaw4_awake.f k).bind fun t => some t) true := At.bind_at awake (To.refl _)

end Go.Proofs.Ytniobphfbfnccaa.DiffCommon
