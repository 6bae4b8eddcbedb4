/-
  What diff tells is what the document's own answer tells: plain Lean over the printed functions.
-/
import Derived.Test.YtniobphfbfnccaaRefSteps
import Derived.Test.YtniobphfbfnccaaDiffGreat4
namespace Go.Proofs.Ytniobphfbfnccaa.Tells
open Go.RowKit Go.IntWalk Go.Proofs.Ytniobphfbfnccaa.PRef Go.Proofs.YtniobphfbfnccaaW.PrintWords Go.Proofs.YtniobphfbfnccaaW.PrintLast Go.Proofs.YtniobphfbfnccaaW.PrintMore Go.Proofs.Ytniobphfbfnccaa.Lcs Go.Proofs.Ytniobphfbfnccaa.DiffCommon

theorem samePairs {a b : List S50} (h : a = b) (hl : a.length ≤ 1000000) : At (fun k => cortegelaw4_samePairs.f k a b) true := by
  subst h
  have loop : ∀ (d i : Nat), i + d = a.length → At (fun k => cortegelaw4_samePairs.l0 k a a (i : Int)) true := by
    intro d
    induction d with
    | zero =>
      intro i hi
      refine To.step fun k => ?_
      simp only [cortegelaw4_samePairs.l0]
      rw [if_neg (by omega)]
    | succ d ih =>
      intro i hi
      refine To.step_trans (fun k => ?_) (ih (i + 1) (by omega))
      simp only [cortegelaw4_samePairs.l0]
      rw [if_pos (by omega), if_pos (by omega), if_pos (by omega), if_neg (by simp), w1 (by omega)]
  refine (To.eq fun k => ?_).trans (loop a.length 0 (by omega))
  unfold cortegelaw4_samePairs.f
  rw [if_pos rfl]
  rfl
theorem ap_len (A B : List ByteArray) : ∀ (steps : List S40) (i j : Nat) (out : List ByteArray), out.length ≤ j → j ≤ B.length → (Runstring.ap A B steps i j out).1.length ≤ B.length
  | [], i, j, out, h1, h2 => by
    simp only [Runstring.ap]
    split
    · simp
    · exact Nat.le_trans h1 h2
  | s :: r, i, j, out, h1, h2 => by
    simp only [Runstring.ap]
    split
    · simp
    · rename_i hb
      split
      · simp
      · rename_i out1 hm
        have hl := Runstring.eat_length hm
        split
        · simp
        · rename_i hc
          refine ap_len A B r _ _ _ ?_ (by omega)
          simp
          omega
theorem go_length (n m : Nat) : ∀ (r : List (Nat × Nat)) (s i j : Nat), (Runstring.go n m s i j r).length ≤ r.length + 1
  | [], s, i, j => by
    unfold Runstring.go
    split
    · simp
    · split <;> simp
  | (p, q) :: r, s, i, j => by
    have h := go_length n m r
    unfold Runstring.go
    split
    · have := h 1 (p + 1) (q + 1)
      simp; omega
    · have := h (s + 1) (p + 1) (q + 1)
      simp; omega
theorem facts (a b : List ByteArray) (st : List S40) (ha : a.length ≤ 40) (hb : b.length ≤ 40) (hs : st.length ≤ 30) :
    ∃ n P S r1 r2 k1 k2 k3 k4 k5 k6 k7 k8 k9 k10 k11, diff_Steps_string.f k1 a b = some S ∧ cortegeref4_Steps.f k2 a b = some S ∧ diff_Apply_string.f k3 a b st = some (r1, r2) ∧ cortegeref4_Apply.f k4 a b st = some (r1, r2) ∧
      diff_Length_string.f k5 a b = some n ∧ cortegeref4_Length.f k6 a b = some n ∧ diff_Pairs_string.f k7 a b = some P ∧ cortegeref4_Pairs.f k8 a b = some P ∧
      cortegelaw4_samePairs.f k9 P P = some true ∧ cortegelaw0_SameSteps.f k10 S S = some true ∧ cortegelaw0_SameTexts.f k11 r1 r1 = some true ∧ S.length ≤ 1000000 ∧ r1.length ≤ 1000000 := by
  have hpl : (pr (a.map Runstring.key) (b.map Runstring.key) 0 0).length ≤ 40 := by
    rw [pr_length]
    have := L_le_left (a.map Runstring.key) (b.map Runstring.key)
    simp at this; omega
  have hP : (Runstring.pairsOf a b).length ≤ 1000000 := by unfold Runstring.pairsOf; rw [List.length_map]; omega
  have hS : (Runstring.stepsOf a b).length ≤ 1000000 := by
    have := go_length a.length b.length (pr (a.map Runstring.key) (b.map Runstring.key) 0 0) 0 0 0
    unfold Runstring.stepsOf
    omega
  have hR := ap_len a b st 0 0 [] (by simp) (by omega)
  obtain ⟨k1, h1⟩ := (Runstring.steps a b (by omega) (by omega)).rounds
  obtain ⟨k2, h2⟩ := (RefRun.steps a b (by omega) (by omega)).rounds
  obtain ⟨k3, h3⟩ := (Runstring.apply a b (by omega) (by omega) st (by omega)).rounds
  obtain ⟨k4, h4⟩ := (RefRun.apply a b (by omega) (by omega) st (by omega)).rounds
  obtain ⟨k5, h5⟩ := (Runstring.length a b (by omega) (by omega)).rounds
  obtain ⟨k6, h6⟩ := (RefRun.length a b (by omega) (by omega)).rounds
  obtain ⟨k7, h7⟩ := (Runstring.pairs a b (by omega) (by omega)).rounds
  obtain ⟨k8, h8⟩ := (RefRun.pairs a b (by omega) (by omega)).rounds
  obtain ⟨k9, h9⟩ := (samePairs (a := Runstring.pairsOf a b) rfl hP).rounds
  obtain ⟨k10, h10⟩ := (sameSteps (a := Runstring.stepsOf a b) rfl hS).rounds
  obtain ⟨r1, r2, hr⟩ : ∃ r1 r2, Runstring.ap a b st 0 0 [] = (r1, r2) := ⟨_, _, rfl⟩
  rw [hr] at h3 h4 hR
  have hR' : r1.length ≤ 1000000 := by have : r1.length ≤ b.length := hR; omega
  obtain ⟨k11, h11⟩ := (sameTexts (a := r1) rfl hR').rounds
  exact ⟨_, _, _, r1, r2, k1, k2, k3, k4, k5, k6, k7, k8, k9, k10, k11, h1, h2, h3, h4, h5, h6, h7, h8, h9, h10, h11, hS, hR'⟩
end Go.Proofs.Ytniobphfbfnccaa.Tells
