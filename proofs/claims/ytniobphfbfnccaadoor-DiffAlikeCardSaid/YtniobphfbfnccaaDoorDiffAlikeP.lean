/-
  Of numbers diff tells what it tells of their texts: plain Lean over the printed functions.
-/
import Derived.Test.YtniobphfbfnccaaDoorDiffAwake
import Derived.Test.YtniobphfbfnccaaDoorBackInt
import Derived.Test.YtniobphfbfnccaaDoorLcsMap
import Derived.Test.YtniobphfbfnccaaDoorNum
namespace Go.Proofs.YtniobphfbfnccaaDoor.Alike
open Go.RowKit Go.Proofs.YtniobphfbfnccaaDoor.PAll Go.Proofs.YtniobphfbfnccaaDoorW.PrintWords Go.Proofs.YtniobphfbfnccaaDoor.Lcs Go.Proofs.YtniobphfbfnccaaDoor.Num

theorem keyInj (x y : Int) (h : Runstring.key (itoaB x) = Runstring.key (itoaB y)) : x = y := itoaB_inj (DiffCommon.bytes_ext h)
theorem keys (a : List Int) : (a.map itoaB).map Runstring.key = (a.map Runint.key).map fun x => Runstring.key (itoaB x) := by simp [Runint.key]
theorem go_same (n m : Nat) : ∀ (r : List (Nat × Nat)) (s i j : Nat), Runstring.go n m s i j r = Runint.go n m s i j r
  | [], s, i, j => rfl
  | (p, q) :: r, s, i, j => by
    unfold Runstring.go Runint.go
    rw [go_same n m r, go_same n m r]
theorem pr_same (a b : List Int) : pr ((a.map itoaB).map Runstring.key) ((b.map itoaB).map Runstring.key) 0 0 = pr (a.map Runint.key) (b.map Runint.key) 0 0 := by
  rw [keys, keys]
  exact pr_map _ keyInj _ _ _ _
theorem pairs_same (a b : List Int) : Runstring.pairsOf (a.map itoaB) (b.map itoaB) = Runint.pairsOf a b := by
  unfold Runstring.pairsOf Runint.pairsOf
  rw [pr_same]
theorem steps_same (a b : List Int) : Runstring.stepsOf (a.map itoaB) (b.map itoaB) = Runint.stepsOf a b := by
  unfold Runstring.stepsOf Runint.stepsOf
  rw [pr_same, List.length_map, List.length_map, go_same]
theorem len_same (a b : List Int) : L ((a.map itoaB).map Runstring.key) ((b.map itoaB).map Runstring.key) = L (a.map Runint.key) (b.map Runint.key) := by
  rw [keys, keys]
  exact L_map _ keyInj _ _
theorem go_length (n m : Nat) : ∀ (r : List (Nat × Nat)) (s i j : Nat), (Runint.go n m s i j r).length ≤ r.length + 1
  | [], s, i, j => by
    unfold Runint.go
    split
    · simp
    · split <;> simp
  | (p, q) :: r, s, i, j => by
    have h := go_length n m r
    unfold Runint.go
    split
    · have := h 1 (p + 1) (q + 1)
      simp; omega
    · have := h (s + 1) (p + 1) (q + 1)
      simp; omega
theorem facts (a b : List Int) (X Y : List ByteArray) (hX : X = a.map itoaB) (hY : Y = b.map itoaB) (ha : a.length ≤ 40) (hb : b.length ≤ 40) :
    ∃ n P S k1 k2 k3 k4 k5 k6 k7 k8 k9 k10, diff_Steps_int.f k1 a b = some S ∧ diff_Steps_string.f k2 X Y = some S ∧ diff_Apply_int.f k3 a b S = some (b, true) ∧ diff_Length_int.f k4 a b = some n ∧ diff_Length_string.f k5 X Y = some n ∧
      diff_Pairs_int.f k6 a b = some P ∧ diff_Pairs_string.f k7 X Y = some P ∧ cortegelaw4_samePairs.f k8 P P = some true ∧ cortegelaw0_SameSteps.f k9 S S = some true ∧ cortegelaw0_SameInts.f k10 b b = some true := by
  subst hX hY
  have hxl : (a.map itoaB).length ≤ 400 := by simp; omega
  have hyl : (b.map itoaB).length ≤ 400 := by simp; omega
  have hpl : (pr (a.map Runint.key) (b.map Runint.key) 0 0).length ≤ 40 := by
    rw [pr_length]
    have := L_le_left (a.map Runint.key) (b.map Runint.key)
    simp at this; omega
  have hP : (Runint.pairsOf a b).length ≤ 1000000 := by unfold Runint.pairsOf; rw [List.length_map]; omega
  have hS : (Runint.stepsOf a b).length ≤ 1000000 := by
    have := go_length a.length b.length (pr (a.map Runint.key) (b.map Runint.key) 0 0) 0 0 0
    unfold Runint.stepsOf
    omega
  obtain ⟨k1, h1⟩ := (Runint.steps a b (by omega) (by omega)).rounds
  obtain ⟨k2, h2⟩ := (Runstring.steps (a.map itoaB) (b.map itoaB) hxl hyl).rounds
  obtain ⟨k3, h3⟩ := (Runint.apply a b (by omega) (by omega) (Runint.stepsOf a b) hS).rounds
  obtain ⟨k4, h4⟩ := (Runint.length a b (by omega) (by omega)).rounds
  obtain ⟨k5, h5⟩ := (Runstring.length (a.map itoaB) (b.map itoaB) hxl hyl).rounds
  obtain ⟨k6, h6⟩ := (Runint.pairs a b (by omega) (by omega)).rounds
  obtain ⟨k7, h7⟩ := (Runstring.pairs (a.map itoaB) (b.map itoaB) hxl hyl).rounds
  obtain ⟨k8, h8⟩ := (DiffCommon.samePairs (a := Runint.pairsOf a b) rfl hP).rounds
  obtain ⟨k9, h9⟩ := (DiffCommon.sameSteps (a := Runint.stepsOf a b) rfl hS).rounds
  obtain ⟨k10, h10⟩ := (DiffCommon.sameInts (a := b) rfl (by omega)).rounds
  rw [steps_same] at h2
  rw [len_same] at h5
  rw [pairs_same] at h7
  rw [Runint.ap_steps (fun x y h => h)] at h3
  exact ⟨_, _, _, k1, k2, k3, k4, k5, k6, k7, k8, k9, k10, h1, h2, h3, h4, h5, h6, h7, h8, h9, h10⟩
theorem awake : ∃ k, cortegelaw4_awake.f k = some true := DiffCommon.awake.rounds
end Go.Proofs.YtniobphfbfnccaaDoor.Alike
