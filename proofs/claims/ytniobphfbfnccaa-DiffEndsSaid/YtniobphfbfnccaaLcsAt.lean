/-
  The table of the lengths of common lists, filled from behind: plain Lean, no Go.
-/
import Derived.Test.YtniobphfbfnccaaLcs
namespace Go.Proofs.Ytniobphfbfnccaa.Lcs
open Go.Proofs.YtniobphfbfnccaaW.PrintWords

section
variable {β : Type} [DecidableEq β]

theorem L_drop_eq {A B : List β} {i j : Nat} (hi : i < A.length) (hj : j < B.length) (h : A[i] = B[j]) : L (A.drop i) (B.drop j) = L (A.drop (i + 1)) (B.drop (j + 1)) + 1 := by
  rw [List.drop_eq_getElem_cons hi, List.drop_eq_getElem_cons hj, L_cons_eq _ _ h]
theorem L_drop_ne {A B : List β} {i j : Nat} (hi : i < A.length) (hj : j < B.length) (h : ¬ A[i] = B[j]) : L (A.drop i) (B.drop j) = max (L (A.drop (i + 1)) (B.drop j)) (L (A.drop i) (B.drop (j + 1))) := by
  conv => lhs; rw [List.drop_eq_getElem_cons hi, List.drop_eq_getElem_cons hj, L_cons_ne _ _ h]
  rw [← List.drop_eq_getElem_cons hi, ← List.drop_eq_getElem_cons hj]
theorem pr_drop_eq {A B : List β} {i j : Nat} (hi : i < A.length) (hj : j < B.length) (h : A[i] = B[j]) : pr (A.drop i) (B.drop j) i j = (i, j) :: pr (A.drop (i + 1)) (B.drop (j + 1)) (i + 1) (j + 1) := by
  rw [List.drop_eq_getElem_cons hi, List.drop_eq_getElem_cons hj, pr_eq _ _ _ _ h]
theorem pr_drop_down {A B : List β} {i j : Nat} (hi : i < A.length) (hj : j < B.length) (h : ¬ A[i] = B[j]) (hL : L (A.drop i) (B.drop (j + 1)) ≤ L (A.drop (i + 1)) (B.drop j)) : pr (A.drop i) (B.drop j) i j = pr (A.drop (i + 1)) (B.drop j) (i + 1) j := by
  rw [List.drop_eq_getElem_cons hi] at hL ⊢
  rw [List.drop_eq_getElem_cons hj] at hL ⊢
  rw [pr_down _ _ _ _ h hL]
theorem pr_drop_right {A B : List β} {i j : Nat} (hi : i < A.length) (hj : j < B.length) (h : ¬ A[i] = B[j]) (hL : ¬ L (A.drop i) (B.drop (j + 1)) ≤ L (A.drop (i + 1)) (B.drop j)) : pr (A.drop i) (B.drop j) i j = pr (A.drop i) (B.drop (j + 1)) i (j + 1) := by
  rw [List.drop_eq_getElem_cons hi] at hL ⊢
  rw [List.drop_eq_getElem_cons hj] at hL ⊢
  rw [pr_right _ _ _ _ h hL]

/-- A place of a table. -/
def g2 (t : List (List Int)) (r s : Nat) : Int := (t.getD r []).getD s 0
/-- The table's shape: rows and columns one more than the lists are long. -/
def Shape (n m : Nat) (t : List (List Int)) : Prop := t.length = n + 1 ∧ ∀ r, r ≤ n → (t.getD r []).length = m + 1
/-- A table that is filled from behind, as far as row i from column c on; ahead of it zeros. -/
def Part (A B : List β) (i c : Nat) (t : List (List Int)) : Prop :=
  Shape A.length B.length t ∧ ∀ r s, r ≤ A.length → s ≤ B.length → g2 t r s = if i < r ∨ r = i ∧ c ≤ s then (L (A.drop r) (B.drop s) : Int) else 0
/-- A whole table. -/
def Tab (A B : List β) (t : List (List Int)) : Prop := Shape A.length B.length t ∧ ∀ r s, r ≤ A.length → s ≤ B.length → g2 t r s = (L (A.drop r) (B.drop s) : Int)

theorem g2_set {n m : Nat} {t : List (List Int)} (hs : Shape n m t) {i c : Nat} (hi : i ≤ n) (hc : c ≤ m) (v : Int) (r s : Nat) :
    g2 (t.set i ((t.getD i []).set c v)) r s = if r = i ∧ s = c then v else g2 t r s := by
  unfold g2
  have h1 := hs.1
  have h2 := hs.2 i hi
  by_cases hr : r = i
  · subst hr
    have e : (t.set r ((t.getD r []).set c v)).getD r [] = (t.getD r []).set c v := by
      simp [List.getD_eq_getElem?_getD, show r < t.length by omega]
    rw [e]
    by_cases hsc : s = c
    · subst hsc
      rw [if_pos ⟨rfl, rfl⟩]
      rw [List.getD_eq_getElem?_getD, List.getElem?_set_self (by omega)]
      rfl
    · rw [if_neg (by omega)]
      rw [List.getD_eq_getElem?_getD, List.getElem?_set_ne (by omega), ← List.getD_eq_getElem?_getD]
  · rw [if_neg (by omega)]
    have e : (t.set i ((t.getD i []).set c v)).getD r [] = t.getD r [] := by
      rw [List.getD_eq_getElem?_getD, List.getElem?_set_ne (by omega), ← List.getD_eq_getElem?_getD]
    rw [e]
theorem Shape.set {n m : Nat} {t : List (List Int)} (hs : Shape n m t) (i c : Nat) (v : Int) : Shape n m (t.set i ((t.getD i []).set c v)) := by
  refine ⟨by rw [List.length_set, hs.1], fun r hr => ?_⟩
  by_cases e : r = i
  · subst e
    have h1 := hs.1
    have : (t.set r ((t.getD r []).set c v)).getD r [] = (t.getD r []).set c v := by
      simp [List.getD_eq_getElem?_getD, show r < t.length by omega]
    rw [this, List.length_set, hs.2 r hr]
  · have : (t.set i ((t.getD i []).set c v)).getD r [] = t.getD r [] := by
      rw [List.getD_eq_getElem?_getD, List.getElem?_set_ne (by omega), ← List.getD_eq_getElem?_getD]
    rw [this, hs.2 r hr]

/-- A new table of zeros. -/
theorem zeros_get (n m r s : Nat) (hr : r ≤ n) (hs : s ≤ m) : g2 (List.replicate (n + 1) (List.replicate (m + 1) 0)) r s = 0 := by
  unfold g2
  simp [List.getD_eq_getElem?_getD, show r < n + 1 by omega, show s < m + 1 by omega]
theorem zeros_shape (n m : Nat) : Shape n m (List.replicate (n + 1) (List.replicate (m + 1) 0)) := by
  refine ⟨by simp, fun r hr => ?_⟩
  simp [List.getD_eq_getElem?_getD, show r < n + 1 by omega]
/-- Ahead of row n nothing is written: the last row and the last column are zeros in every case. -/
theorem part_zeros (A B : List β) : Part A B A.length 0 (List.replicate (A.length + 1) (List.replicate (B.length + 1) 0)) := by
  refine ⟨zeros_shape _ _, fun r s hr hs => ?_⟩
  rw [zeros_get _ _ _ _ hr hs]
  by_cases h : A.length < r ∨ r = A.length ∧ 0 ≤ s
  · rw [if_pos h]
    obtain rfl : r = A.length := by omega
    simp [L_nil]
  · rw [if_neg h]
/-- The next row: its last column is done. -/
theorem Part.row {A B : List β} {i : Nat} {t : List (List Int)} (h : Part A B (i + 1) 0 t) : Part A B i B.length t := by
  refine ⟨h.1, fun r s hr hs => ?_⟩
  rw [h.2 r s hr hs]
  by_cases h1 : i + 1 < r ∨ r = i + 1 ∧ 0 ≤ s
  · rw [if_pos h1, if_pos (by omega)]
  · rw [if_neg h1]
    by_cases h2 : i < r ∨ r = i ∧ B.length ≤ s
    · rw [if_pos h2]
      obtain rfl : s = B.length := by omega
      simp [L_nil']
    · rw [if_neg h2]
/-- One more place is written. -/
theorem Part.put {A B : List β} {i c : Nat} {t : List (List Int)} (h : Part A B i (c + 1) t) (hi : i ≤ A.length) (hc : c ≤ B.length) (v : Int) (hv : v = (L (A.drop i) (B.drop c) : Int)) :
    Part A B i c (t.set i ((t.getD i []).set c v)) := by
  refine ⟨h.1.set _ _ _, fun r s hr hs => ?_⟩
  rw [g2_set h.1 hi hc]
  by_cases e : r = i ∧ s = c
  · obtain ⟨rfl, rfl⟩ := e
    rw [if_pos ⟨rfl, rfl⟩, if_pos (by omega), hv]
  · rw [if_neg e, h.2 r s hr hs]
    by_cases h1 : i < r ∨ r = i ∧ c + 1 ≤ s
    · rw [if_pos h1, if_pos (by omega)]
    · rw [if_neg h1, if_neg (by omega)]
theorem Part.tab {A B : List β} {t : List (List Int)} (h : Part A B 0 0 t) : Tab A B t := by
  refine ⟨h.1, fun r s hr hs => ?_⟩
  rw [h.2 r s hr hs, if_pos (by omega)]
end
end Go.Proofs.Ytniobphfbfnccaa.Lcs
