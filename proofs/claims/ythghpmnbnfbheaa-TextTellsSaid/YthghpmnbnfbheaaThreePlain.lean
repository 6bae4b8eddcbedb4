/-
  The longest list that two lists have in common: plain Lean, no Go.
-/
import Derived.Test.YthghpmnbnfbheaaWWords
section
namespace Go.Proofs.Ythghpmnbnfbheaa.Lcs

/-! ### Rounds -/
/-- With enough rounds the one loop stands where the other begins. -/
def To {α : Type} (g h : Nat → Option α) : Prop := ∃ K M, ∀ k, M ≤ k → g (k + K) = h k
theorem To.refl {α : Type} (g : Nat → Option α) : To g g := ⟨0, 0, fun _ _ => rfl⟩
theorem To.trans {α : Type} {g h p : Nat → Option α} (a : To g h) (b : To h p) : To g p := by
  obtain ⟨K, M, a⟩ := a
  obtain ⟨K', M', b⟩ := b
  refine ⟨K + K', M + M', fun k hk => ?_⟩
  rw [show k + (K + K') = (k + K') + K from by omega, a _ (by omega), b _ (by omega)]
theorem To.step {α : Type} {g h : Nat → Option α} (a : ∀ k, g (k + 1) = h k) : To g h := ⟨1, 0, fun k _ => a k⟩
theorem To.eq {α : Type} {g h : Nat → Option α} (a : ∀ k, g k = h k) : To g h := ⟨0, 0, fun k _ => a k⟩
theorem To.step_trans {α : Type} {g h p : Nat → Option α} (a : ∀ k, g (k + 1) = h k) (b : To h p) : To g p := (To.step a).trans b
/-- What tells at last is a result. -/
def At {α : Type} (g : Nat → Option α) (r : α) : Prop := To g (fun _ => some r)
theorem At.rounds {α : Type} {g : Nat → Option α} {r : α} (h : At g r) : ∃ k, g k = some r := by
  obtain ⟨K, M, h⟩ := h
  exact ⟨M + K, h M (Nat.le_refl _)⟩
theorem At.late {α : Type} {g : Nat → Option α} {r : α} (h : At g r) : ∃ M, ∀ k, M ≤ k → g k = some r := by
  obtain ⟨K, M, h⟩ := h
  refine ⟨M + K, fun k hk => ?_⟩
  have := h (k - K) (by omega)
  rwa [show k - K + K = k from by omega] at this
theorem At.of_late {α : Type} {g : Nat → Option α} {r : α} (M : Nat) (h : ∀ k, M ≤ k → g k = some r) : At g r := ⟨0, M, h⟩
theorem At.now {α : Type} (r : α) : At (fun _ => some r) r := To.refl _
/-- A call that tells a is passed. -/
theorem At.bind {α γ : Type} {g : Nat → Option α} {a : α} (h : At g a) (F : Nat → α → Option γ) : To (fun k => (g k).bind (F k)) (fun k => F k a) := by
  obtain ⟨M, h⟩ := h.late
  exact ⟨0, M, fun k hk => by simp [h k hk]⟩
theorem At.bind_at {α γ : Type} {g : Nat → Option α} {a : α} (h : At g a) {F : Nat → α → Option γ} {r : γ} (k : At (fun k => F k a) r) : At (fun k => (g k).bind (F k)) r := (h.bind F).trans k

section
variable {β : Type} [DecidableEq β]

/-- How long the longest list is that both have. -/
def L : List β → List β → Nat
  | [], _ => 0
  | _ :: _, [] => 0
  | x :: a, y :: b => if x = y then L a b + 1 else max (L a (y :: b)) (L (x :: a) b)
termination_by a b => a.length + b.length

theorem L_nil (b : List β) : L [] b = 0 := by rw [L]
theorem L_nil' (a : List β) : L a [] = 0 := by cases a <;> simp [L]
theorem L_cons_eq {x y : β} (a b : List β) (h : x = y) : L (x :: a) (y :: b) = L a b + 1 := by rw [L, if_pos h]
theorem L_cons_ne {x y : β} (a b : List β) (h : ¬ x = y) : L (x :: a) (y :: b) = max (L a (y :: b)) (L (x :: a) b) := by rw [L, if_neg h]

theorem L_le_left : ∀ (a b : List β), L a b ≤ a.length
  | [], b => by simp [L]
  | x :: a, [] => by simp [L]
  | x :: a, y :: b => by
    have h1 := L_le_left a b
    have h2 := L_le_left a (y :: b)
    have h3 := L_le_left (x :: a) b
    rw [L]
    split
    · simp; omega
    · simp at h2 h3 ⊢; omega
termination_by a b => a.length + b.length

theorem L_comm : ∀ (a b : List β), L a b = L b a
  | [], b => by rw [L_nil, L_nil']
  | x :: a, [] => by rw [L_nil, L_nil']
  | x :: a, y :: b => by
    by_cases h : x = y
    · rw [L_cons_eq _ _ h, L_cons_eq _ _ h.symm, L_comm a b]
    · rw [L_cons_ne _ _ h, L_cons_ne _ _ (fun e => h e.symm), L_comm a (y :: b), L_comm (x :: a) b, Nat.max_comm]
termination_by a b => a.length + b.length
theorem L_le_right (a b : List β) : L a b ≤ b.length := by rw [L_comm]; exact L_le_left b a

/-- A list that both have is no longer. -/
theorem L_ge : ∀ (a b c : List β), c.Sublist a → c.Sublist b → c.length ≤ L a b
  | [], b, c, ha, hb => by simp [List.sublist_nil.1 ha]
  | x :: a, [], c, ha, hb => by simp [List.sublist_nil.1 hb]
  | x :: a, y :: b, c, ha, hb => by
    by_cases h : x = y
    · subst h
      rw [L_cons_eq _ _ rfl]
      cases c with
      | nil => simp
      | cons z c =>
        have ha' : c.Sublist a := by
          cases ha with
          | cons _ h => exact (List.sublist_cons_self z c).trans h
          | cons_cons _ h => exact h
        have hb' : c.Sublist b := by
          cases hb with
          | cons _ h => exact (List.sublist_cons_self z c).trans h
          | cons_cons _ h => exact h
        have := L_ge a b c ha' hb'
        simp; omega
    · rw [L_cons_ne _ _ h]
      cases ha with
      | cons _ ha => have := L_ge a (y :: b) c ha hb; omega
      | cons_cons _ ha =>
        cases hb with
        | cons _ hb => have := L_ge (x :: a) b _ (ha.cons_cons x) hb; omega
        | cons_cons _ hb => exact absurd rfl h
termination_by a b => a.length + b.length

/-- There is a list of that length that both have. -/
theorem L_exists : ∀ (a b : List β), ∃ c : List β, c.Sublist a ∧ c.Sublist b ∧ c.length = L a b
  | [], b => ⟨[], by simp, by simp, by simp [L]⟩
  | x :: a, [] => ⟨[], by simp, by simp, by simp [L]⟩
  | x :: a, y :: b => by
    by_cases h : x = y
    · subst h
      obtain ⟨c, h1, h2, h3⟩ := L_exists a b
      exact ⟨x :: c, h1.cons_cons x, h2.cons_cons x, by rw [L_cons_eq _ _ rfl]; simp [h3]⟩
    · rw [L_cons_ne _ _ h]
      rcases Nat.le_total (L a (y :: b)) (L (x :: a) b) with hle | hle
      · obtain ⟨c, h1, h2, h3⟩ := L_exists (x :: a) b
        exact ⟨c, h1, h2.cons y, by omega⟩
      · obtain ⟨c, h1, h2, h3⟩ := L_exists a (y :: b)
        exact ⟨c, h1.cons x, h2, by omega⟩
termination_by a b => a.length + b.length

theorem L_reverse (a b : List β) : L a.reverse b.reverse = L a b := by
  have key : ∀ a b : List β, L a b ≤ L a.reverse b.reverse := by
    intro a b
    obtain ⟨c, h1, h2, h3⟩ := L_exists a b
    have := L_ge a.reverse b.reverse c.reverse (List.reverse_sublist.2 h1) (List.reverse_sublist.2 h2)
    simp at this; omega
  have h1 := key a b
  have h2 := key a.reverse b.reverse
  simp at h2
  omega
theorem L_head (h a b : List β) : L (h ++ a) (h ++ b) = h.length + L a b := by
  induction h with
  | nil => simp
  | cons x h ih => rw [List.cons_append, List.cons_append, L_cons_eq _ _ rfl, ih]; simp; omega
theorem L_tail (a b t : List β) : L (a ++ t) (b ++ t) = L a b + t.length := by
  rw [← L_reverse, List.reverse_append, List.reverse_append, L_head, L_reverse]
  simp; omega
theorem L_self (a : List β) : L a a = a.length := by
  have := L_head a [] []
  simpa [L] using this

/-- The places of the longest list that both have, the first list's first. -/
def pr : List β → List β → Nat → Nat → List (Nat × Nat)
  | [], _, _, _ => []
  | _ :: _, [], _, _ => []
  | x :: a, y :: b, i, j =>
    if x = y then (i, j) :: pr a b (i + 1) (j + 1)
    else if L (x :: a) b ≤ L a (y :: b) then pr a (y :: b) (i + 1) j
    else pr (x :: a) b i (j + 1)
termination_by a b => a.length + b.length

theorem pr_nil (b : List β) (i j : Nat) : pr [] b i j = [] := by rw [pr]
theorem pr_nil' (a : List β) (i j : Nat) : pr a [] i j = [] := by cases a <;> simp [pr]
theorem pr_eq {x y : β} (a b : List β) (i j : Nat) (h : x = y) : pr (x :: a) (y :: b) i j = (i, j) :: pr a b (i + 1) (j + 1) := by rw [pr, if_pos h]
theorem pr_down {x y : β} (a b : List β) (i j : Nat) (h : ¬ x = y) (hL : L (x :: a) b ≤ L a (y :: b)) : pr (x :: a) (y :: b) i j = pr a (y :: b) (i + 1) j := by rw [pr, if_neg h, if_pos hL]
theorem pr_right {x y : β} (a b : List β) (i j : Nat) (h : ¬ x = y) (hL : ¬ L (x :: a) b ≤ L a (y :: b)) : pr (x :: a) (y :: b) i j = pr (x :: a) b i (j + 1) := by rw [pr, if_neg h, if_neg hL]

theorem pr_length : ∀ (a b : List β) (i j : Nat), (pr a b i j).length = L a b
  | [], b, i, j => by simp [pr, L]
  | x :: a, [], i, j => by simp [pr, L]
  | x :: a, y :: b, i, j => by
    by_cases h : x = y
    · rw [pr_eq _ _ _ _ h, L_cons_eq _ _ h, List.length_cons, pr_length a b]
    · rw [L_cons_ne _ _ h]
      by_cases hL : L (x :: a) b ≤ L a (y :: b)
      · rw [pr_down _ _ _ _ h hL, pr_length a (y :: b)]; omega
      · rw [pr_right _ _ _ _ h hL, pr_length (x :: a) b]; omega
termination_by a b => a.length + b.length

/-- Rising pairs of places with like elements. -/
def Good (a b : List β) : Nat → Nat → List (Nat × Nat) → Prop
  | _, _, [] => True
  | i, j, (p, q) :: r => i ≤ p ∧ j ≤ q ∧ (∃ x, a[p]? = some x ∧ b[q]? = some x) ∧ Good a b (p + 1) (q + 1) r
omit [DecidableEq β] in
theorem Good.weak {a b : List β} {i j i' j' : Nat} {l : List (Nat × Nat)} (h : Good a b i j l) (hi : i' ≤ i) (hj : j' ≤ j) : Good a b i' j' l := by
  cases l with
  | nil => trivial
  | cons x r => obtain ⟨p, q⟩ := x; obtain ⟨h1, h2, h3, h4⟩ := h; exact ⟨by omega, by omega, h3, h4⟩
theorem pr_good (A B : List β) : ∀ (a b : List β) (i j : Nat), A.drop i = a → B.drop j = b → Good A B i j (pr a b i j)
  | [], b, i, j, _, _ => by rw [pr_nil]; trivial
  | x :: a, [], i, j, _, _ => by rw [pr_nil']; trivial
  | x :: a, y :: b, i, j, ha, hb => by
    have ha' : A.drop (i + 1) = a := by rw [← List.drop_drop, ha]; rfl
    have hb' : B.drop (j + 1) = b := by rw [← List.drop_drop, hb]; rfl
    have hax : A[i]? = some x := by
      have := congrArg (·[0]?) ha
      simpa using this
    have hby : B[j]? = some y := by
      have := congrArg (·[0]?) hb
      simpa using this
    by_cases h : x = y
    · rw [pr_eq _ _ _ _ h]
      exact ⟨Nat.le_refl _, Nat.le_refl _, ⟨x, hax, by rw [hby, h]⟩, pr_good A B a b (i + 1) (j + 1) ha' hb'⟩
    · by_cases hL : L (x :: a) b ≤ L a (y :: b)
      · rw [pr_down _ _ _ _ h hL]
        exact (pr_good A B a (y :: b) (i + 1) j ha' hb).weak (by omega) (Nat.le_refl _)
      · rw [pr_right _ _ _ _ h hL]
        exact (pr_good A B (x :: a) b i (j + 1) ha hb').weak (Nat.le_refl _) (by omega)
termination_by a b => a.length + b.length
theorem pr_head (h a b : List β) (i j : Nat) : pr (h ++ a) (h ++ b) i j = (List.range h.length).map (fun n => (i + n, j + n)) ++ pr a b (i + h.length) (j + h.length) := by
  induction h generalizing i j with
  | nil => simp
  | cons x h ih =>
    rw [List.cons_append, List.cons_append, pr_eq _ _ _ _ rfl, ih, List.length_cons, List.range_succ_eq_map]
    simp only [List.map_cons, List.map_map, List.cons_append, Nat.add_zero, List.cons.injEq, true_and]
    congr 1
    · apply List.map_congr_left
      intro n _
      simp only [Function.comp]
      congr 1 <;> omega
    · congr 1 <;> omega
end
end Go.Proofs.Ythghpmnbnfbheaa.Lcs
end

section
namespace Go.Proofs.Ythghpmnbnfbheaa.Lcs
open Go.Proofs.YthghpmnbnfbheaaW.PrintWords

section
variable {β : Type} [DecidableEq β]

theorem L_drop_eq {A B : List β} {i j : Nat} (hi : i < A.length) (hj : j < B.length) (h : A[i] = B[j]) : L (A.drop i) (B.drop j) = L (A.drop (i + 1)) (B.drop (j + 1)) + 1 := by
  rw [List.drop_eq_getElem_cons hi, List.drop_eq_getElem_cons hj, L_cons_eq _ _ h]
theorem L_drop_ne {A B : List β} {i j : Nat} (hi : i < A.length) (hj : j < B.length) (h : ¬ A[i] = B[j]) : L (A.drop i) (B.drop j) = max (L (A.drop (i + 1)) (B.drop j)) (L (A.drop i) (B.drop (j + 1))) := by
  conv => lhs; rw [List.drop_eq_getElem_cons hi, List.drop_eq_getElem_cons hj, L_cons_ne _ _ h]
  rw [← List.drop_eq_getElem_cons hi, ← List.drop_eq_getElem_cons hj]
theorem pr_drop_eq {A B : List β} {i j : Nat} (hi : i < A.length) (hj : j < B.length) (h : A[i] = B[j]) : pr (A.drop i) (B.drop j) i j = (i, j) :: pr (A.drop (i + 1)) (B.drop (j + 1)) (i + 1) (j + 1) := by
  rw [List.drop_eq_getElem_cons hi, List.drop_eq_getElem_cons hj, pr_eq _ _ _ _ h]
theorem pr_drop_down {A B : List β} {i j : Nat} (hi : i < A.length) (hj : j < B.length) (h : ¬ A[i] = B[j]) (hL : L (A.drop i) (B.drop (j + 1)) ≤ L (A.drop (i + 1)) (B.drop j)) : pr (A.drop i) (B.drop j) i j = pr (A.drop (i + 1)) (B.drop j) (i + 1) j := by
  rw [List.drop_eq_getElem_cons hi] at hL ⊢
  rw [List.drop_eq_getElem_cons hj] at hL ⊢
  rw [pr_down _ _ _ _ h hL]
theorem pr_drop_right {A B : List β} {i j : Nat} (hi : i < A.length) (hj : j < B.length) (h : ¬ A[i] = B[j]) (hL : ¬ L (A.drop i) (B.drop (j + 1)) ≤ L (A.drop (i + 1)) (B.drop j)) : pr (A.drop i) (B.drop j) i j = pr (A.drop i) (B.drop (j + 1)) i (j + 1) := by
  rw [List.drop_eq_getElem_cons hi] at hL ⊢
  rw [List.drop_eq_getElem_cons hj] at hL ⊢
  rw [pr_right _ _ _ _ h hL]

/-- A place of a table. -/
def g2 (t : List (List Int)) (r s : Nat) : Int := (t.getD r []).getD s 0
/-- The table's shape: rows and columns one more than the lists are long. -/
def Shape (n m : Nat) (t : List (List Int)) : Prop := t.length = n + 1 ∧ ∀ r, r ≤ n → (t.getD r []).length = m + 1
/-- A table that is filled from behind, as far as row i from column c on; ahead of it zeros. -/
def Part (A B : List β) (i c : Nat) (t : List (List Int)) : Prop :=
  Shape A.length B.length t ∧ ∀ r s, r ≤ A.length → s ≤ B.length → g2 t r s = if i < r ∨ r = i ∧ c ≤ s then (L (A.drop r) (B.drop s) : Int) else 0
/-- A whole table. -/
def Tab (A B : List β) (t : List (List Int)) : Prop := Shape A.length B.length t ∧ ∀ r s, r ≤ A.length → s ≤ B.length → g2 t r s = (L (A.drop r) (B.drop s) : Int)

theorem g2_set {n m : Nat} {t : List (List Int)} (hs : Shape n m t) {i c : Nat} (hi : i ≤ n) (hc : c ≤ m) (v : Int) (r s : Nat) :
    g2 (t.set i ((t.getD i []).set c v)) r s = if r = i ∧ s = c then v else g2 t r s := by
  unfold g2
  have h1 := hs.1
  have h2 := hs.2 i hi
  by_cases hr : r = i
  · subst hr
    have e : (t.set r ((t.getD r []).set c v)).getD r [] = (t.getD r []).set c v := by
      simp [List.getD_eq_getElem?_getD, show r < t.length by omega]
    rw [e]
    by_cases hsc : s = c
    · subst hsc
      rw [if_pos ⟨rfl, rfl⟩]
      rw [List.getD_eq_getElem?_getD, List.getElem?_set_self (by omega)]
      rfl
    · rw [if_neg (by omega)]
      rw [List.getD_eq_getElem?_getD, List.getElem?_set_ne (by omega), ← List.getD_eq_getElem?_getD]
  · rw [if_neg (by omega)]
    have e : (t.set i ((t.getD i []).set c v)).getD r [] = t.getD r [] := by
      rw [List.getD_eq_getElem?_getD, List.getElem?_set_ne (by omega), ← List.getD_eq_getElem?_getD]
    rw [e]
theorem Shape.set {n m : Nat} {t : List (List Int)} (hs : Shape n m t) (i c : Nat) (v : Int) : Shape n m (t.set i ((t.getD i []).set c v)) := by
  refine ⟨by rw [List.length_set, hs.1], fun r hr => ?_⟩
  by_cases e : r = i
  · subst e
    have h1 := hs.1
    have : (t.set r ((t.getD r []).set c v)).getD r [] = (t.getD r []).set c v := by
      simp [List.getD_eq_getElem?_getD, show r < t.length by omega]
    rw [this, List.length_set, hs.2 r hr]
  · have : (t.set i ((t.getD i []).set c v)).getD r [] = t.getD r [] := by
      rw [List.getD_eq_getElem?_getD, List.getElem?_set_ne (by omega), ← List.getD_eq_getElem?_getD]
    rw [this, hs.2 r hr]

/-- A new table of zeros. -/
theorem zeros_get (n m r s : Nat) (hr : r ≤ n) (hs : s ≤ m) : g2 (List.replicate (n + 1) (List.replicate (m + 1) 0)) r s = 0 := by
  unfold g2
  simp [List.getD_eq_getElem?_getD, show r < n + 1 by omega, show s < m + 1 by omega]
theorem zeros_shape (n m : Nat) : Shape n m (List.replicate (n + 1) (List.replicate (m + 1) 0)) := by
  refine ⟨by simp, fun r hr => ?_⟩
  simp [List.getD_eq_getElem?_getD, show r < n + 1 by omega]
/-- Ahead of row n nothing is written: the last row and the last column are zeros in every case. -/
theorem part_zeros (A B : List β) : Part A B A.length 0 (List.replicate (A.length + 1) (List.replicate (B.length + 1) 0)) := by
  refine ⟨zeros_shape _ _, fun r s hr hs => ?_⟩
  rw [zeros_get _ _ _ _ hr hs]
  by_cases h : A.length < r ∨ r = A.length ∧ 0 ≤ s
  · rw [if_pos h]
    obtain rfl : r = A.length := by omega
    simp [L_nil]
  · rw [if_neg h]
/-- The next row: its last column is done. -/
theorem Part.row {A B : List β} {i : Nat} {t : List (List Int)} (h : Part A B (i + 1) 0 t) : Part A B i B.length t := by
  refine ⟨h.1, fun r s hr hs => ?_⟩
  rw [h.2 r s hr hs]
  by_cases h1 : i + 1 < r ∨ r = i + 1 ∧ 0 ≤ s
  · rw [if_pos h1, if_pos (by omega)]
  · rw [if_neg h1]
    by_cases h2 : i < r ∨ r = i ∧ B.length ≤ s
    · rw [if_pos h2]
      obtain rfl : s = B.length := by omega
      simp [L_nil']
    · rw [if_neg h2]
/-- One more place is written. -/
theorem Part.put {A B : List β} {i c : Nat} {t : List (List Int)} (h : Part A B i (c + 1) t) (hi : i ≤ A.length) (hc : c ≤ B.length) (v : Int) (hv : v = (L (A.drop i) (B.drop c) : Int)) :
    Part A B i c (t.set i ((t.getD i []).set c v)) := by
  refine ⟨h.1.set _ _ _, fun r s hr hs => ?_⟩
  rw [g2_set h.1 hi hc]
  by_cases e : r = i ∧ s = c
  · obtain ⟨rfl, rfl⟩ := e
    rw [if_pos ⟨rfl, rfl⟩, if_pos (by omega), hv]
  · rw [if_neg e, h.2 r s hr hs]
    by_cases h1 : i < r ∨ r = i ∧ c + 1 ≤ s
    · rw [if_pos h1, if_pos (by omega)]
    · rw [if_neg h1, if_neg (by omega)]
theorem Part.tab {A B : List β} {t : List (List Int)} (h : Part A B 0 0 t) : Tab A B t := by
  refine ⟨h.1, fun r s hr hs => ?_⟩
  rw [h.2 r s hr hs, if_pos (by omega)]
end
end Go.Proofs.Ythghpmnbnfbheaa.Lcs
end

section
namespace Go.Proofs.Ythghpmnbnfbheaa.Lcs
section
variable {β γ : Type} [DecidableEq β] [DecidableEq γ]
theorem L_map (f : β → γ) (hf : ∀ x y, f x = f y → x = y) : ∀ (a b : List β), L (a.map f) (b.map f) = L a b
  | [], b => by rw [List.map_nil, L_nil, L_nil]
  | x :: a, [] => by rw [List.map_nil, L_nil', L_nil']
  | x :: a, y :: b => by
    have h1 := L_map f hf a b
    have h2 := L_map f hf a (y :: b)
    have h3 := L_map f hf (x :: a) b
    rw [List.map_cons] at h2 h3
    rw [List.map_cons, List.map_cons]
    by_cases h : x = y
    · rw [L_cons_eq _ _ (by rw [h]), L_cons_eq _ _ h, h1]
    · rw [L_cons_ne _ _ (fun e => h (hf _ _ e)), L_cons_ne _ _ h, h2, h3]
termination_by a b => a.length + b.length
theorem pr_map (f : β → γ) (hf : ∀ x y, f x = f y → x = y) : ∀ (a b : List β) (i j : Nat), pr (a.map f) (b.map f) i j = pr a b i j
  | [], b, i, j => by rw [List.map_nil, pr_nil, pr_nil]
  | x :: a, [], i, j => by rw [List.map_nil, pr_nil', pr_nil']
  | x :: a, y :: b, i, j => by
    have h1 := pr_map f hf a b (i + 1) (j + 1)
    have h2 := pr_map f hf a (y :: b) (i + 1) j
    have h3 := pr_map f hf (x :: a) b i (j + 1)
    have l2 := L_map f hf a (y :: b)
    have l3 := L_map f hf (x :: a) b
    rw [List.map_cons] at h2 h3 l2 l3
    rw [List.map_cons, List.map_cons]
    by_cases h : x = y
    · rw [pr_eq _ _ _ _ (by rw [h]), pr_eq _ _ _ _ h, h1]
    · have h' : ¬ f x = f y := fun e => h (hf _ _ e)
      by_cases hL : L (x :: a) b ≤ L a (y :: b)
      · rw [pr_down _ _ _ _ h' (by rw [l2, l3]; exact hL), pr_down _ _ _ _ h hL, h2]
      · rw [pr_right _ _ _ _ h' (by rw [l2, l3]; exact hL), pr_right _ _ _ _ h hL, h3]
termination_by a b => a.length + b.length
end
end Go.Proofs.Ythghpmnbnfbheaa.Lcs
end

section
namespace Go.Proofs.Ythghpmnbnfbheaa.Three
set_option linter.unusedSectionVars false
open Go.Proofs.Ythghpmnbnfbheaa.Lcs

section
variable {β : Type}

/-- A piece of all three. -/
structure Pc (β : Type) where
  c : Bool
  o : List β
  a : List β
  b : List β

/-- A place in all three. -/
abbrev Pl := Nat × Nat × Nat
def cut (l : List β) (i j : Nat) : List β := (l.take j).drop i
theorem cut_end (l : List β) (i j : Nat) (h : l.length ≤ j) : cut l i j = l.drop i := by unfold cut; rw [List.take_of_length_le h]
theorem cut_self (l : List β) (i : Nat) : cut l i i = [] := by unfold cut; simp
theorem cut_length (l : List β) (i j : Nat) (h : j ≤ l.length) : (cut l i j).length = j - i := by unfold cut; simp; omega
theorem cut_append (l : List β) {i j k : Nat} (h : i ≤ j) (h' : j ≤ k) : cut l i j ++ cut l j k = cut l i k := by
  unfold cut
  apply List.ext_getElem?
  intro n
  simp only [List.getElem?_append, List.getElem?_drop, List.length_drop, List.length_take, List.getElem?_take]
  by_cases hn : n < min j l.length - i
  · rw [if_pos hn, if_pos (by omega), if_pos (by omega)]
  · rw [if_neg hn]
    by_cases hj : j ≤ l.length
    · rw [show j + (n - (min j l.length - i)) = i + n by omega]
    · rw [List.getElem?_eq_none (l := l) (i := j + (n - (min j l.length - i))) (by omega), List.getElem?_eq_none (l := l) (i := i + n) (by omega)]
      simp
theorem cut_drop (l : List β) {i j : Nat} (h : i ≤ j) : cut l i j ++ l.drop j = l.drop i := by
  have := cut_append l h (Nat.le_max_left j l.length)
  rwa [cut_end l j _ (Nat.le_max_right _ _), cut_end l i _ (Nat.le_max_right _ _)] at this
theorem cut_succ (l : List β) {i j : Nat} {x : β} (h : i ≤ j) (hx : l[j]? = some x) : cut l i j ++ [x] = cut l i (j + 1) := by
  obtain ⟨hj, rfl⟩ := List.getElem?_eq_some_iff.1 hx
  rw [← cut_append l h (Nat.le_succ j)]
  congr 1
  unfold cut
  rw [List.take_succ_eq_append_getElem hj, List.drop_append]
  simp [Nat.min_eq_left (Nat.le_of_lt hj)]
theorem drop_cons (l : List β) {j : Nat} {x : β} (hx : l[j]? = some x) : l.drop j = x :: l.drop (j + 1) := by
  obtain ⟨hj, rfl⟩ := List.getElem?_eq_some_iff.1 hx
  exact List.drop_eq_getElem_cons hj
theorem cut_cons (l : List β) {i j : Nat} {x : β} (h : i ≤ j) (hx : l[j]? = some x) : cut l i j ++ x :: l.drop (j + 1) = l.drop i := by
  rw [← drop_cons l hx, cut_drop l h]
theorem cut_map {γ : Type} (f : β → γ) (l : List β) (i j : Nat) : cut (l.map f) i j = (cut l i j).map f := by unfold cut; rw [List.map_drop, List.map_take]

/-- Rising places with like elements. -/
def Good3 (o a b : List β) : Nat → Nat → Nat → List Pl → Prop
  | _, _, _, [] => True
  | i, j, k, (p, q, r) :: ps => i ≤ p ∧ j ≤ q ∧ k ≤ r ∧ (∃ x, o[p]? = some x ∧ a[q]? = some x ∧ b[r]? = some x) ∧ Good3 o a b (p + 1) (q + 1) (r + 1) ps
theorem Good3.weak {o a b : List β} {i j k i' j' k' : Nat} {l : List Pl} (h : Good3 o a b i j k l) (hi : i' ≤ i) (hj : j' ≤ j) (hk : k' ≤ k) : Good3 o a b i' j' k' l := by
  cases l with
  | nil => trivial
  | cons x r => obtain ⟨p, q, r⟩ := x; obtain ⟨h1, h2, h3, h4, h5⟩ := h; exact ⟨by omega, by omega, by omega, h4, h5⟩

section
variable [DecidableEq β]
def clash (o a b : List β) : Bool := !decide (a = b) && !decide (a = o) && !decide (b = o)
def chosen (o a b : List β) : List β := if a = b ∨ b = o then a else b
theorem clash_swap (o a b : List β) : clash o b a = clash o a b := by
  unfold clash
  by_cases h1 : a = b <;> by_cases h2 : a = o <;> by_cases h3 : b = o <;> simp_all
  all_goals (intro h; exact absurd h.symm (by assumption))
theorem chosen_swap (o a b : List β) (h : clash o a b = false) : chosen o b a = chosen o a b := by
  unfold clash at h
  unfold chosen
  by_cases h1 : a = b
  · subst h1; rfl
  · have h1' : ¬ b = a := fun e => h1 e.symm
    by_cases h2 : a = o <;> by_cases h3 : b = o <;> simp_all
theorem clash_same (o a : List β) : clash o a a = false := by unfold clash; simp
theorem clash_left (o b : List β) : clash o o b = false := by unfold clash; simp
theorem clash_right (o a : List β) : clash o a o = false := by unfold clash; simp
theorem chosen_same (o a : List β) : chosen o a a = a := by unfold chosen; simp
theorem chosen_left (o b : List β) : chosen o o b = b := by
  unfold chosen
  by_cases h : o = b
  · subst h; simp
  · have h' : ¬ b = o := fun e => h e.symm
    simp [h, h']
theorem chosen_right (o a : List β) : chosen o a o = a := by unfold chosen; simp
theorem clash_map {γ : Type} [DecidableEq γ] (f : β → γ) (hf : ∀ x y, f x = f y → x = y) (o a b : List β) : clash (o.map f) (a.map f) (b.map f) = clash o a b := by
  unfold clash
  have e : ∀ l m : List β, decide (l.map f = m.map f) = decide (l = m) := fun l m => by
    have : l.map f = m.map f ↔ l = m := ⟨fun h => List.map_inj_right hf |>.1 h, fun h => by rw [h]⟩
    simp [this]
  rw [e, e, e]
theorem chosen_map {γ : Type} [DecidableEq γ] (f : β → γ) (hf : ∀ x y, f x = f y → x = y) (o a b : List β) : chosen (o.map f) (a.map f) (b.map f) = (chosen o a b).map f := by
  unfold chosen
  have e : ∀ l m : List β, (l.map f = m.map f) ↔ l = m := fun l m => ⟨fun h => List.map_inj_right hf |>.1 h, fun h => by rw [h]⟩
  simp only [e]
  split <;> rfl

/-- What stands in all three. -/
def stand (o a b : List β) : List Pl := (pr o a 0 0).filterMap fun p => ((pr o b 0 0).lookup p.1).map fun k => (p.1, p.2, k)

/-- A loose piece. -/
def loose (o a b : List β) (at_ p : Pl) : Pc β := ⟨clash (cut o at_.1 p.1) (cut a at_.2.1 p.2.1) (cut b at_.2.2 p.2.2), cut o at_.1 p.1, cut a at_.2.1 p.2.1, cut b at_.2.2 p.2.2⟩
/-- The fast piece between two places, if there is one. -/
def fast (o a b : List β) (fr at_ : Pl) : List (Pc β) := if fr.1 < at_.1 then [⟨false, cut o fr.1 at_.1, cut a fr.2.1 at_.2.1, cut b fr.2.2 at_.2.2⟩] else []
def nx (p : Pl) : Pl := (p.1 + 1, p.2.1 + 1, p.2.2 + 1)
/-- The pieces, place by place (the last one is behind all). -/
def partsGo (o a b : List β) : List Pl → Pl → Pl → List (Pc β)
  | [], _, fr => fast o a b fr (o.length, a.length, b.length)
  | p :: ps, at_, fr => if p = at_ then partsGo o a b ps (nx p) fr else fast o a b fr at_ ++ loose o a b at_ p :: partsGo o a b ps (nx p) p
def parts (o a b : List β) : List (Pc β) := partsGo o a b (stand o a b ++ [(o.length, a.length, b.length)]) (0, 0, 0) (0, 0, 0)
/-- What pieces come to. -/
def merged : List (Pc β) → Option (List β)
  | [] => some []
  | x :: r => if x.c = true then none else (merged r).map fun l => chosen x.o x.a x.b ++ l
def merge (o a b : List β) : Option (List β) := merged (parts o a b)

/-- The same, without the fast pieces. -/
def mgo (o a b : List β) : List Pl → Nat → Nat → Nat → Option (List β)
  | [], i, j, k => if clash (o.drop i) (a.drop j) (b.drop k) = true then none else some (chosen (o.drop i) (a.drop j) (b.drop k))
  | (p, q, r) :: ps, i, j, k => if clash (cut o i p) (cut a j q) (cut b k r) = true then none else (mgo o a b ps (p + 1) (q + 1) (r + 1)).map fun l => chosen (cut o i p) (cut a j q) (cut b k r) ++ (o[p]?.toList ++ l)
/-- How many of them clash. -/
def cls (o a b : List β) : List Pl → Nat → Nat → Nat → Nat
  | [], i, j, k => if clash (o.drop i) (a.drop j) (b.drop k) = true then 1 else 0
  | (p, q, r) :: ps, i, j, k => (if clash (cut o i p) (cut a j q) (cut b k r) = true then 1 else 0) + cls o a b ps (p + 1) (q + 1) (r + 1)
def clashes : List (Pc β) → Nat
  | [] => 0
  | x :: r => (if x.c = true then 1 else 0) + clashes r
theorem merged_append (l m : List (Pc β)) : merged (l ++ m) = (merged l).bind fun x => (merged m).map fun y => x ++ y := by
  induction l with
  | nil => simp [merged]
  | cons x r ih =>
    rw [List.cons_append, merged, merged, ih]
    split
    · rfl
    · cases merged r with
      | none => rfl
      | some v => cases merged m <;> simp
theorem clashes_append (l m : List (Pc β)) : clashes (l ++ m) = clashes l + clashes m := by
  induction l with
  | nil => simp [clashes]
  | cons x r ih => rw [List.cons_append, clashes, clashes, ih]; omega

/-- From fr on to at all three are alike. -/
def Fast (o a b : List β) (fr at_ : Pl) : Prop := ∃ d, at_.1 = fr.1 + d ∧ at_.2.1 = fr.2.1 + d ∧ at_.2.2 = fr.2.2 + d ∧ cut o fr.1 at_.1 = cut a fr.2.1 at_.2.1 ∧ cut o fr.1 at_.1 = cut b fr.2.2 at_.2.2
theorem Fast.refl (o a b : List β) (p : Pl) : Fast o a b p p := ⟨0, rfl, rfl, rfl, by simp [cut_self], by simp [cut_self]⟩
theorem Fast.snoc {o a b : List β} {fr p : Pl} {x : β} (h : Fast o a b fr p) (h1 : o[p.1]? = some x) (h2 : a[p.2.1]? = some x) (h3 : b[p.2.2]? = some x) : Fast o a b fr (nx p) := by
  obtain ⟨d, e1, e2, e3, c1, c2⟩ := h
  refine ⟨d + 1, by simp [nx]; omega, by simp [nx]; omega, by simp [nx]; omega, ?_, ?_⟩
  · show cut o fr.1 (p.1 + 1) = cut a fr.2.1 (p.2.1 + 1)
    rw [← cut_succ o (by omega) h1, ← cut_succ a (by omega) h2, c1]
  · show cut o fr.1 (p.1 + 1) = cut b fr.2.2 (p.2.2 + 1)
    rw [← cut_succ o (by omega) h1, ← cut_succ b (by omega) h3, c2]
theorem Fast.merged {o a b : List β} {fr p : Pl} (h : Fast o a b fr p) : merged (fast o a b fr p) = some (cut o fr.1 p.1) := by
  obtain ⟨d, e1, e2, e3, c1, c2⟩ := h
  unfold fast
  by_cases hd : fr.1 < p.1
  · rw [if_pos hd]
    simp only [Three.merged]
    rw [if_neg Bool.false_ne_true]
    simp only [← c1, ← c2, chosen_same]
    simp
  · rw [if_neg hd]
    have : p.1 = fr.1 := by omega
    rw [this, cut_self]
    rfl
theorem Fast.clashes {o a b : List β} {fr p : Pl} : clashes (fast o a b fr p) = 0 := by
  unfold fast
  split <;> simp [Three.clashes]
theorem chosen_nil : chosen ([] : List β) [] [] = [] := by unfold chosen; simp
theorem clash_nil : clash ([] : List β) [] [] = false := by unfold clash; simp
/-- The pieces come to the same. -/
theorem merged_go (o a b : List β) : ∀ (ps : List Pl) (at_ fr : Pl), Good3 o a b at_.1 at_.2.1 at_.2.2 ps → at_.1 ≤ o.length → at_.2.1 ≤ a.length → at_.2.2 ≤ b.length → Fast o a b fr at_ →
    merged (partsGo o a b (ps ++ [(o.length, a.length, b.length)]) at_ fr) = (mgo o a b ps at_.1 at_.2.1 at_.2.2).map (fun l => cut o fr.1 at_.1 ++ l) ∧ clashes (partsGo o a b (ps ++ [(o.length, a.length, b.length)]) at_ fr) = cls o a b ps at_.1 at_.2.1 at_.2.2
  | [], at_, fr, _, l1, l2, l3, hF => by
    rw [List.nil_append, partsGo]
    have hd : ∀ (l : List β) (i : Nat), cut l i l.length = l.drop i := fun l i => cut_end l i _ (Nat.le_refl _)
    by_cases h : (o.length, a.length, b.length) = at_
    · rw [if_pos h, partsGo]
      subst h
      rw [hF.merged, Fast.clashes]
      simp only [mgo, cls]
      simp [clash_nil, chosen_nil]
    · rw [if_neg h, partsGo]
      rw [merged_append, hF.merged, clashes_append, Fast.clashes, merged, clashes]
      have hf : fast o a b (o.length, a.length, b.length) (o.length, a.length, b.length) = [] := by unfold fast; simp
      rw [hf]
      simp only [loose, hd, mgo, cls, merged, clashes]
      split <;> simp
  | (p, q, r) :: ps, at_, fr, hG, l1, l2, l3, hF => by
    obtain ⟨g1, g2, g3, ⟨x, x1, x2, x3⟩, g4⟩ := hG
    have y1 := (List.getElem?_eq_some_iff.1 x1).1
    have y2 := (List.getElem?_eq_some_iff.1 x2).1
    have y3 := (List.getElem?_eq_some_iff.1 x3).1
    rw [List.cons_append, partsGo]
    by_cases h : (p, q, r) = at_
    · rw [if_pos h]
      subst h
      obtain ⟨h1, h2⟩ := merged_go o a b ps (nx (p, q, r)) fr g4 y1 y2 y3 (hF.snoc x1 x2 x3)
      obtain ⟨d, e1, _⟩ := hF
      rw [h1, h2]
      simp only [mgo, cls, cut_self, clash_nil, chosen_nil, nx]
      simp only [x1, Option.toList_some, List.nil_append, Bool.false_eq_true, if_false, Nat.zero_add, Option.map_map, and_true]
      congr 1
      funext l
      simp only [Function.comp, List.cons_append, List.nil_append]
      rw [← cut_succ o (by simp at e1; omega) x1]
      simp
    · rw [if_neg h]
      obtain ⟨h1, h2⟩ := merged_go o a b ps (nx (p, q, r)) (p, q, r) g4 y1 y2 y3 ((Fast.refl o a b (p, q, r)).snoc x1 x2 x3)
      rw [merged_append, hF.merged, clashes_append, Fast.clashes, merged, clashes, h1, h2]
      simp only [mgo, cls, loose, nx]
      have hx : cut o p (p + 1) = [x] := by rw [← cut_succ o (Nat.le_refl p) x1, cut_self]; rfl
      rw [hx, x1]
      by_cases hc : clash (cut o at_.1 p) (cut a at_.2.1 q) (cut b at_.2.2 r) = true
      · simp [hc]
      · cases mgo o a b ps (p + 1) (q + 1) (r + 1) <;> simp [hc]
end
end
end Go.Proofs.Ythghpmnbnfbheaa.Three
end

section
namespace Go.Proofs.Ythghpmnbnfbheaa.Three
set_option linter.unusedSectionVars false
open Go.Proofs.Ythghpmnbnfbheaa.Lcs

/-- Rising in the first place. -/
def Rising (l : List (Nat × Nat)) : Prop := l.Pairwise fun x y => x.1 < y.1
theorem Rising.tail {x : Nat × Nat} {l : List (Nat × Nat)} (h : Rising (x :: l)) : Rising l := (List.pairwise_cons.1 h).2
theorem Rising.head {x : Nat × Nat} {l : List (Nat × Nat)} (h : Rising (x :: l)) : ∀ y ∈ l, x.1 < y.1 := (List.pairwise_cons.1 h).1
theorem lookup_none {l : List (Nat × Nat)} {k : Nat} (h : ∀ y ∈ l, y.1 ≠ k) : l.lookup k = none := by
  induction l with
  | nil => rfl
  | cons x r ih =>
    obtain ⟨u, v⟩ := x
    have hu : u ≠ k := h (u, v) List.mem_cons_self
    rw [List.lookup_cons]
    have : (k == u) = false := by simp; exact fun e => hu e.symm
    rw [this]
    exact ih (fun y hy => h y (List.mem_cons_of_mem _ hy))
theorem lookup_ne {l : List (Nat × Nat)} {x : Nat × Nat} {k : Nat} (h : x.1 ≠ k) : (x :: l).lookup k = l.lookup k := by
  obtain ⟨u, v⟩ := x
  have hu : u ≠ k := h
  rw [List.lookup_cons]
  have : (k == u) = false := by simp; exact fun e => hu e.symm
  rw [this]
theorem lookup_eq {l : List (Nat × Nat)} {k v : Nat} : ((k, v) :: l).lookup k = some v := by simp
theorem lookup_mem {l : List (Nat × Nat)} {k v : Nat} (h : l.lookup k = some v) : (k, v) ∈ l := by
  induction l with
  | nil => cases h
  | cons x r ih =>
    obtain ⟨u, w⟩ := x
    by_cases e : u = k
    · subst e
      rw [lookup_eq] at h
      cases h
      exact List.mem_cons_self
    · rw [lookup_ne e] at h
      exact List.mem_cons_of_mem _ (ih h)
theorem lookup_of_mem {l : List (Nat × Nat)} (hl : Rising l) {k v : Nat} (h : (k, v) ∈ l) : l.lookup k = some v := by
  induction l with
  | nil => cases h
  | cons x r ih =>
    obtain ⟨u, w⟩ := x
    rcases List.mem_cons.1 h with e | h
    · cases e; exact lookup_eq
    · have := hl.head _ h
      have hne : u ≠ k := by simp at this; omega
      rw [lookup_ne hne]
      exact ih hl.tail h

/-- What stands in both. -/
def both (l m : List (Nat × Nat)) : List Pl := l.filterMap fun p => (m.lookup p.1).map fun k => (p.1, p.2, k)
def swap (p : Pl) : Pl := (p.1, p.2.2, p.2.1)
theorem filterMap_congr' {α γ : Type} {l : List α} {f g : α → Option γ} (h : ∀ x ∈ l, f x = g x) : l.filterMap f = l.filterMap g := by
  induction l with
  | nil => rfl
  | cons x r ih => rw [List.filterMap_cons, List.filterMap_cons, h x List.mem_cons_self, ih (fun y hy => h y (List.mem_cons_of_mem _ hy))]
theorem both_nil (m : List (Nat × Nat)) : both [] m = [] := rfl
theorem both_nil' (l : List (Nat × Nat)) : both l [] = [] := by
  unfold both
  rw [List.filterMap_eq_nil_iff]
  intro p _
  rfl
theorem both_cons (x : Nat × Nat) (l m : List (Nat × Nat)) : both (x :: l) m = (match m.lookup x.1 with | some k => (x.1, x.2, k) :: both l m | none => both l m) := by
  unfold both
  rw [List.filterMap_cons]
  cases m.lookup x.1 <;> rfl
theorem both_congr {l m m' : List (Nat × Nat)} (h : ∀ x ∈ l, m.lookup x.1 = m'.lookup x.1) : both l m = both l m' := by
  induction l with
  | nil => rfl
  | cons x r ih => rw [both_cons, both_cons, h x List.mem_cons_self, ih (fun y hy => h y (List.mem_cons_of_mem _ hy))]
theorem both_drop {l m : List (Nat × Nat)} {y : Nat × Nat} (h : ∀ x ∈ l, y.1 ≠ x.1) : both l (y :: m) = both l m := both_congr fun x hx => lookup_ne (h x hx)
theorem both_swap : ∀ (l m : List (Nat × Nat)), Rising l → Rising m → both m l = (both l m).map swap
  | [], m, _, _ => by rw [both_nil, both_nil']; rfl
  | x :: l, [], _, _ => by rw [both_nil, both_nil']; rfl
  | (u, v) :: l, (u', v') :: m, hl, hm => by
    by_cases e : u = u'
    · subst e
      rw [both_cons, both_cons, lookup_eq, lookup_eq]
      have h1 := both_swap l m hl.tail hm.tail
      have h2 : both m ((u, v) :: l) = both m l := both_drop fun x hx => by have := hm.head x hx; simp at this ⊢; omega
      have h3 : both l ((u, v') :: m) = both l m := both_drop fun x hx => by have := hl.head x hx; simp at this ⊢; omega
      simp only [h2, h3, h1, List.map_cons]
      rfl
    · by_cases hlt : u < u'
      · have h1 := both_swap l ((u', v') :: m) hl.tail hm
        have h2 : both ((u', v') :: m) ((u, v) :: l) = both ((u', v') :: m) l := both_drop fun x hx => by
          rcases List.mem_cons.1 hx with rfl | hx
          · exact e
          · have := hm.head x hx; simp at this ⊢; omega
        have h3 : List.lookup u ((u', v') :: m) = none := lookup_none fun x hx => by
          rcases List.mem_cons.1 hx with rfl | hx
          · exact fun h => e h.symm
          · have := hm.head x hx; simp at this; omega
        rw [h2, h1]
        conv => rhs; rw [both_cons]
        simp only [h3]
      · have h1 := both_swap ((u, v) :: l) m hl hm.tail
        have h2 : both ((u, v) :: l) ((u', v') :: m) = both ((u, v) :: l) m := both_drop fun x hx => by
          rcases List.mem_cons.1 hx with rfl | hx
          · exact fun h => e h.symm
          · have := hl.head x hx; simp at this ⊢; omega
        have h3 : List.lookup u' ((u, v) :: l) = none := lookup_none fun x hx => by
          rcases List.mem_cons.1 hx with rfl | hx
          · exact e
          · have := hl.head x hx; simp at this; omega
        rw [h2, ← h1]
        conv => lhs; rw [both_cons]
        simp only [h3]
termination_by l m => l.length + m.length

section
variable {β : Type}
theorem good_mem {a b : List β} : ∀ {l : List (Nat × Nat)} {i j : Nat}, Lcs.Good a b i j l → ∀ x ∈ l, i ≤ x.1 ∧ j ≤ x.2 ∧ ∃ y, a[x.1]? = some y ∧ b[x.2]? = some y := by
  intro l
  induction l with
  | nil => intro i j _ x hx; cases hx
  | cons p r ih =>
    obtain ⟨u, v⟩ := p
    rintro i j ⟨h1, h2, h3, h4⟩ x hx
    rcases List.mem_cons.1 hx with rfl | hx
    · exact ⟨h1, h2, h3⟩
    · obtain ⟨g1, g2, g3⟩ := ih h4 x hx
      exact ⟨by omega, by omega, g3⟩
theorem good_rising {a b : List β} : ∀ {l : List (Nat × Nat)} {i j : Nat}, Lcs.Good a b i j l → Rising l := by
  intro l
  induction l with
  | nil => intro i j _; exact List.Pairwise.nil
  | cons p r ih =>
    obtain ⟨u, v⟩ := p
    rintro i j ⟨h1, h2, h3, h4⟩
    refine List.pairwise_cons.2 ⟨fun x hx => ?_, ih h4⟩
    have := (good_mem h4 x hx).1
    exact this
/-- Where both rise, what stands in both rises. -/
theorem both_good {o a b : List β} : ∀ {l m : List (Nat × Nat)} {i j k i' : Nat}, Lcs.Good o a i j l → Lcs.Good o b i' k m → Good3 o a b i j k (both l m)
  | [], m, i, j, k, i', _, _ => by rw [both_nil]; trivial
  | x :: l, [], i, j, k, i', _, _ => by rw [both_nil']; trivial
  | (u, v) :: l, (u', v') :: m, i, j, k, i', hl, hm => by
    have rl := (good_rising hl)
    have rm := (good_rising hm)
    obtain ⟨l1, l2, ⟨x, x1, x2⟩, l4⟩ := hl
    obtain ⟨m1, m2, ⟨y, y1, y2⟩, m4⟩ := hm
    by_cases e : u = u'
    · subst e
      rw [both_cons, lookup_eq]
      have h3 : both l ((u, v') :: m) = both l m := both_drop fun x hx => by have := rl.head x hx; simp at this ⊢; omega
      simp only [h3]
      obtain rfl : x = y := Option.some.inj (x1.symm.trans y1)
      exact ⟨l1, l2, m2, ⟨x, x1, x2, y2⟩, both_good l4 m4⟩
    · by_cases hlt : u < u'
      · have h3 : List.lookup u ((u', v') :: m) = none := lookup_none fun x hx => by
          rcases List.mem_cons.1 hx with rfl | hx
          · exact fun h => e h.symm
          · have := rm.head x hx; simp at this; omega
        rw [both_cons]
        simp only [h3]
        have hm' : Lcs.Good o b i' k ((u', v') :: m) := ⟨m1, m2, ⟨y, y1, y2⟩, m4⟩
        exact (both_good (i' := i') l4 hm').weak (by omega) (by omega) (Nat.le_refl _)
      · have h2 : both ((u, v) :: l) ((u', v') :: m) = both ((u, v) :: l) m := both_drop fun x hx => by
          rcases List.mem_cons.1 hx with rfl | hx
          · exact fun h => e h.symm
          · have := rl.head x hx; simp at this ⊢; omega
        rw [h2]
        have hl' : Lcs.Good o a i j ((u, v) :: l) := ⟨l1, l2, ⟨x, x1, x2⟩, l4⟩
        exact (both_good (i' := u' + 1) hl' m4).weak (Nat.le_refl _) (Nat.le_refl _) (by omega)
termination_by l m => l.length + m.length
end

section
variable {β : Type} [DecidableEq β]
theorem pr_ok (a b : List β) : Lcs.Good a b 0 0 (pr a b 0 0) := pr_good a b a b 0 0 (List.drop_zero ..) (List.drop_zero ..)
theorem stand_good (o a b : List β) : Good3 o a b 0 0 0 (stand o a b) := both_good (i' := 0) (pr_ok o a) (pr_ok o b)
theorem stand_swap (o a b : List β) : stand o b a = (stand o a b).map swap := both_swap _ _ (good_rising (pr_ok o a)) (good_rising (pr_ok o b))
theorem merge_eq (o a b : List β) : merge o a b = mgo o a b (stand o a b) 0 0 0 := by
  unfold merge parts
  rw [(merged_go o a b (stand o a b) (0, 0, 0) (0, 0, 0) (stand_good o a b) (Nat.zero_le _) (Nat.zero_le _) (Nat.zero_le _) (Fast.refl o a b _)).1]
  simp [cut_self]
theorem clashes_eq (o a b : List β) : clashes (parts o a b) = cls o a b (stand o a b) 0 0 0 :=
  (merged_go o a b (stand o a b) (0, 0, 0) (0, 0, 0) (stand_good o a b) (Nat.zero_le _) (Nat.zero_le _) (Nat.zero_le _) (Fast.refl o a b _)).2
theorem mgo_swap (o a b : List β) : ∀ (ps : List Pl) (i j k : Nat), mgo o b a (ps.map swap) i k j = mgo o a b ps i j k
  | [], i, j, k => by
    simp only [List.map_nil, mgo]
    rw [clash_swap]
    by_cases h : clash (o.drop i) (a.drop j) (b.drop k) = true
    · rw [if_pos h, if_pos h]
    · rw [if_neg h, if_neg h, chosen_swap _ _ _ (by simpa using h)]
  | (p, q, r) :: ps, i, j, k => by
    simp only [List.map_cons, swap, mgo]
    rw [clash_swap, mgo_swap o a b ps]
    by_cases h : clash (cut o i p) (cut a j q) (cut b k r) = true
    · rw [if_pos h, if_pos h]
    · rw [if_neg h, if_neg h, chosen_swap _ _ _ (by simpa using h)]
theorem cls_swap (o a b : List β) : ∀ (ps : List Pl) (i j k : Nat), cls o b a (ps.map swap) i k j = cls o a b ps i j k
  | [], i, j, k => by simp only [List.map_nil, cls]; rw [clash_swap]
  | (p, q, r) :: ps, i, j, k => by
    simp only [List.map_cons, swap, cls]
    rw [clash_swap, cls_swap o a b ps]
/-- Which change is which does not matter. -/
theorem merge_swap (o a b : List β) : merge o b a = merge o a b := by rw [merge_eq, merge_eq, stand_swap, mgo_swap]
theorem clashes_swap (o a b : List β) : clashes (parts o b a) = clashes (parts o a b) := by rw [clashes_eq, clashes_eq, stand_swap, cls_swap]
/-- None clashes where something comes about. -/
theorem mgo_cls (o a b : List β) : ∀ (ps : List Pl) (i j k : Nat), (mgo o a b ps i j k).isSome = decide (cls o a b ps i j k = 0)
  | [], i, j, k => by simp only [mgo, cls]; split <;> simp
  | (p, q, r) :: ps, i, j, k => by
    simp only [mgo, cls]
    have := mgo_cls o a b ps (p + 1) (q + 1) (r + 1)
    split
    · simp
    · rw [Option.isSome_map, this]; simp
theorem merge_clashes (o a b : List β) : (merge o a b).isSome = decide (clashes (parts o a b) = 0) := by rw [merge_eq, clashes_eq, mgo_cls]

/-- Places that are the same in both changes. -/
theorem mgo_same (o a : List β) : ∀ (ps : List Pl) (i j : Nat), Good3 o a a i j j ps → (∀ p ∈ ps, p.2.1 = p.2.2) → mgo o a a ps i j j = some (a.drop j)
  | [], i, j, _, _ => by simp [mgo, clash_same, chosen_same]
  | (p, q, r) :: ps, i, j, ⟨h1, h2, h3, ⟨x, x1, x2, x3⟩, h4⟩, he => by
    obtain rfl : q = r := he (p, q, r) List.mem_cons_self
    simp only [mgo]
    rw [clash_same, mgo_same o a ps (p + 1) (q + 1) h4 (fun p hp => he p (List.mem_cons_of_mem _ hp)), if_neg Bool.false_ne_true, chosen_same, x1]
    simp [cut_cons a h2 x2]
theorem mgo_left (o b : List β) : ∀ (ps : List Pl) (i k : Nat), Good3 o o b i i k ps → (∀ p ∈ ps, p.1 = p.2.1) → mgo o o b ps i i k = some (b.drop k)
  | [], i, j, _, _ => by simp [mgo, clash_left, chosen_left]
  | (p, q, r) :: ps, i, k, ⟨h1, h2, h3, ⟨x, x1, x2, x3⟩, h4⟩, he => by
    obtain rfl : p = q := he (p, q, r) List.mem_cons_self
    simp only [mgo]
    rw [clash_left, mgo_left o b ps (p + 1) (r + 1) h4 (fun p hp => he p (List.mem_cons_of_mem _ hp)), if_neg Bool.false_ne_true, chosen_left, x1]
    simp [cut_cons b h3 x3]
theorem pr_self (a : List β) : ∀ p ∈ pr a a 0 0, p.1 = p.2 := by
  have := pr_head a [] [] 0 0
  simp only [List.append_nil, pr_nil] at this
  intro p hp
  rw [this] at hp
  obtain ⟨n, _, rfl⟩ := List.mem_map.1 hp
  rfl
/-- Two like changes are one. -/
theorem merge_same (o a : List β) : merge o a a = some a := by
  rw [merge_eq, mgo_same o a _ 0 0 (stand_good o a a), List.drop_zero]
  intro p hp
  unfold stand at hp
  obtain ⟨x, hx, e⟩ := List.mem_filterMap.1 hp
  rw [lookup_of_mem (good_rising (pr_ok o a)) (show (x.1, x.2) ∈ _ from hx)] at e
  cases e
  rfl
/-- No change and another one is that. -/
theorem merge_left (o b : List β) : merge o o b = some b := by
  rw [merge_eq, mgo_left o b _ 0 0 (stand_good o o b), List.drop_zero]
  intro p hp
  unfold stand at hp
  obtain ⟨x, hx, e⟩ := List.mem_filterMap.1 hp
  obtain ⟨k, _, rfl⟩ := Option.map_eq_some_iff.1 e
  exact pr_self o x hx
theorem merge_right (o a : List β) : merge o a o = some a := by rw [← merge_swap, merge_left]

/-! ### What all three begin with -/
def up (n : Nat) (p : Pl) : Pl := (p.1 + n, p.2.1 + n, p.2.2 + n)
theorem pr_shift (n m : Nat) : ∀ (a b : List β) (i j : Nat), pr a b (i + n) (j + m) = (pr a b i j).map fun p => (p.1 + n, p.2 + m)
  | [], b, i, j => by rw [pr_nil, pr_nil]; rfl
  | x :: a, [], i, j => by rw [pr_nil', pr_nil']; rfl
  | x :: a, y :: b, i, j => by
    by_cases h : x = y
    · rw [pr_eq _ _ _ _ h, pr_eq _ _ _ _ h, List.map_cons, ← pr_shift n m a b (i + 1) (j + 1)]
      congr 2 <;> omega
    · by_cases hL : L (x :: a) b ≤ L a (y :: b)
      · rw [pr_down _ _ _ _ h hL, pr_down _ _ _ _ h hL, ← pr_shift n m a (y :: b) (i + 1) j]
        congr 1; omega
      · rw [pr_right _ _ _ _ h hL, pr_right _ _ _ _ h hL, ← pr_shift n m (x :: a) b i (j + 1)]
        congr 1; omega
termination_by a b => a.length + b.length
theorem lookup_shift (n m k : Nat) (l : List (Nat × Nat)) : (l.map fun p => (p.1 + n, p.2 + m)).lookup (k + n) = (l.lookup k).map fun v => v + m := by
  induction l with
  | nil => rfl
  | cons x r ih =>
    obtain ⟨u, v⟩ := x
    rw [List.map_cons]
    by_cases e : u = k
    · subst e
      rw [lookup_eq, lookup_eq]; rfl
    · rw [lookup_ne (x := (u, v)) e, lookup_ne (by simp; omega), ih]
theorem lookup_append (l m : List (Nat × Nat)) (k : Nat) : (l ++ m).lookup k = (l.lookup k).or (m.lookup k) := by
  induction l with
  | nil => simp
  | cons x r ih =>
    obtain ⟨u, v⟩ := x
    rw [List.cons_append]
    by_cases e : u = k
    · subst e
      rw [lookup_eq, lookup_eq]; rfl
    · rw [lookup_ne e, lookup_ne e, ih]
theorem stand_head (h o a b : List β) : stand (h ++ o) (h ++ a) (h ++ b) = (List.range h.length).map (fun n => (n, n, n)) ++ (stand o a b).map (up h.length) := by
  have hp : ∀ x : List β, pr (h ++ o) (h ++ x) 0 0 = (List.range h.length).map (fun n => (n, n)) ++ (pr o x 0 0).map fun p => (p.1 + h.length, p.2 + h.length) := by
    intro x
    rw [pr_head, ← pr_shift h.length h.length o x 0 0]
    congr 1
    apply List.map_congr_left
    intro n _
    congr 1 <;> omega
  have hr : ∀ n, n < h.length → ((List.range h.length).map (fun n => (n, n))).lookup n = some n := by
    intro n hn
    have : Rising ((List.range h.length).map (fun n => (n, n))) := by
      unfold Rising
      rw [List.pairwise_map]
      exact List.pairwise_lt_range
    exact lookup_of_mem this (List.mem_map.2 ⟨n, List.mem_range.2 hn, rfl⟩)
  have hn : ∀ n, ((List.range h.length).map (fun n => (n, n))).lookup (n + h.length) = none := by
    intro n
    refine lookup_none fun y hy => ?_
    obtain ⟨m, hm, rfl⟩ := List.mem_map.1 hy
    have := List.mem_range.1 hm
    simp; omega
  unfold stand
  rw [hp a, hp b, List.filterMap_append]
  congr 1
  · rw [List.filterMap_map]
    refine Eq.trans (filterMap_congr' (g := some ∘ fun n => (n, n, n)) ?_) (congrFun List.filterMap_eq_map _)
    intro n hm
    have hn' := List.mem_range.1 hm
    simp only [Function.comp]
    rw [lookup_append, hr n hn']
    rfl
  · rw [List.filterMap_map, List.map_filterMap]
    apply filterMap_congr'
    intro p _
    simp only [Function.comp]
    rw [lookup_append, hn, Option.none_or, lookup_shift]
    cases List.lookup p.1 (pr o b 0 0) <;> rfl
theorem cut_up (h l : List β) (i j : Nat) : cut (h ++ l) (i + h.length) (j + h.length) = cut l i j := by
  unfold cut
  rw [List.take_append, List.drop_append, List.take_of_length_le (by omega), List.drop_eq_nil_of_le (by omega)]
  simp
theorem drop_up (h l : List β) (i : Nat) : (h ++ l).drop (i + h.length) = l.drop i := by
  rw [List.drop_append, List.drop_eq_nil_of_le (by omega)]
  simp
theorem mgo_up (h o a b : List β) : ∀ (ps : List Pl) (i j k : Nat), mgo (h ++ o) (h ++ a) (h ++ b) (ps.map (up h.length)) (i + h.length) (j + h.length) (k + h.length) = mgo o a b ps i j k
  | [], i, j, k => by simp only [List.map_nil, mgo, drop_up]
  | (p, q, r) :: ps, i, j, k => by
    have e : (h ++ o)[p + h.length]? = o[p]? := by rw [List.getElem?_append_right (by omega)]; congr 1; omega
    simp only [List.map_cons, up, mgo, cut_up, e]
    have := mgo_up h o a b ps (p + 1) (q + 1) (r + 1)
    rw [show p + h.length + 1 = p + 1 + h.length by omega, show q + h.length + 1 = q + 1 + h.length by omega, show r + h.length + 1 = r + 1 + h.length by omega, ← this]
theorem cls_up (h o a b : List β) : ∀ (ps : List Pl) (i j k : Nat), cls (h ++ o) (h ++ a) (h ++ b) (ps.map (up h.length)) (i + h.length) (j + h.length) (k + h.length) = cls o a b ps i j k
  | [], i, j, k => by simp only [List.map_nil, cls, drop_up]
  | (p, q, r) :: ps, i, j, k => by
    simp only [List.map_cons, up, cls, cut_up]
    have := cls_up h o a b ps (p + 1) (q + 1) (r + 1)
    rw [show p + h.length + 1 = p + 1 + h.length by omega, show q + h.length + 1 = q + 1 + h.length by omega, show r + h.length + 1 = r + 1 + h.length by omega, ← this]
theorem mgo_range (o a b : List β) (qs : List Pl) (n : Nat) : ∀ (d i : Nat), i + d = n → n ≤ o.length → n ≤ a.length → n ≤ b.length →
    mgo o a b ((List.range' i d).map (fun n => (n, n, n)) ++ qs) i i i = (mgo o a b qs n n n).map (fun l => cut o i n ++ l) ∧ cls o a b ((List.range' i d).map (fun n => (n, n, n)) ++ qs) i i i = cls o a b qs n n n := by
  intro d
  induction d with
  | zero =>
    intro i hi _ _ _
    obtain rfl : i = n := by omega
    simp [cut_self]
  | succ d ih =>
    intro i hi ho ha hb
    obtain ⟨h1, h2⟩ := ih (i + 1) (by omega) ho ha hb
    rw [List.range'_succ]
    simp only [List.map_cons, List.cons_append, mgo, cls, cut_self, clash_nil, chosen_nil, h1, h2]
    have hx : o[i]? = some o[i] := List.getElem?_eq_getElem (by omega)
    refine ⟨?_, by simp⟩
    rw [hx]
    simp only [Bool.false_eq_true, if_false, Option.toList_some, List.nil_append, Option.map_map]
    congr 1
    funext l
    simp only [Function.comp]
    have : cut o i (i + 1) = [o[i]] := by rw [← cut_succ o (Nat.le_refl i) hx, cut_self]; rfl
    rw [← cut_append o (Nat.le_succ i) (show i + 1 ≤ n by omega), this]
    simp
/-- What all three begin with is not touched. -/
theorem merge_head (h o a b : List β) : merge (h ++ o) (h ++ a) (h ++ b) = (merge o a b).map (fun l => h ++ l) ∧ clashes (parts (h ++ o) (h ++ a) (h ++ b)) = clashes (parts o a b) := by
  rw [merge_eq, clashes_eq, merge_eq, clashes_eq, stand_head, List.range_eq_range']
  obtain ⟨h1, h2⟩ := mgo_range (h ++ o) (h ++ a) (h ++ b) ((stand o a b).map (up h.length)) h.length h.length 0 (by omega) (by simp) (by simp) (by simp)
  rw [h1, h2]
  have h3 := mgo_up h o a b (stand o a b) 0 0 0
  have h4 := cls_up h o a b (stand o a b) 0 0 0
  rw [Nat.zero_add] at h3 h4
  rw [h3, h4]
  have : cut (h ++ o) 0 h.length = h := by unfold cut; simp
  rw [this]
  exact ⟨rfl, rfl⟩
end
end Go.Proofs.Ythghpmnbnfbheaa.Three
end

section
namespace Go.Proofs.Ythghpmnbnfbheaa.Three
set_option linter.unusedSectionVars false
open Go.Proofs.Ythghpmnbnfbheaa.Lcs

section
variable {β : Type} [DecidableEq β]

/-! ### Ahead by the one, behind by the other -/
theorem rising_range : ∀ (l : List Nat) (m : Nat), l.Pairwise (· < ·) → (∀ x ∈ l, m ≤ x ∧ x < m + l.length) → l = List.range' m l.length
  | [], m, _, _ => rfl
  | x :: r, m, hp, hb => by
    obtain ⟨h1, h2⟩ := List.pairwise_cons.1 hp
    have hx : x = m := by
      have hm := hb x List.mem_cons_self
      cases hr : r.getLast? with
      | none =>
        have : r = [] := List.getLast?_eq_none_iff.1 hr
        subst this
        simp at hm; omega
      | some y =>
        -- the rest's elements are unlike, above x and below the bound
        have key : ∀ (l : List Nat) (a b : Nat), l.Pairwise (· < ·) → (∀ z ∈ l, a ≤ z ∧ z < b) → l.length ≤ b - a := by
          intro l
          induction l with
          | nil => intro a b _ _; simp
          | cons u s ih =>
            intro a b hq hz
            obtain ⟨q1, q2⟩ := List.pairwise_cons.1 hq
            have hu := hz u List.mem_cons_self
            have := ih (u + 1) b q2 (fun z hz' => ⟨q1 z hz', (hz z (List.mem_cons_of_mem _ hz')).2⟩)
            simp; omega
        have := key r (x + 1) (m + (x :: r).length) h2 (fun z hz => ⟨h1 z hz, (hb z (List.mem_cons_of_mem _ hz)).2⟩)
        simp at this hm; omega
    subst hx
    have ih := rising_range r (x + 1) h2 (fun z hz => ⟨h1 z hz, by have := (hb z (List.mem_cons_of_mem _ hz)).2; simp at this; omega⟩)
    rw [List.length_cons, List.range'_succ, ← ih]
theorem good_rising2 {a b : List β} : ∀ {l : List (Nat × Nat)} {i j : Nat}, Lcs.Good a b i j l → (l.map Prod.snd).Pairwise (· < ·) := by
  intro l
  induction l with
  | nil => intro i j _; exact List.Pairwise.nil
  | cons p r ih =>
    obtain ⟨u, v⟩ := p
    rintro i j ⟨h1, h2, h3, h4⟩
    refine List.pairwise_cons.2 ⟨fun x hx => ?_, ih h4⟩
    obtain ⟨y, hy, rfl⟩ := List.mem_map.1 hx
    exact (good_mem h4 y hy).2.1
/-- The one is all of the other, but for what is put ahead or behind. -/
theorem pr_within (o x y : List β) (hx : ∀ u ∈ o, u ∉ x) (hy : ∀ u ∈ o, u ∉ y) : pr o (x ++ o ++ y) 0 0 = (List.range' 0 o.length).map fun i => (i, x.length + i) := by
  have hG := pr_ok o (x ++ o ++ y)
  have hl : (pr o (x ++ o ++ y) 0 0).length = o.length := by
    rw [pr_length]
    have h1 := L_ge o (x ++ o ++ y) o (List.Sublist.refl _) (by rw [List.append_assoc]; exact (List.sublist_append_left o y).trans (List.sublist_append_right x _))
    have h2 := L_le_left o (x ++ o ++ y)
    omega
  have hm := good_mem hG
  have e1 : (pr o (x ++ o ++ y) 0 0).map Prod.fst = List.range' 0 o.length := by
    have := rising_range ((pr o (x ++ o ++ y) 0 0).map Prod.fst) 0 (by rw [List.pairwise_map]; exact (good_rising hG)) (by
      intro u hu
      obtain ⟨p, hp, rfl⟩ := List.mem_map.1 hu
      obtain ⟨_, _, z, hz, _⟩ := hm p hp
      have := (List.getElem?_eq_some_iff.1 hz).1
      rw [List.length_map, hl]
      omega)
    rw [this, List.length_map, hl]
  have e2 : (pr o (x ++ o ++ y) 0 0).map Prod.snd = List.range' x.length o.length := by
    have := rising_range ((pr o (x ++ o ++ y) 0 0).map Prod.snd) x.length (good_rising2 hG) (by
      intro u hu
      obtain ⟨p, hp, rfl⟩ := List.mem_map.1 hu
      obtain ⟨_, _, z, hz, hz2⟩ := hm p hp
      have hzo : z ∈ o := List.mem_of_getElem? hz
      rw [List.length_map, hl]
      constructor
      · rcases Nat.lt_or_ge p.2 x.length with h | h
        · exfalso
          rw [List.append_assoc, List.getElem?_append_left h] at hz2
          exact hx z hzo (List.mem_of_getElem? hz2)
        · exact h
      · rcases Nat.lt_or_ge p.2 (x.length + o.length) with h | h
        · exact h
        · exfalso
          rw [List.getElem?_append_right (by simpa using h)] at hz2
          exact hy z hzo (List.mem_of_getElem? hz2))
    rw [this, List.length_map, hl]
  have e3 : ∀ l : List (Nat × Nat), l = (l.map Prod.fst).zip (l.map Prod.snd) := by
    intro l
    rw [List.zip_map']
    simp
  rw [e3 (pr o (x ++ o ++ y) 0 0), e1, e2]
  apply List.ext_getElem
  · simp
  · intro n h1 h2
    simp
theorem lookup_range (n i : Nat) (f : Nat → Nat) (h : i < n) : ((List.range' 0 n).map fun i => (i, f i)).lookup i = some (f i) := by
  have : Rising ((List.range' 0 n).map fun i => (i, f i)) := by
    unfold Rising
    rw [List.pairwise_map]
    exact List.pairwise_lt_range'
  exact lookup_of_mem this (List.mem_map.2 ⟨i, by simp [List.mem_range'_1]; omega, rfl⟩)
theorem mgo_apart (o x y : List β) : ∀ (d i : Nat), i + d = o.length →
    mgo o (x ++ o) (o ++ y) ((List.range' i d).map fun i => ((i, x.length + i, i) : Pl)) i (x.length + i) i = some (o.drop i ++ y) := by
  intro d
  induction d with
  | zero =>
    intro i hi
    obtain rfl : i = o.length := by omega
    simp only [List.range'_zero, List.map_nil, mgo]
    have h1 : (x ++ o).drop (x.length + o.length) = [] := List.drop_eq_nil_of_le (by simp)
    have h2 : (o ++ y).drop o.length = y := by simp
    rw [h1, h2, List.drop_length]
    by_cases h : y = []
    · subst h; simp [clash_nil, chosen_nil]
    · have h' : ¬ [] = y := fun e => h e.symm
      simp [clash, chosen, h, h']
  | succ d ih =>
    intro i hi
    rw [List.range'_succ]
    simp only [List.map_cons, mgo, cut_self, clash_nil, chosen_nil]
    have hx : o[i]? = some o[i] := List.getElem?_eq_getElem (by omega)
    rw [show x.length + i + 1 = x.length + (i + 1) by omega, ih (i + 1) (by omega), hx]
    simp
    rw [← List.cons_append, ← drop_cons o hx]
/-- What is put in ahead by the one, and behind by the other, stands there both. -/
theorem merge_apart (o x y : List β) (ho : o ≠ []) (hx : ∀ u ∈ o, u ∉ x) (hy : ∀ u ∈ o, u ∉ y) : merge o (x ++ o) (o ++ y) = some (x ++ o ++ y) := by
  have p1 := pr_within o x [] hx (by simp)
  have p2 := pr_within o [] y (by simp) hy
  simp only [List.append_nil, List.nil_append, List.length_nil, Nat.zero_add] at p1 p2
  have hs : stand o (x ++ o) (o ++ y) = (List.range' 0 o.length).map fun i => ((i, x.length + i, i) : Pl) := by
    unfold stand
    rw [p1, p2, List.filterMap_map]
    refine Eq.trans (filterMap_congr' (g := some ∘ fun i => ((i, x.length + i, i) : Pl)) ?_) (congrFun List.filterMap_eq_map _)
    intro i hi
    have hi' : i < o.length := by simpa [List.mem_range'_1] using hi
    simp only [Function.comp]
    rw [lookup_range _ _ (fun i => i) hi']
    rfl
  rw [merge_eq, hs]
  obtain ⟨n, hn⟩ : ∃ n, o.length = n + 1 := ⟨o.length - 1, by have := List.length_pos_iff.2 ho; omega⟩
  have h1 := mgo_apart o x y n 1 (by omega)
  rw [hn, List.range'_succ]
  simp only [List.map_cons, mgo, cut_self, Nat.add_zero, Nat.zero_add]
  have hx0 : o[0]? = some o[0] := List.getElem?_eq_getElem (by omega)
  have hc : cut (x ++ o) 0 x.length = x := by unfold cut; simp
  rw [h1, hc, hx0]
  have hd : o[0] :: (o.drop 1 ++ y) = o ++ y := by
    rw [← List.cons_append, ← List.drop_eq_getElem_cons (by omega), List.drop_zero]
  by_cases h : x = []
  · subst h; simp [clash, chosen]; simpa using hd
  · simp [clash, chosen, h]; simpa using hd

/-! ### All pieces -/
/-- All pieces, one behind the other, are the lists; a loose piece clashes where its three are unlike. -/
def Whole (x : Pc β) : Prop := x.c = clash x.o x.a x.b
theorem fast_cat (o a b : List β) (fr at_ : Pl) (h : Fast o a b fr at_) : ((fast o a b fr at_).map (·.o)).flatten = cut o fr.1 at_.1 ∧ ((fast o a b fr at_).map (·.a)).flatten = cut a fr.2.1 at_.2.1 ∧ ((fast o a b fr at_).map (·.b)).flatten = cut b fr.2.2 at_.2.2 ∧ ∀ x ∈ fast o a b fr at_, Whole x := by
  obtain ⟨d, e1, e2, e3, c1, c2⟩ := h
  unfold fast
  by_cases hd : fr.1 < at_.1
  · rw [if_pos hd]
    refine ⟨by simp, by simp, by simp, fun x hx => ?_⟩
    rw [List.mem_singleton.1 hx]
    unfold Whole
    simp only
    rw [← c1, ← c2, clash_same]
  · rw [if_neg hd]
    obtain rfl : d = 0 := by omega
    rw [e1, e2, e3]
    simp [cut_self]
theorem parts_cat (o a b : List β) : ∀ (ps : List Pl) (at_ fr : Pl), Good3 o a b at_.1 at_.2.1 at_.2.2 ps → at_.1 ≤ o.length → at_.2.1 ≤ a.length → at_.2.2 ≤ b.length → Fast o a b fr at_ →
    let P := partsGo o a b (ps ++ [(o.length, a.length, b.length)]) at_ fr
    (P.map (·.o)).flatten = o.drop fr.1 ∧ (P.map (·.a)).flatten = a.drop fr.2.1 ∧ (P.map (·.b)).flatten = b.drop fr.2.2 ∧ ∀ x ∈ P, Whole x
  | [], at_, fr, _, l1, l2, l3, hF => by
    have hd : ∀ (l : List β) (i : Nat), cut l i l.length = l.drop i := fun l i => cut_end l i _ (Nat.le_refl _)
    obtain ⟨f1, f2, f3, f4⟩ := fast_cat o a b fr at_ hF
    obtain ⟨d, e1, e2, e3, _⟩ := hF
    simp only [List.nil_append, partsGo]
    by_cases h : (o.length, a.length, b.length) = at_
    · rw [if_pos h]
      subst h
      simp only [hd] at f1 f2 f3
      exact ⟨f1, f2, f3, f4⟩
    · rw [if_neg h]
      have hf : fast o a b (o.length, a.length, b.length) (o.length, a.length, b.length) = [] := by unfold fast; simp
      rw [hf]
      simp only [List.map_append, List.flatten_append, List.map_cons, List.map_nil, List.flatten_cons, List.flatten_nil, List.append_nil, f1, f2, f3, loose, hd]
      refine ⟨cut_drop o (by omega), cut_drop a (by omega), cut_drop b (by omega), fun x hx => ?_⟩
      rcases List.mem_append.1 hx with hx | hx
      · exact f4 x hx
      · rw [List.mem_singleton.1 hx]; rfl
  | (p, q, r) :: ps, at_, fr, hG, l1, l2, l3, hF => by
    obtain ⟨g1, g2, g3, ⟨x, x1, x2, x3⟩, g4⟩ := hG
    have y1 := (List.getElem?_eq_some_iff.1 x1).1
    have y2 := (List.getElem?_eq_some_iff.1 x2).1
    have y3 := (List.getElem?_eq_some_iff.1 x3).1
    simp only [List.cons_append, partsGo]
    by_cases h : (p, q, r) = at_
    · rw [if_pos h]
      subst h
      exact parts_cat o a b ps (nx (p, q, r)) fr g4 y1 y2 y3 (hF.snoc x1 x2 x3)
    · rw [if_neg h]
      obtain ⟨h1, h2, h3, h4⟩ := parts_cat o a b ps (nx (p, q, r)) (p, q, r) g4 y1 y2 y3 ((Fast.refl o a b (p, q, r)).snoc x1 x2 x3)
      obtain ⟨f1, f2, f3, f4⟩ := fast_cat o a b fr at_ hF
      obtain ⟨d, e1, e2, e3, _⟩ := hF
      simp only [List.map_append, List.flatten_append, List.map_cons, List.flatten_cons, f1, f2, f3, h1, h2, h3, loose]
      refine ⟨by rw [cut_drop o g1, cut_drop o (by omega)], by rw [cut_drop a g2, cut_drop a (by omega)], by rw [cut_drop b g3, cut_drop b (by omega)], fun x hx => ?_⟩
      rcases List.mem_append.1 hx with hx | hx
      · exact f4 x hx
      · rcases List.mem_cons.1 hx with rfl | hx
        · rfl
        · exact h4 x hx
theorem parts_whole (o a b : List β) : ((parts o a b).map (·.o)).flatten = o ∧ ((parts o a b).map (·.a)).flatten = a ∧ ((parts o a b).map (·.b)).flatten = b ∧ ∀ x ∈ parts o a b, Whole x := by
  have := parts_cat o a b (stand o a b) (0, 0, 0) (0, 0, 0) (stand_good o a b) (Nat.zero_le _) (Nat.zero_le _) (Nat.zero_le _) (Fast.refl o a b _)
  simp only [List.drop_zero] at this
  exact this
/-- What pieces come to, piece by piece. -/
theorem merged_eq (P : List (Pc β)) : merged P = if P.any (·.c) = true then none else some ((P.map fun x => chosen x.o x.a x.b).flatten) := by
  induction P with
  | nil => simp [merged]
  | cons x r ih =>
    rw [merged, ih]
    cases h : x.c <;> cases h2 : r.any (·.c) <;> simp [h, h2]

/-! ### What elements are does not matter -/
def pmap {γ : Type} (f : β → γ) (x : Pc β) : Pc γ := ⟨x.c, x.o.map f, x.a.map f, x.b.map f⟩
theorem partsGo_map {γ : Type} [DecidableEq γ] (f : β → γ) (hf : ∀ x y, f x = f y → x = y) (o a b : List β) : ∀ (ps : List Pl) (at_ fr : Pl),
    partsGo (o.map f) (a.map f) (b.map f) ps at_ fr = (partsGo o a b ps at_ fr).map (pmap f) := by
  have hfa : ∀ fr at_, fast (o.map f) (a.map f) (b.map f) fr at_ = (fast o a b fr at_).map (pmap f) := by
    intro fr at_
    unfold fast
    split
    · simp [cut_map, pmap]
    · rfl
  intro ps
  induction ps with
  | nil =>
    intro at_ fr
    simp only [partsGo, List.length_map, hfa]
  | cons p ps ih =>
    intro at_ fr
    simp only [partsGo]
    split
    · exact ih _ _
    · rw [hfa, ih, List.map_append, List.map_cons]
      congr 2
      unfold loose pmap
      simp only [cut_map, clash_map f hf]
theorem stand_map {γ : Type} [DecidableEq γ] (f : β → γ) (hf : ∀ x y, f x = f y → x = y) (o a b : List β) : stand (o.map f) (a.map f) (b.map f) = stand o a b := by
  unfold stand
  rw [pr_map f hf, pr_map f hf]
theorem parts_map {γ : Type} [DecidableEq γ] (f : β → γ) (hf : ∀ x y, f x = f y → x = y) (o a b : List β) : parts (o.map f) (a.map f) (b.map f) = (parts o a b).map (pmap f) := by
  unfold parts
  rw [stand_map f hf]
  simp only [List.length_map]
  exact partsGo_map f hf o a b _ _ _
theorem merged_map {γ : Type} [DecidableEq γ] (f : β → γ) (hf : ∀ x y, f x = f y → x = y) (P : List (Pc β)) : merged (P.map (pmap f)) = (merged P).map (fun l => l.map f) := by
  induction P with
  | nil => rfl
  | cons x r ih =>
    rw [List.map_cons, merged, merged, ih]
    have : (pmap f x).c = x.c := rfl
    rw [this]
    split
    · rfl
    · have : chosen (pmap f x).o (pmap f x).a (pmap f x).b = (chosen x.o x.a x.b).map f := chosen_map f hf _ _ _
      rw [this]
      cases merged r <;> simp
theorem merge_map {γ : Type} [DecidableEq γ] (f : β → γ) (hf : ∀ x y, f x = f y → x = y) (o a b : List β) : merge (o.map f) (a.map f) (b.map f) = (merge o a b).map (fun l => l.map f) := by
  unfold merge
  rw [parts_map f hf, merged_map f hf]
theorem partsGo_length (o a b : List β) : ∀ (ps : List Pl) (at_ fr : Pl), (partsGo o a b ps at_ fr).length ≤ 2 * ps.length + 1 := by
  have hf : ∀ fr at_, (fast o a b fr at_).length ≤ 1 := by
    intro fr at_; unfold fast; split <;> simp
  intro ps
  induction ps with
  | nil => intro at_ fr; simp only [partsGo]; have := hf fr (o.length, a.length, b.length); simp; omega
  | cons p ps ih =>
    intro at_ fr
    simp only [partsGo]
    split
    · have := ih (nx p) fr; simp; omega
    · have h1 := hf fr at_
      have h2 := ih (nx p) p
      simp; omega
theorem stand_length (o a b : List β) : (stand o a b).length ≤ o.length := by
  unfold stand
  have h1 := List.length_filterMap_le (fun p : Nat × Nat => ((pr o b 0 0).lookup p.1).map fun k => ((p.1, p.2, k) : Pl)) (pr o a 0 0)
  have h2 := pr_length o a 0 0
  have h3 := L_le_left o a
  omega
end
end Go.Proofs.Ythghpmnbnfbheaa.Three
end
