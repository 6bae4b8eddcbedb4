/-
  The longest list that two lists have in common: plain Lean, no Go.
-/
import Derived.Test.YtniobphfbfnccaaWWords
namespace Go.Proofs.Ytniobphfbfnccaa.Lcs

/-! ### Rounds -/
/-- With enough rounds the one loop stands where the other begins. -/
def To {α : Type} (g h : Nat → Option α) : Prop := ∃ K M, ∀ k, M ≤ k → g (k + K) = h k
theorem To.refl {α : Type} (g : Nat → Option α) : To g g := ⟨0, 0, fun _ _ => rfl⟩
theorem To.trans {α : Type} {g h p : Nat → Option α} (a : To g h) (b : To h p) : To g p := by
  obtain ⟨K, M, a⟩ := a
  obtain ⟨K', M', b⟩ := b
  refine ⟨K + K', M + M', fun k hk => ?_⟩
  rw [show k + (K + K') = (k + K') + K from by omega, a _ (by omega), b _ (by omega)]
theorem To.step {α : Type} {g h : Nat → Option α} (a : ∀ k, g (k + 1) = h k) : To g h := ⟨1, 0, fun k _ => a k⟩
theorem To.eq {α : Type} {g h : Nat → Option α} (a : ∀ k, g k = h k) : To g h := ⟨0, 0, fun k _ => a k⟩
theorem To.step_trans {α : Type} {g h p : Nat → Option α} (a : ∀ k, g (k + 1) = h k) (b : To h p) : To g p := (To.step a).trans b
/-- What tells at last is a result. -/
def At {α : Type} (g : Nat → Option α) (r : α) : Prop := To g (fun _ => some r)
theorem At.rounds {α : Type} {g : Nat → Option α} {r : α} (h : At g r) : ∃ k, g k = some r := by
  obtain ⟨K, M, h⟩ := h
  exact ⟨M + K, h M (Nat.le_refl _)⟩
theorem At.late {α : Type} {g : Nat → Option α} {r : α} (h : At g r) : ∃ M, ∀ k, M ≤ k → g k = some r := by
  obtain ⟨K, M, h⟩ := h
  refine ⟨M + K, fun k hk => ?_⟩
  have := h (k - K) (by omega)
  rwa [show k - K + K = k from by omega] at this
theorem At.of_late {α : Type} {g : Nat → Option α} {r : α} (M : Nat) (h : ∀ k, M ≤ k → g k = some r) : At g r := ⟨0, M, h⟩
theorem At.now {α : Type} (r : α) : At (fun _ => some r) r := To.refl _
/-- A call that tells a is passed. -/
theorem At.bind {α γ : Type} {g : Nat → Option α} {a : α} (h : At g a) (F : Nat → α → Option γ) : To (fun k => (g k).bind (F k)) (fun k => F k a) := by
  obtain ⟨M, h⟩ := h.late
  exact ⟨0, M, fun k hk => by simp [h k hk]⟩
theorem At.bind_at {α γ : Type} {g : Nat → Option α} {a : α} (h : At g a) {F : Nat → α → Option γ} {r : γ} (k : At (fun k => F k a) r) : At (fun k => (g k).bind (F k)) r := (h.bind F).trans k

section
variable {β : Type} [DecidableEq β]

/-- How long the longest list is that both have. -/
def L : List β → List β → Nat
  | [], _ => 0
  | _ :: _, [] => 0
  | x :: a, y :: b => if x = y then L a b + 1 else max (L a (y :: b)) (L (x :: a) b)
termination_by a b => a.length + b.length

theorem L_nil (b : List β) : L [] b = 0 := by rw [L]
theorem L_nil' (a : List β) : L a [] = 0 := by cases a <;> simp [L]
theorem L_cons_eq {x y : β} (a b : List β) (h : x = y) : L (x :: a) (y :: b) = L a b + 1 := by rw [L, if_pos h]
theorem L_cons_ne {x y : β} (a b : List β) (h : ¬ x = y) : L (x :: a) (y :: b) = max (L a (y :: b)) (L (x :: a) b) := by rw [L, if_neg h]

theorem L_le_left : ∀ (a b : List β), L a b ≤ a.length
  | [], b => by simp [L]
  | x :: a, [] => by simp [L]
  | x :: a, y :: b => by
    have h1 := L_le_left a b
    have h2 := L_le_left a (y :: b)
    have h3 := L_le_left (x :: a) b
    rw [L]
    split
    · simp; omega
    · simp at h2 h3 ⊢; omega
termination_by a b => a.length + b.length

theorem L_comm : ∀ (a b : List β), L a b = L b a
  | [], b => by rw [L_nil, L_nil']
  | x :: a, [] => by rw [L_nil, L_nil']
  | x :: a, y :: b => by
    by_cases h : x = y
    · rw [L_cons_eq _ _ h, L_cons_eq _ _ h.symm, L_comm a b]
    · rw [L_cons_ne _ _ h, L_cons_ne _ _ (fun e => h e.symm), L_comm a (y :: b), L_comm (x :: a) b, Nat.max_comm]
termination_by a b => a.length + b.length
theorem L_le_right (a b : List β) : L a b ≤ b.length := by rw [L_comm]; exact L_le_left b a

/-- A list that both have is no longer. -/
theorem L_ge : ∀ (a b c : List β), c.Sublist a → c.Sublist b → c.length ≤ L a b
  | [], b, c, ha, hb => by simp [List.sublist_nil.1 ha]
  | x :: a, [], c, ha, hb => by simp [List.sublist_nil.1 hb]
  | x :: a, y :: b, c, ha, hb => by
    by_cases h : x = y
    · subst h
      rw [L_cons_eq _ _ rfl]
      cases c with
      | nil => simp
      | cons z c =>
        have ha' : c.Sublist a := by
          cases ha with
          | cons _ h => exact (List.sublist_cons_self z c).trans h
          | cons_cons _ h => exact h
        have hb' : c.Sublist b := by
          cases hb with
          | cons _ h => exact (List.sublist_cons_self z c).trans h
          | cons_cons _ h => exact h
        have := L_ge a b c ha' hb'
        simp; omega
    · rw [L_cons_ne _ _ h]
      cases ha with
      | cons _ ha => have := L_ge a (y :: b) c ha hb; omega
      | cons_cons _ ha =>
        cases hb with
        | cons _ hb => have := L_ge (x :: a) b _ (ha.cons_cons x) hb; omega
        | cons_cons _ hb => exact absurd rfl h
termination_by a b => a.length + b.length

/-- There is a list of that length that both have. -/
theorem L_exists : ∀ (a b : List β), ∃ c : List β, c.Sublist a ∧ c.Sublist b ∧ c.length = L a b
  | [], b => ⟨[], by simp, by simp, by simp [L]⟩
  | x :: a, [] => ⟨[], by simp, by simp, by simp [L]⟩
  | x :: a, y :: b => by
    by_cases h : x = y
    · subst h
      obtain ⟨c, h1, h2, h3⟩ := L_exists a b
      exact ⟨x :: c, h1.cons_cons x, h2.cons_cons x, by rw [L_cons_eq _ _ rfl]; simp [h3]⟩
    · rw [L_cons_ne _ _ h]
      rcases Nat.le_total (L a (y :: b)) (L (x :: a) b) with hle | hle
      · obtain ⟨c, h1, h2, h3⟩ := L_exists (x :: a) b
        exact ⟨c, h1, h2.cons y, by omega⟩
      · obtain ⟨c, h1, h2, h3⟩ := L_exists a (y :: b)
        exact ⟨c, h1.cons x, h2, by omega⟩
termination_by a b => a.length + b.length

theorem L_reverse (a b : List β) : L a.reverse b.reverse = L a b := by
  have key : ∀ a b : List β, L a b ≤ L a.reverse b.reverse := by
    intro a b
    obtain ⟨c, h1, h2, h3⟩ := L_exists a b
    have := L_ge a.reverse b.reverse c.reverse (List.reverse_sublist.2 h1) (List.reverse_sublist.2 h2)
    simp at this; omega
  have h1 := key a b
  have h2 := key a.reverse b.reverse
  simp at h2
  omega
theorem L_head (h a b : List β) : L (h ++ a) (h ++ b) = h.length + L a b := by
  induction h with
  | nil => simp
  | cons x h ih => rw [List.cons_append, List.cons_append, L_cons_eq _ _ rfl, ih]; simp; omega
theorem L_tail (a b t : List β) : L (a ++ t) (b ++ t) = L a b + t.length := by
  rw [← L_reverse, List.reverse_append, List.reverse_append, L_head, L_reverse]
  simp; omega
theorem L_self (a : List β) : L a a = a.length := by
  have := L_head a [] []
  simpa [L] using this

/-- The places of the longest list that both have, the first list's first. -/
def pr : List β → List β → Nat → Nat → List (Nat × Nat)
  | [], _, _, _ => []
  | _ :: _, [], _, _ => []
  | x :: a, y :: b, i, j =>
    if x = y then (i, j) :: pr a b (i + 1) (j + 1)
    else if L (x :: a) b ≤ L a (y :: b) then pr a (y :: b) (i + 1) j
    else pr (x :: a) b i (j + 1)
termination_by a b => a.length + b.length

theorem pr_nil (b : List β) (i j : Nat) : pr [] b i j = [] := by rw [pr]
theorem pr_nil' (a : List β) (i j : Nat) : pr a [] i j = [] := by cases a <;> simp [pr]
theorem pr_eq {x y : β} (a b : List β) (i j : Nat) (h : x = y) : pr (x :: a) (y :: b) i j = (i, j) :: pr a b (i + 1) (j + 1) := by rw [pr, if_pos h]
theorem pr_down {x y : β} (a b : List β) (i j : Nat) (h : ¬ x = y) (hL : L (x :: a) b ≤ L a (y :: b)) : pr (x :: a) (y :: b) i j = pr a (y :: b) (i + 1) j := by rw [pr, if_neg h, if_pos hL]
theorem pr_right {x y : β} (a b : List β) (i j : Nat) (h : ¬ x = y) (hL : ¬ L (x :: a) b ≤ L a (y :: b)) : pr (x :: a) (y :: b) i j = pr (x :: a) b i (j + 1) := by rw [pr, if_neg h, if_neg hL]

theorem pr_length : ∀ (a b : List β) (i j : Nat), (pr a b i j).length = L a b
  | [], b, i, j => by simp [pr, L]
  | x :: a, [], i, j => by simp [pr, L]
  | x :: a, y :: b, i, j => by
    by_cases h : x = y
    · rw [pr_eq _ _ _ _ h, L_cons_eq _ _ h, List.length_cons, pr_length a b]
    · rw [L_cons_ne _ _ h]
      by_cases hL : L (x :: a) b ≤ L a (y :: b)
      · rw [pr_down _ _ _ _ h hL, pr_length a (y :: b)]; omega
      · rw [pr_right _ _ _ _ h hL, pr_length (x :: a) b]; omega
termination_by a b => a.length + b.length

/-- Rising pairs of places with like elements. -/
def Good (a b : List β) : Nat → Nat → List (Nat × Nat) → Prop
  | _, _, [] => True
  | i, j, (p, q) :: r => i ≤ p ∧ j ≤ q ∧ (∃ x, a[p]? = some x ∧ b[q]? = some x) ∧ Good a b (p + 1) (q + 1) r
omit [DecidableEq β] in
theorem Good.weak {a b : List β} {i j i' j' : Nat} {l : List (Nat × Nat)} (h : Good a b i j l) (hi : i' ≤ i) (hj : j' ≤ j) : Good a b i' j' l := by
  cases l with
  | nil => trivial
  | cons x r => obtain ⟨p, q⟩ := x; obtain ⟨h1, h2, h3, h4⟩ := h; exact ⟨by omega, by omega, h3, h4⟩
theorem pr_good (A B : List β) : ∀ (a b : List β) (i j : Nat), A.drop i = a → B.drop j = b → Good A B i j (pr a b i j)
  | [], b, i, j, _, _ => by rw [pr_nil]; trivial
  | x :: a, [], i, j, _, _ => by rw [pr_nil']; trivial
  | x :: a, y :: b, i, j, ha, hb => by
    have ha' : A.drop (i + 1) = a := by rw [← List.drop_drop, ha]; rfl
    have hb' : B.drop (j + 1) = b := by rw [← List.drop_drop, hb]; rfl
    have hax : A[i]? = some x := by
      have := congrArg (·[0]?) ha
      simpa using this
    have hby : B[j]? = some y := by
      have := congrArg (·[0]?) hb
      simpa using this
    by_cases h : x = y
    · rw [pr_eq _ _ _ _ h]
      exact ⟨Nat.le_refl _, Nat.le_refl _, ⟨x, hax, by rw [hby, h]⟩, pr_good A B a b (i + 1) (j + 1) ha' hb'⟩
    · by_cases hL : L (x :: a) b ≤ L a (y :: b)
      · rw [pr_down _ _ _ _ h hL]
        exact (pr_good A B a (y :: b) (i + 1) j ha' hb).weak (by omega) (Nat.le_refl _)
      · rw [pr_right _ _ _ _ h hL]
        exact (pr_good A B (x :: a) b i (j + 1) ha hb').weak (Nat.le_refl _) (by omega)
termination_by a b => a.length + b.length
theorem pr_head (h a b : List β) (i j : Nat) : pr (h ++ a) (h ++ b) i j = (List.range h.length).map (fun n => (i + n, j + n)) ++ pr a b (i + h.length) (j + h.length) := by
  induction h generalizing i j with
  | nil => simp
  | cons x h ih =>
    rw [List.cons_append, List.cons_append, pr_eq _ _ _ _ rfl, ih, List.length_cons, List.range_succ_eq_map]
    simp only [List.map_cons, List.map_map, List.cons_append, Nat.add_zero, List.cons.injEq, true_and]
    congr 1
    · apply List.map_congr_left
      intro n _
      simp only [Function.comp]
      congr 1 <;> omega
    · congr 1 <;> omega
end
end Go.Proofs.Ytniobphfbfnccaa.Lcs
