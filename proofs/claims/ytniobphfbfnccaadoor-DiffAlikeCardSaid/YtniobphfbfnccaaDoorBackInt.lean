/-
  Steps make the one list the other: plain Lean over what diff (over Int) was shown to come to.
-/
import Derived.Test.YtniobphfbfnccaaDoorApplyInt
namespace Go.Proofs.YtniobphfbfnccaaDoor.Runint
open Go.RowKit Go.IntWalk Go.Proofs.YtniobphfbfnccaaDoor.PAll Go.Proofs.YtniobphfbfnccaaDoorW.PrintWords Go.Proofs.YtniobphfbfnccaaDoorW.PrintLast Go.Proofs.YtniobphfbfnccaaDoorW.PrintMore Go.Proofs.YtniobphfbfnccaaDoor.Lcs

theorem eat_same {A B : List Int} : ∀ (s i j : Nat), i + s ≤ A.length → j + s ≤ B.length → (∀ t, t < s → A[i + t]? = B[j + t]?) → eat A B s i j (B.take j) = some (B.take (j + s))
  | 0, i, j, _, _, _ => by rw [eat]; rfl
  | s + 1, i, j, hi, hj, h => by
    have hi' : i < A.length := by omega
    have hj' : j < B.length := by omega
    have h0 := h 0 (by omega)
    rw [Nat.add_zero, Nat.add_zero, List.getElem?_eq_getElem hi', List.getElem?_eq_getElem hj'] at h0
    have h0 := Option.some.inj h0
    rw [eat, dif_pos ⟨hi', hj'⟩, if_pos (by rw [h0]), h0, ← List.take_succ_eq_append_getElem hj', eat_same s (i + 1) (j + 1) (by omega) (by omega) (fun t ht => by
      have := h (t + 1) (by omega)
      rwa [show i + (t + 1) = i + 1 + t by omega, show j + (t + 1) = j + 1 + t by omega] at this)]
    rw [show j + 1 + s = j + (s + 1) by omega]

/-- One step that fits. -/
theorem ap_step {A B : List Int} {s o u i j : Nat} (r : List S42) (hi : i + s + o ≤ A.length) (hj : j + s + u ≤ B.length) (h : ∀ t, t < s → A[i + t]? = B[j + t]?) :
    ap A B (⟨(s : Int), (o : Int), (u : Int)⟩ :: r) i j (B.take j) = ap A B r (i + s + o) (j + s + u) (B.take (j + s + u)) := by
  rw [ap]
  rw [if_neg (by simp only; omega)]
  simp only [Int.toNat_natCast]
  rw [eat_same s i j (by omega) (by omega) h]
  simp only
  rw [if_neg (by omega)]
  congr 1
  rw [← List.take_append_drop (j + s) (B.take (j + s + u)), List.take_take, Nat.min_eq_left (by omega)]
  rw [List.drop_append, List.drop_of_length_le (by simp; omega), List.nil_append, List.length_take, Nat.min_eq_left (by omega), Nat.sub_self, List.drop_zero]

theorem good_get {A B : List Int} (hinj : ∀ x y : Int, key x = key y → x = y) {i j : Nat} {r : List (Nat × Nat)} (h : Lcs.Good (A.map key) (B.map key) i j r) : Lcs.Good A B i j r := by
  induction r generalizing i j with
  | nil => trivial
  | cons x r ih =>
    obtain ⟨p, q⟩ := x
    obtain ⟨h1, h2, ⟨y, h3, h4⟩, h5⟩ := h
    rw [List.getElem?_map] at h3 h4
    obtain ⟨a, ha, rfl⟩ := Option.map_eq_some_iff.1 h3
    obtain ⟨b, hb, he⟩ := Option.map_eq_some_iff.1 h4
    have := hinj _ _ he
    subst this
    exact ⟨h1, h2, ⟨b, ha, hb⟩, ih h5⟩

theorem ap_go {A B : List Int} : ∀ (r : List (Nat × Nat)) (s i j : Nat), Lcs.Good A B (i + s) (j + s) r → i + s ≤ A.length → j + s ≤ B.length → (∀ t, t < s → A[i + t]? = B[j + t]?) →
    ap A B (go A.length B.length s (i + s) (j + s) r) i j (B.take j) = (B, true) := by
  intro r
  induction r with
  | nil =>
    intro s i j _ hi hj h
    rw [go]
    by_cases h0 : 0 < A.length - (i + s) + (B.length - (j + s))
    · rw [if_pos h0, ap_step [] (by omega) (by omega) h, ap, if_neg (by omega), List.take_of_length_le (by omega)]
    · rw [if_neg h0]
      by_cases hz : s = 0
      · subst hz
        rw [if_pos rfl, ap, if_neg (by omega), List.take_of_length_le (by omega)]
      · have := ap_step (o := 0) (u := 0) [] (by omega) (by omega) h
        rw [if_neg hz]
        refine this.trans ?_
        rw [ap, if_neg (by omega), List.take_of_length_le (by omega)]
  | cons x r ih =>
    obtain ⟨p, q⟩ := x
    intro s i j hg hi hj h
    obtain ⟨h1, h2, ⟨y, h3, h4⟩, h5⟩ := hg
    have hp := (List.getElem?_eq_some_iff.1 h3).1
    have hq := (List.getElem?_eq_some_iff.1 h4).1
    rw [go]
    by_cases h0 : 0 < p - (i + s) + (q - (j + s))
    · rw [if_pos h0, ap_step _ (by omega) (by omega) h]
      have := ih 1 p q h5 (by omega) (by omega) (fun t ht => by
        obtain rfl : t = 0 := by omega
        rw [Nat.add_zero, Nat.add_zero, h3, h4])
      rw [show i + s + (p - (i + s)) = p by omega, show j + s + (q - (j + s)) = q by omega]
      exact this
    · rw [if_neg h0]
      obtain rfl : p = i + s := by omega
      obtain rfl : q = j + s := by omega
      exact ih (s + 1) i j h5 (by omega) (by omega) (fun t ht => by
        rcases Nat.lt_or_ge t s with hlt | hge
        · exact h t hlt
        · obtain rfl : t = s := by omega
          rw [h3, h4])

/-- Steps make the one list the other. -/
theorem ap_steps (hinj : ∀ x y : Int, key x = key y → x = y) (A B : List Int) : ap A B (stepsOf A B) 0 0 [] = (B, true) := by
  have := ap_go (A := A) (B := B) (pr (A.map key) (B.map key) 0 0) 0 0 0 (good_get hinj (pr_good _ _ _ _ 0 0 rfl rfl)) (by omega) (by omega) (by omega)
  exact this

theorem go_diag (n : Nat) : ∀ (d s i : Nat), i + d = n → go n n s i i ((List.range d).map fun t => (i + t, i + t)) = if s + d = 0 then [] else [⟨((s + d : Nat) : Int), 0, 0⟩] := by
  intro d
  induction d with
  | zero =>
    intro s i hi
    rw [List.range_zero, List.map_nil, go, if_neg (by omega)]
    rfl
  | succ d ih =>
    intro s i hi
    rw [List.range_succ_eq_map, List.map_cons, List.map_map, go, if_neg (by omega)]
    have := ih (s + 1) (i + 1) (by omega)
    rw [show s + 1 + d = s + (d + 1) by omega] at this
    rw [← this]
    congr 1
    apply List.map_congr_left
    intro t _
    simp only [Function.comp]
    congr 1 <;> omega
theorem steps_self (A : List Int) : stepsOf A A = if A.length = 0 then [] else [⟨(A.length : Int), 0, 0⟩] := by
  have h := pr_head (A.map key) [] [] 0 0
  rw [List.append_nil, pr_nil, List.append_nil, List.length_map] at h
  unfold stepsOf
  rw [h]
  have := go_diag A.length A.length 0 0 (by omega)
  rw [Nat.zero_add] at this
  exact this
end Go.Proofs.YtniobphfbfnccaaDoor.Runint
