/-
  What elements are does not matter, but which are alike: plain Lean, no Go.
-/
import Derived.Test.YtniobphfbfnccaaDoorLcsAt
namespace Go.Proofs.YtniobphfbfnccaaDoor.Lcs
section
variable {β γ : Type} [DecidableEq β] [DecidableEq γ]
theorem L_map (f : β → γ) (hf : ∀ x y, f x = f y → x = y) : ∀ (a b : List β), L (a.map f) (b.map f) = L a b
  | [], b => by rw [List.map_nil, L_nil, L_nil]
  | x :: a, [] => by rw [List.map_nil, L_nil', L_nil']
  | x :: a, y :: b => by
    have h1 := L_map f hf a b
    have h2 := L_map f hf a (y :: b)
    have h3 := L_map f hf (x :: a) b
    rw [List.map_cons] at h2 h3
    rw [List.map_cons, List.map_cons]
    by_cases h : x = y
    · rw [L_cons_eq _ _ (by rw [h]), L_cons_eq _ _ h, h1]
    · rw [L_cons_ne _ _ (fun e => h (hf _ _ e)), L_cons_ne _ _ h, h2, h3]
termination_by a b => a.length + b.length
theorem pr_map (f : β → γ) (hf : ∀ x y, f x = f y → x = y) : ∀ (a b : List β) (i j : Nat), pr (a.map f) (b.map f) i j = pr a b i j
  | [], b, i, j => by rw [List.map_nil, pr_nil, pr_nil]
  | x :: a, [], i, j => by rw [List.map_nil, pr_nil', pr_nil']
  | x :: a, y :: b, i, j => by
    have h1 := pr_map f hf a b (i + 1) (j + 1)
    have h2 := pr_map f hf a (y :: b) (i + 1) j
    have h3 := pr_map f hf (x :: a) b i (j + 1)
    have l2 := L_map f hf a (y :: b)
    have l3 := L_map f hf (x :: a) b
    rw [List.map_cons] at h2 h3 l2 l3
    rw [List.map_cons, List.map_cons]
    by_cases h : x = y
    · rw [pr_eq _ _ _ _ (by rw [h]), pr_eq _ _ _ _ h, h1]
    · have h' : ¬ f x = f y := fun e => h (hf _ _ e)
      by_cases hL : L (x :: a) b ≤ L a (y :: b)
      · rw [pr_down _ _ _ _ h' (by rw [l2, l3]; exact hL), pr_down _ _ _ _ h hL, h2]
      · rw [pr_right _ _ _ _ h' (by rw [l2, l3]; exact hL), pr_right _ _ _ _ h hL, h3]
termination_by a b => a.length + b.length
end
end Go.Proofs.YtniobphfbfnccaaDoor.Lcs
