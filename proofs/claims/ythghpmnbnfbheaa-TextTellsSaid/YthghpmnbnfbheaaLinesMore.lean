/- More of a text's lines: put together again; of two texts. -/
import Derived.Test.YthghpmnbnfbheaaLinesP
namespace Go.Proofs.Ythghpmnbnfbheaa.Lines
open Go
theorem linesL_flat : ∀ (l : List UInt8), (linesL l).flatten = l
  | [] => rfl
  | c :: cs => by
    have ih := linesL_flat cs
    rw [linesL]
    split
    · simp [ih]
    · split
      · rename_i h; rw [h] at ih; simp at ih; simp [ih]
      · rename_i h; rw [h] at ih; simp at ih; simp [ih]
theorem linesL_ne : ∀ (l : List UInt8), l ≠ [] → linesL l ≠ []
  | [], h => absurd rfl h
  | c :: cs, _ => by
    rw [linesL]
    split
    · simp
    · split <;> simp
theorem linesL_whole : ∀ (p b : List UInt8), linesL (p ++ 10 :: b) = linesL (p ++ [10]) ++ linesL b
  | [], b => by simp [linesL]
  | c :: p, b => by
    have ih := linesL_whole p b
    rw [List.cons_append, List.cons_append, linesL, linesL, ih]
    split
    · simp
    · have hne := linesL_ne (p ++ [10]) (by simp)
      cases h : linesL (p ++ [10]) with
      | nil => exact absurd h hne
      | cons l ls => simp
theorem linesL_part : ∀ (a b : List UInt8), a ≠ [] → a.getLast? ≠ some 10 → b ≠ [] → (linesL (a ++ b)).length + 1 = (linesL a).length + (linesL b).length
  | [], _, h, _, _ => absurd rfl h
  | [c], b, _, h, hb => by
    have hc : c ≠ 10 := fun e => h (by simp [e])
    rw [List.singleton_append, linesL, if_neg hc, linesL, if_neg hc]
    have hne := linesL_ne b hb
    cases hx : linesL b with
    | nil => exact absurd hx hne
    | cons l ls => simp [linesL]; omega
  | c :: d :: a, b, _, h, hb => by
    have ih := linesL_part (d :: a) b (by simp) (by simpa using h) hb
    rw [List.cons_append, linesL]
    rw [show linesL (c :: d :: a) = if c = 10 then [c] :: linesL (d :: a) else match linesL (d :: a) with | [] => [[c]] | l :: ls => (c :: l) :: ls from rfl]
    split
    · simp only [List.length_cons, List.cons_append] at ih ⊢; omega
    · have h1 := linesL_ne (d :: a) (by simp)
      have h2 := linesL_ne (d :: a ++ b) (by simp)
      cases hx : linesL (d :: a) with
      | nil => exact absurd hx h1
      | cons l ls =>
        cases hy : linesL (d :: a ++ b) with
        | nil => exact absurd hy h2
        | cons m ms => rw [hx, hy] at ih; simp at ih ⊢; omega
theorem glue_map (l : List (List UInt8)) : glue (l.map bs) = bs l.flatten := by
  unfold glue bs
  congr 2
  rw [List.flatMap_map]
  induction l with
  | nil => rfl
  | cons x r ih => simp at ih ⊢
theorem bs_self (s : ByteArray) : bs s.data.toList = s := by cases s; rfl
theorem glue_lines (s : ByteArray) : glue (lines s) = s := by
  unfold lines
  rw [glue_map, linesL_flat, bs_self]
theorem glue_app (l m : List ByteArray) : glue (l ++ m) = glue l ++ glue m := by
  apply ByteArray.ext
  apply Array.ext'
  simp [glue, ByteArray.data_append]
theorem glue_size (l : List ByteArray) : (glue l).size = (l.map ByteArray.size).sum := by
  have h : ∀ (l : List ByteArray), (l.flatMap (·.data.toList)).length = (l.map ByteArray.size).sum := by
    intro l
    induction l with
    | nil => rfl
    | cons x r ih => rw [List.flatMap_cons, List.length_append, ih, List.map_cons, List.sum_cons]; simp
  rw [← h]
  have : (glue l).data.toList.length = (glue l).size := by simp
  rw [← this]
  simp [glue]
theorem lines_app_data (a b : ByteArray) : (a ++ b).data.toList = a.data.toList ++ b.data.toList := by simp [ByteArray.data_append]
/-- A whole line ahead: the lines are both's. -/
theorem lines_whole (a b : ByteArray) (h : a.data.toList = [] ∨ a.data.toList.getLast? = some 10) : lines (a ++ b) = lines a ++ lines b := by
  unfold lines
  rw [lines_app_data, ← List.map_append]
  congr 1
  rcases h with h | h
  · rw [h]; rfl
  · obtain ⟨p, hp⟩ : ∃ p, a.data.toList = p ++ [10] := by
      obtain ⟨hne, hl⟩ := List.getLast?_eq_some_iff.1 h
      exact ⟨hne, hl⟩
    rw [hp, List.append_assoc, List.singleton_append]
    exact linesL_whole p _
theorem lines_part (a b : ByteArray) (h1 : a.data.toList ≠ []) (h2 : a.data.toList.getLast? ≠ some 10) (h3 : b.data.toList ≠ []) : (lines (a ++ b)).length + 1 = (lines a).length + (lines b).length := by
  unfold lines
  rw [lines_app_data]
  simpa using linesL_part _ _ h1 h2 h3
end Go.Proofs.Ythghpmnbnfbheaa.Lines
