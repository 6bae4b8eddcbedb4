/- What text.Merge and text.Conflicts come to, and their plain laws. -/
import Derived.Test.YthghpmnbnfbheaaLinesMore
import Derived.Test.YthghpmnbnfbheaaThreePlain
namespace Go.Proofs.Ythghpmnbnfbheaa.Text
open Go.RowKit Go.Proofs.Ythghpmnbnfbheaa.Lines
/-- A text that is merged by its lines. -/
def plainB (s : ByteArray) : Bool := !(decide (0 ≤ Go.Lib.indexByte s.data.toList 0) || !decide ((lines s).length ≤ 60))
def plain3 (o a b : ByteArray) : Bool := plainB o && plainB a && plainB b
theorem plain3_swap (o a b : ByteArray) : plain3 o b a = plain3 o a b := by
  unfold plain3
  cases plainB o <;> cases plainB a <;> cases plainB b <;> rfl
theorem plainB_few {s : ByteArray} (h : plainB s = true) : (lines s).length ≤ 60 := by
  unfold plainB at h
  simp at h
  exact h.2
theorem plain3_few {o a b : ByteArray} (h : plain3 o a b = true) : (lines o).length ≤ 60 ∧ (lines a).length ≤ 60 ∧ (lines b).length ≤ 60 := by
  unfold plain3 at h
  simp only [Bool.and_eq_true] at h
  exact ⟨plainB_few h.1.1, plainB_few h.1.2, plainB_few h.2⟩
def mergeL (o a b : ByteArray) : Option (List ByteArray) := Three.merge (lines o) (lines a) (lines b)
def kept (m : Option (List ByteArray)) : Option ByteArray :=
  match m with
  | some l => if (glue l).size ≤ 400 then some (glue l) else none
  | none => none
/-- text.Merge: none where it does not come about. -/
def merge (o a b : ByteArray) : Option ByteArray :=
  if a = b ∨ b = o then some a else if a = o then some b else if plain3 o a b = false then none else kept (mergeL o a b)
theorem merge_swap (o a b : ByteArray) : merge o b a = merge o a b := by
  unfold merge
  by_cases h1 : a = b
  · subst h1; rfl
  · have h1' : ¬ b = a := fun e => h1 e.symm
    by_cases h2 : b = o
    · subst h2
      rw [if_neg (fun h => h.elim h1' h1), if_pos rfl, if_pos (.inr rfl)]
    · by_cases h3 : a = o
      · subst h3
        rw [if_pos (.inr rfl), if_neg (fun h => h.elim h1 h2), if_pos rfl]
      · rw [if_neg (show ¬ (b = a ∨ a = o) from fun h => h.elim h1' h3), if_neg h2, if_neg (show ¬ (a = b ∨ b = o) from fun h => h.elim h1 h2), if_neg h3, plain3_swap o a b]
        unfold mergeL
        rw [Three.merge_swap]
theorem merge_same (o a : ByteArray) : merge o a a = some a := by unfold merge; rw [if_pos (.inl rfl)]
theorem merge_left (o b : ByteArray) : merge o o b = some b := by
  unfold merge
  by_cases h : o = b ∨ b = o
  · rw [if_pos h]
    rcases h with h | h <;> rw [h]
  · rw [if_neg h, if_pos rfl]
theorem merge_right (o a : ByteArray) : merge o a o = some a := by unfold merge; rw [if_pos (.inr rfl)]
/-- text.Conflicts. -/
def confl (o a b : ByteArray) : Nat :=
  if (merge o a b).isSome = true then 0 else if plain3 o a b = false then 1 else max (Three.clashes (Three.parts (lines o) (lines a) (lines b))) 1
theorem confl_swap (o a b : ByteArray) : confl o b a = confl o a b := by
  unfold confl
  rw [merge_swap, plain3_swap, Three.clashes_swap]
theorem confl_zero (o a b : ByteArray) : decide (confl o a b = 0) = (merge o a b).isSome := by
  unfold confl
  cases h : (merge o a b).isSome with
  | true => simp
  | false =>
    rw [if_neg (by simp)]
    split
    · rfl
    · exact decide_eq_false (by omega)
end Go.Proofs.Ythghpmnbnfbheaa.Text
