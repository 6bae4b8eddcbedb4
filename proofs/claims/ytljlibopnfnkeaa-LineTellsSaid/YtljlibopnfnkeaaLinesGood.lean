/- What each of a text's lines is like. -/
import Derived.Test.YtljlibopnfnkeaaLinesMore
namespace Go.Proofs.Ytljlibopnfnkeaa.Lines
open Go
def GoodL (ls : List (List UInt8)) : Prop := ∀ i (h : i < ls.length), ls[i] ≠ [] ∧ (∀ k (hk : k < ls[i].length), ls[i][k] = 10 → k + 1 = ls[i].length) ∧ (i + 1 < ls.length → ls[i].getLast? = some 10)
theorem linesL_good : ∀ cs : List UInt8, GoodL (linesL cs)
  | [] => fun i h => by simp [linesL] at h
  | c :: cs => by
    have ih := linesL_good cs
    rw [linesL]
    split
    · rename_i hc
      intro i h
      cases i with
      | zero => exact ⟨by simp, fun k hk _ => by simp at hk ⊢; omega, fun _ => by simp [hc]⟩
      | succ i =>
        have := ih i (by simpa using h)
        simpa using this
    · rename_i hc
      split
      · intro i h
        obtain rfl : i = 0 := by simp at h; omega
        refine ⟨by simp, fun k hk hx => by simp at hk ⊢; omega, fun h => by simp at h⟩
      · rename_i l ls hl
        rw [hl] at ih
        intro i h
        cases i with
        | zero =>
          obtain ⟨h1, h2, h3⟩ := ih 0 (by simp)
          simp only [List.getElem_cons_zero] at h1 h2 h3 ⊢
          refine ⟨by simp, fun k hk hx => ?_, fun hh => ?_⟩
          · cases k with
            | zero => simp at hx; exact absurd hx hc
            | succ k =>
              have := h2 k (by simpa using hk) (by simpa using hx)
              simp; omega
          · have := h3 (by simpa using hh)
            rw [List.getLast?_cons]
            simp [this]
        | succ i =>
          have := ih (i + 1) (by simpa using h)
          simpa using this
/-- The same of the texts. -/
theorem lines_good (s : ByteArray) (i : Nat) (h : i < (lines s).length) :
    0 < (lines s)[i].size ∧ (∀ k (hk : k < (lines s)[i].size), (lines s)[i][k].toNat = 10 → k + 1 = (lines s)[i].size) ∧ (i + 1 < (lines s).length → ∀ hk : (lines s)[i].size - 1 < (lines s)[i].size, (lines s)[i][(lines s)[i].size - 1].toNat = 10) := by
  have hl : i < (linesL s.data.toList).length := by simpa [lines] using h
  obtain ⟨h1, h2, h3⟩ := linesL_good s.data.toList i hl
  have e : (lines s)[i] = bs (linesL s.data.toList)[i] := by simp [lines]
  have es : ∀ l : List UInt8, (bs l).size = l.length := fun l => by
    have : (bs l).data.toList.length = (bs l).size := by simp
    rw [← this]; simp [bs]
  have eg : ∀ (l : List UInt8) (k : Nat) (hk : k < (bs l).size), (bs l)[k] = l[k]'(by rw [← es]; exact hk) := fun l k hk => by
    show (bs l).data[k] = _
    simp [bs]
  rw [e]
  generalize (linesL s.data.toList)[i] = l at h1 h2 h3
  refine ⟨by rw [es]; exact List.length_pos_iff.2 h1, fun k hk hx => ?_, fun hh hk => ?_⟩
  · rw [es]
    refine h2 k (by rw [← es]; exact hk) ?_
    rw [eg l k hk] at hx
    apply UInt8.toNat.inj
    rw [hx]; rfl
  · rw [eg l _ hk]
    have h4 := h3 (by simpa [lines] using hh)
    rw [List.getLast?_eq_getElem?] at h4
    obtain ⟨h5, h6⟩ := List.getElem?_eq_some_iff.1 h4
    have : l[(bs l).size - 1]'(by rw [← es]; exact hk) = 10 := by
      rw [← h6]
      congr 1
    rw [this]; rfl
end Go.Proofs.Ytljlibopnfnkeaa.Lines
