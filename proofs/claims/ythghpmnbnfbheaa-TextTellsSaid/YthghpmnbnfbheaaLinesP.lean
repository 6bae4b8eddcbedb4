/- A text's lines, as a plain function of its bytes. -/
import Derived.Lib.IndexLaws
namespace Go.Proofs.Ythghpmnbnfbheaa.Lines
open Go

def linesL : List UInt8 → List (List UInt8)
  | [] => []
  | c :: cs => if c = 10 then [c] :: linesL cs else match linesL cs with
    | [] => [[c]]
    | l :: ls => (c :: l) :: ls
def bs (l : List UInt8) : ByteArray := ⟨l.toArray⟩
def lines (s : ByteArray) : List ByteArray := (linesL s.data.toList).map bs

def glue (l : List ByteArray) : ByteArray := ⟨(l.flatMap (·.data.toList)).toArray⟩
theorem linesL_none : ∀ (l : List UInt8), l ≠ [] → (∀ c ∈ l, c ≠ 10) → linesL l = [l]
  | [], h, _ => absurd rfl h
  | [c], _, h => by have := h c (by simp); simp [linesL, this]
  | c :: d :: l, _, h => by
    have hc := h c (by simp)
    have ih := linesL_none (d :: l) (by simp) (fun x hx => h x (by simp [hx]))
    rw [linesL, if_neg hc, ih]
theorem linesL_some : ∀ (l r : List UInt8), (∀ c ∈ l, c ≠ 10) → linesL (l ++ 10 :: r) = (l ++ [10]) :: linesL r
  | [], r, _ => by simp [linesL]
  | c :: l, r, h => by
    have hc := h c (by simp)
    have ih := linesL_some l r (fun x hx => h x (by simp [hx]))
    rw [List.cons_append, linesL, if_neg hc, ih]
    rfl
theorem linesL_length : ∀ (l : List UInt8), (linesL l).length ≤ l.length
  | [] => by simp [linesL]
  | c :: cs => by
    have ih := linesL_length cs
    rw [linesL]
    split
    · simp; omega
    · split
      · simp
      · rename_i h; rw [h] at ih; simp at ih ⊢; omega
theorem lines_length (s : ByteArray) : (lines s).length ≤ s.size := by
  have := linesL_length s.data.toList
  have e : s.data.toList.length = s.size := by simp
  rw [e] at this
  simpa [lines] using this
theorem lines_empty (s : ByteArray) (h : s.size = 0) : lines s = [] := by
  have : s.data.toList = [] := List.eq_nil_of_length_eq_zero (by simpa using h)
  simp [lines, this, linesL]
/-- No byte 10: one line. -/
theorem lines_one (s : ByteArray) (h : 0 < s.size) (hi : Lib.indexByte s.data.toList 10 = -1) : lines s = [s] := by
  have hn := Lib.indexByte_none hi
  have : linesL s.data.toList = [s.data.toList] := linesL_none _ (fun e => by have : s.size = 0 := by have := congrArg List.length e; simpa using this
                                                                              omega) (fun c hc e => by
    obtain ⟨k, hk, rfl⟩ := List.getElem_of_mem hc
    exact hn k (by rw [List.getElem?_eq_getElem hk, e]))
  simp [lines, this, bs]
theorem indexByte_lt (l : List UInt8) (o : Nat) (hi : Lib.indexByte l 10 = o) : o < l.length := by
  have h := (Lib.indexByte_some hi).1
  exact (List.getElem?_eq_some_iff.1 h).1
/-- A byte 10 at o, none ahead of it: a line, and the rest's. -/
theorem lines_step (s : ByteArray) (o : Nat) (hi : Lib.indexByte s.data.toList 10 = o) : lines s = s.extract 0 (o + 1) :: lines (s.extract (o + 1) s.size) := by
  obtain ⟨h1, h2⟩ := Lib.indexByte_some hi
  have hlt := indexByte_lt _ _ hi
  have hs : s.data.toList = s.data.toList.take o ++ 10 :: s.data.toList.drop (o + 1) := by
    have e : s.data.toList[o] = 10 := by rw [List.getElem?_eq_getElem hlt] at h1; exact Option.some.inj h1
    conv => lhs; rw [← List.take_append_drop o s.data.toList]
    rw [List.drop_eq_getElem_cons hlt, e]
  have hb : ∀ c ∈ s.data.toList.take o, c ≠ 10 := fun c hc e => by
    obtain ⟨k, hk, rfl⟩ := List.getElem_of_mem hc
    rw [List.length_take] at hk
    rw [List.getElem_take] at e
    exact h2 k (by omega) (by rw [List.getElem?_eq_getElem (by omega), e])
  have e1 : bs (s.data.toList.take o ++ [10]) = s.extract 0 (o + 1) := by
    have e : s.data.toList[o] = 10 := by rw [List.getElem?_eq_getElem hlt] at h1; exact Option.some.inj h1
    have h3 : s.data.toList.take o ++ [10] = s.data.toList.take (o + 1) := by rw [List.take_succ_eq_append_getElem hlt, e]
    rw [h3]
    apply ByteArray.ext
    apply Array.ext'
    simp [bs, ByteArray.data_extract]
  have e2 : (s.extract (o + 1) s.size).data.toList = s.data.toList.drop (o + 1) := by
    have e : s.data.toList.length = s.size := by simp
    simp only [ByteArray.data_extract, Array.toList_extract]
    rw [← e]
    simp
    exact List.take_of_length_le (by simp)
  have e3 : linesL s.data.toList = (s.data.toList.take o ++ [10]) :: linesL (s.data.toList.drop (o + 1)) := by
    conv => lhs; rw [hs]
    exact linesL_some _ _ hb
  unfold lines
  rw [e3, List.map_cons, e1, e2]
end Go.Proofs.Ythghpmnbnfbheaa.Lines
