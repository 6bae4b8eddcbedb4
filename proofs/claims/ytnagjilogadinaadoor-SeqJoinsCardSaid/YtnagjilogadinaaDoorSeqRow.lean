/- A row of numbers, cell by cell. -/
import Derived.Test.YtnagjilogadinaaDoorSeqFold
import Derived.OwnWalk

namespace Go.Proofs.YtnagjilogadinaaDoor.SeqI
open Go.RowKit Go.Shelf Go.Proofs.YtnagjilogadinaaDoor.SeqM
attribute [local go_sem] Oper.semAt_some
set_option linter.unusedVariables false

theorem setCell_block (w : World) (g o : Nat) (v : Value) (cur : Array Value) (t : TypeId) (z : Nat × Nat) (h : w.heap[g]? = some (.cells cur t z)) :
    (w.setCell ⟨g, o, none⟩ v).heap[g]? = some (.cells (cur.setIfInBounds o v) t z) := by
  obtain ⟨hlt, hk⟩ := Array.getElem?_eq_some_iff.1 h
  show (w.heap.modify g _)[g]? = _
  rw [Array.getElem?_eq_getElem (by rw [Array.size_modify]; exact hlt), Array.getElem_modify_self, hk]
  rfl

/-- A row of the call's own: its cells, n of them zs, and cap places. -/
def Row (W : World) (g n cap : Nat) (zs : List Value) : Prop := ∃ cur : Array Value, W.heap[g]? = some (.cells cur 3 (0, 0)) ∧ cur.size = cap ∧ n ≤ cap ∧ cap ≤ maxLen ∧ cur.toList.take n = zs
theorem row_own {W : World} {base g n cap : Nat} {zs : List Value} (h : Row W g n cap zs) (hz : zs.length = n) (hb : base ≤ g) : W.ownsRow base 3 1 (.slice (some ⟨g, 0, none⟩) n cap) n zs := by
  obtain ⟨cur, h1, h2, h3, h4, h5⟩ := h
  exact ⟨by omega, .inr ⟨g, cap, cur, rfl, hb, h1, h3, h4, by omega, by rw [Nat.mul_one]; exact h5⟩⟩
theorem own_row {W : World} {base g n cap : Nat} {zs : List Value} (h : W.ownsRow base 3 1 (.slice (some ⟨g, 0, none⟩) n cap) n zs) : Row W g n cap zs := by
  rcases h.2 with ⟨e, _⟩ | ⟨g', cap', cur, e, h1, h2, h3, h4, h5, h6⟩
  · cases e
  · cases e
    exact ⟨cur, h2, by omega, h3, h4, by rw [Nat.mul_one] at h6; exact h6⟩

end Go.Proofs.YtnagjilogadinaaDoor.SeqI
