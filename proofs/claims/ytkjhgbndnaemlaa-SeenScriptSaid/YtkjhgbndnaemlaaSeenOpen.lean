/- The law's argument of acts, opened as plain cells: four whole numbers an act. -/
import Derived.Test.YtkjhgbndnaemlaaSeenRef
import Derived.Deep.Slices
import Derived.Deep.Fields
import Derived.ChangeSame
import Derived.SizedLaws
import Derived.ChangeSlices
import Derived.DataReads
import Derived.OpenShut
import Derived.ChangeOld
import Derived.WideShapes
namespace Go.Proofs.Ytkjhgbndnaemlaa.SeenR
open Go.ChangeShapes Go.WideShapes Go.RowKit Go.Deep
theorem open_acts {H : Type} {enc : TypeId × Value → H} {W : World} {base : Nat} {held : Bool} {a : Option Addr} {len cap : Nat} {d : DataW H} {ps : List MemPlace}
    (h : DataW.Trod enc Try.prog W base (fun _ => true) held 22 (.slice a len cap) d ps) : ∃ l : List (Int × V), len = l.length ∧ CellsR W a l := by
  obtain ⟨fuel, hf⟩ := h
  rcases open_slice Try.underlying22 hf with ⟨hcs, _⟩ | ⟨x, l', c', m, n, D, Pl, hcs, _, hl, hm, hmm, hx, hi⟩
  · simp [Value.cells] at hcs
    obtain ⟨rfl, rfl, rfl⟩ := hcs
    exact ⟨[], rfl, .inl rfl⟩
  · simp [Value.cells] at hcs
    obtain ⟨rfl, rfl, rfl⟩ := hcs
    have hC : Try.prog.cellsOf 33 = 4 := by kernel_rfl
    have hC3 : Try.prog.cellsOf 3 = 1 := by kernel_rfl
    have hC27 : Try.prog.cellsOf 27 = 3 := by kernel_rfl
    have hm' : len ≤ m := by rw [hmm]; simp; omega
    have key : ∀ i, i < len → ∃ y : Int × V, W.cell? (x.add (i * 4)) = some (.int .i64 y.1) ∧ W.cell? (x.add (i * 4 + 1)) = some (.int .i64 y.2.1) ∧ W.cell? (x.add (i * 4 + 2)) = some (.int .i64 y.2.2.1) ∧ W.cell? (x.add (i * 4 + 3)) = some (.int .i64 y.2.2.2) := by
      intro i hil
      obtain ⟨cs', hc, ht⟩ := hi i (by omega)
      rw [hC] at hc
      obtain ⟨_, hcl, hat⟩ := World.cells?_some hc
      obtain ⟨xs, n1, _, _, _, hxl, hg⟩ := DataW.trod_struct Try.underlying33 ht
      match cs', hcl with
      | [c0, c1, c2, c3], _ =>
        have g0 := hg 0 _ rfl
        have g1 := hg 1 _ rfl
        simp [hC3] at g0
        simp [hC27] at g1
        have x0 : xs[0]? = some (xs[0]'(by rw [hxl]; decide)) := List.getElem?_eq_getElem _
        have x1 : xs[1]? = some (xs[1]'(by rw [hxl]; decide)) := List.getElem?_eq_getElem _
        obtain ⟨k, hk, _⟩ := DataW.trod_int Try.underlying3 (g0.trans x0)
        obtain ⟨ys, n2, _, _, _, hyl, hh⟩ := DataW.trod_struct Try.underlying27 (g1.trans x1)
        have f0 := hh 0 _ rfl
        have f1 := hh 1 _ rfl
        have f2 := hh 2 _ rfl
        simp [hC3] at f0 f1 f2
        have y0 : ys[0]? = some (ys[0]'(by rw [hyl]; decide)) := List.getElem?_eq_getElem _
        have y1 : ys[1]? = some (ys[1]'(by rw [hyl]; decide)) := List.getElem?_eq_getElem _
        have y2 : ys[2]? = some (ys[2]'(by rw [hyl]; decide)) := List.getElem?_eq_getElem _
        obtain ⟨r0, hr0, _⟩ := DataW.trod_int Try.underlying3 (f0.trans y0)
        obtain ⟨r1, hr1, _⟩ := DataW.trod_int Try.underlying3 (f1.trans y1)
        obtain ⟨r2, hr2, _⟩ := DataW.trod_int Try.underlying3 (f2.trans y2)
        have a0 := hat 0 (by omega)
        have a1 := hat 1 (by omega)
        have a2 := hat 2 (by omega)
        have a3 := hat 3 (by omega)
        rw [Go.Deep.add_add] at a0 a1 a2 a3
        cases hk
        cases hr0
        cases hr1
        cases hr2
        exact ⟨(k, r0, r1, r2), by simpa using a0, by simpa using a1, by simpa using a2, by simpa using a3⟩
    have key2 : ∀ i, ∃ y : Int × V, i < len → (W.cell? (x.add (i * 4)) = some (.int .i64 y.1) ∧ W.cell? (x.add (i * 4 + 1)) = some (.int .i64 y.2.1) ∧ W.cell? (x.add (i * 4 + 2)) = some (.int .i64 y.2.2.1) ∧ W.cell? (x.add (i * 4 + 3)) = some (.int .i64 y.2.2.2)) := by
      intro i
      by_cases h : i < len
      · obtain ⟨y, hy⟩ := key i h
        exact ⟨y, fun _ => hy⟩
      · exact ⟨(0, 0, 0, 0), fun h' => absurd h' h⟩
    obtain ⟨f, hf2⟩ := Classical.axiomOfChoice key2
    refine ⟨(List.range len).map f, by simp, ?_⟩
    rcases Nat.eq_zero_or_pos len with h0 | hp
    · left
      subst h0
      rfl
    · right
      obtain ⟨b, off, spot⟩ := x
      have h0 := (hf2 0 hp).1
      have hspot : spot = none := by simpa [Addr.add] using World.cell?_spot h0
      subst hspot
      refine ⟨b, off, rfl, by simpa [Addr.add_lit] using World.block_lt_of_cell? W _ h0, fun j u hu => ?_⟩
      have hj : j < len * 4 := by
        have := (List.getElem?_eq_some_iff.1 hu).1
        rw [flat_length] at this
        simpa using this
      have hi4 : j / 4 < len := by omega
      obtain ⟨q0, q1, q2, q3⟩ := flat_get ((List.range len).map f) (j / 4) (by simpa using hi4)
      obtain ⟨w0, w1, w2, w3⟩ := hf2 (j / 4) hi4
      simp only [Addr.add_lit] at w0 w1 w2 w3
      simp only [List.getElem_map, List.getElem_range] at q0 q1 q2 q3
      have hr : j % 4 = 0 ∨ j % 4 = 1 ∨ j % 4 = 2 ∨ j % 4 = 3 := by omega
      rcases hr with hr | hr | hr | hr
      · have e : j / 4 * 4 = j := by omega
        rw [e] at q0 w0; rw [q0] at hu; cases hu; exact w0
      · have e : j / 4 * 4 + 1 = j := by omega
        rw [e] at q1 w1; rw [q1] at hu; cases hu; exact w1
      · have e : j / 4 * 4 + 1 + 1 = j := by omega
        have e' : j / 4 * 4 + 2 = j := by omega
        rw [e] at q2; rw [e'] at w2; rw [q2] at hu; cases hu; exact w2
      · have e : j / 4 * 4 + 1 + 1 + 1 = j := by omega
        have e' : j / 4 * 4 + 3 = j := by omega
        rw [e] at q3; rw [e'] at w3; rw [q3] at hu; cases hu; exact w3
end Go.Proofs.Ytkjhgbndnaemlaa.SeenR
