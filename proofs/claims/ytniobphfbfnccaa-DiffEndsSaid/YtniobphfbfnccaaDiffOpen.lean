/- Rows that are read; the law's argument of steps, opened as one. -/
import Derived.Test.YtniobphfbfnccaaPRefx0
import Derived.Test.YtniobphfbfnccaaDiffKept
import Derived.Test.YtniobphfbfnccaaOverSteps
import Derived.Deep.Slices
import Derived.Deep.Fields
import Derived.ChangeSame
import Derived.SizedLaws
import Derived.ChangeSlices
import Derived.DataReads
import Derived.OpenShut
import Derived.ChangeOld
import Derived.WideShapes
namespace Go.Proofs.Ytniobphfbfnccaa.SeqS
open Go.ChangeShapes Go.WideShapes Go.RowKit Go.Deep Go.Proofs.Ytniobphfbfnccaa.PRef Go.Proofs.YtniobphfbfnccaaW.PrintWords Go.Proofs.Ytniobphfbfnccaa.SeqM

/-- A row that is read. -/
def CK {α : Type} (d : Kd α) (W : World) (A : Option Addr) (c : Nat) (l : List α) : Prop := d.C W A l.length l ∧ l.length ≤ c
theorem CK.below {α : Type} {d : Kd α} {W W' : World} {A : Option Addr} {c : Nat} {l : List α} (h : CK d W A c l) (hb : Below W.heap.size W W') : CK d W' A c l := ⟨Kd.C_below h.1 hb, h.2⟩
theorem ck_of_R {α : Type} {d : Kd α} {e : Nat} {W : World} {base : Nat} {ok : Nat → Prop} {v : Value} {l : List α} (h : Kd.R d e W base ok v l) : ∃ A c, v = .slice A l.length c ∧ CK d W A c l := by
  obtain ⟨A, c, he, hl, hc⟩ := Kd.R_reads h
  exact ⟨A, c, he, hc, hl⟩
theorem CK.mk' {W : World} {A : Option Addr} {c : Nat} {l : List ByteArray} (h : CellsT W A l) (hl : l.length ≤ 1000000) (hc : l.length ≤ c) : CK Kd.string W A c l := ⟨h.kd hl, hc⟩
theorem Drawn0.below {w w' : World} (h : Drawn0 w w') : Below w.heap.size w w' := by
  obtain ⟨n, rfl⟩ := h.out
  exact ⟨rfl, rfl, rfl, Nat.le_refl _, fun _ _ => rfl⟩

theorem open_steps {H : Type} {enc : TypeId × Value → H} {W : World} {base : Nat} {held : Bool} {a : Option Addr} {len cap : Nat} {d : DataW H} {ps : List MemPlace}
    (h : DataW.Trod enc Try.prog W base (fun _ => true) held 23 (.slice a len cap) d ps) : ∃ l : List S40, len = l.length ∧ CK k40 W a cap l := by
  obtain ⟨fuel, hf⟩ := h
  rcases open_slice Try.underlying23 hf with ⟨hcs, _⟩ | ⟨x, l', c', m, n, D, Pl, hcs, _, hl, hm, hmm, hx, hi⟩
  · simp [Value.cells] at hcs
    obtain ⟨rfl, rfl, rfl⟩ := hcs
    exact ⟨[], rfl, ⟨rfl, by simp, fun h => absurd h (by simp)⟩, by simp⟩
  · simp [Value.cells] at hcs
    obtain ⟨rfl, rfl, rfl⟩ := hcs
    have hC : Try.prog.cellsOf 40 = 3 := by kernel_rfl
    have hC3 : Try.prog.cellsOf 3 = 1 := by kernel_rfl
    have hm' : len ≤ m := by rw [hmm]; simp; omega
    have key : ∀ i, i < len → ∃ y : S40, W.cell? (x.add (i * 3)) = some (.int .i64 y.f0) ∧ W.cell? (x.add (i * 3 + 1)) = some (.int .i64 y.f1) ∧ W.cell? (x.add (i * 3 + 2)) = some (.int .i64 y.f2) := by
      intro i hil
      obtain ⟨cs', hc, ht⟩ := hi i (by omega)
      rw [hC] at hc
      obtain ⟨_, hcl, hat⟩ := World.cells?_some hc
      obtain ⟨xs, n1, _, _, _, hxl, hg⟩ := DataW.trod_struct Try.underlying40 ht
      match cs', hcl with
      | [c0, c1, c2], _ =>
        have f0 := hg 0 _ rfl
        have f1 := hg 1 _ rfl
        have f2 := hg 2 _ rfl
        simp [hC3] at f0 f1 f2
        have y0 : xs[0]? = some (xs[0]'(by rw [hxl]; decide)) := List.getElem?_eq_getElem _
        have y1 : xs[1]? = some (xs[1]'(by rw [hxl]; decide)) := List.getElem?_eq_getElem _
        have y2 : xs[2]? = some (xs[2]'(by rw [hxl]; decide)) := List.getElem?_eq_getElem _
        obtain ⟨r0, hr0, _⟩ := DataW.trod_int Try.underlying3 (f0.trans y0)
        obtain ⟨r1, hr1, _⟩ := DataW.trod_int Try.underlying3 (f1.trans y1)
        obtain ⟨r2, hr2, _⟩ := DataW.trod_int Try.underlying3 (f2.trans y2)
        have a0 := hat 0 (by omega)
        have a1 := hat 1 (by omega)
        have a2 := hat 2 (by omega)
        rw [Go.Deep.add_add] at a0 a1 a2
        cases hr0
        cases hr1
        cases hr2
        exact ⟨⟨r0, r1, r2⟩, by simpa using a0, by simpa using a1, by simpa using a2⟩
    have key2 : ∀ i, ∃ y : S40, i < len → (W.cell? (x.add (i * 3)) = some (.int .i64 y.f0) ∧ W.cell? (x.add (i * 3 + 1)) = some (.int .i64 y.f1) ∧ W.cell? (x.add (i * 3 + 2)) = some (.int .i64 y.f2)) := by
      intro i
      by_cases h : i < len
      · obtain ⟨y, hy⟩ := key i h
        exact ⟨y, fun _ => hy⟩
      · exact ⟨z40, fun h' => absurd h' h⟩
    obtain ⟨f, hf2⟩ := Classical.axiomOfChoice key2
    refine ⟨(List.range len).map f, by simp, ⟨rfl, ?_, fun _ => ⟨x, rfl, fun j p hj => ?_⟩⟩, by simpa using hl⟩
    · have := hm
      unfold maxLen at this
      simp
      omega
    · rw [List.getElem?_map] at hj
      obtain ⟨q, hq, rfl⟩ := Option.map_eq_some_iff.1 hj
      obtain ⟨hjl, rfl⟩ := List.getElem?_eq_some_iff.1 hq
      simp only [List.length_range] at hjl
      obtain ⟨w0, w1, w2⟩ := hf2 j hjl
      refine ⟨_, rfl, k40_mk W (f (List.range len)[j]), fun i u hu => ?_⟩
      rw [List.getElem_range] at hu
      match i, hu with
      | 0, hu => cases hu; exact w0
      | 1, hu => cases hu; exact w1
      | 2, hu => cases hu; exact w2
end Go.Proofs.Ytniobphfbfnccaa.SeqS
