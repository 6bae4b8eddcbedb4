/- A configuration and events as they come in, opened. -/
import Derived.Test.YtipccndoffcfiaaDoorScriptPrint
import Derived.Deep.Slices
import Derived.Deep.Fields
import Derived.ChangeSame
import Derived.SizedLaws
import Derived.ChangeSlices
import Derived.DataReads
import Derived.OpenShut
import Derived.ChangeOld
import Derived.WideShapes
namespace Go.Proofs.YtipccndoffcfiaaDoor.Script
open Go.ChangeShapes Go.WideShapes Go.RowKit Go.Deep Go.Proofs.YtipccndoffcfiaaDoor.PRef Go.Proofs.YtipccndoffcfiaaDoorW.PrintWords Go.Proofs.YtipccndoffcfiaaDoor.SeqM
set_option linter.unusedVariables false
theorem i64_of {n : Int} (h : (Lit.int .i64 n).wf = true) : i64 n := by
  simp [Lit.wf, IntKind.min, IntKind.max, IntKind.signed, IntKind.bits] at h
  exact ⟨by omega, by omega⟩
set_option maxRecDepth 100000 in
theorem open_cfg {H : Type} {enc : TypeId × Value → H} {W : World} {base b0 : Nat} {r : Reach} {held : Bool} {v : Value} {d : DataW H} {ps : List MemPlace}
    (hv : Value.okWide Tryd.prog W r b0 28 v) (h : DataW.Trod enc Tryd.prog W base (fun _ => true) held 28 v d ps) :
    ∃ c0 c1 c2 c3 c4 : Int, v = .agg #[.int .i64 c0, .int .i64 c1, .int .i64 c2, .int .i64 c3, .int .i64 c4] ∧ ∀ n ∈ [c0, c1, c2, c3, c4], i64 n := by
  obtain ⟨cs, rfl, hsz⟩ := okWide_struct Tryd.underlying28 hv
  obtain ⟨fuel, hf⟩ := h
  have hC : Tryd.prog.cellsOf 28 = 5 := by kernel_rfl
  have hC3 : Tryd.prog.cellsOf 3 = 1 := by kernel_rfl
  rw [hC] at hsz
  obtain ⟨xs, n1, _, _, _, hxl, hg⟩ := DataW.trod_struct Tryd.underlying28 hf
  obtain ⟨⟨l⟩, hl⟩ : ∃ l : Array Value, l = cs := ⟨cs, rfl⟩
  subst hl
  match l, hsz with
  | [v0, v1, v2, v3, v4], _ =>
    have f0 := hg 0 _ rfl
    have f1 := hg 1 _ rfl
    have f2 := hg 2 _ rfl
    have f3 := hg 3 _ rfl
    have f4 := hg 4 _ rfl
    simp [hC3, Value.cells] at f0 f1 f2 f3 f4
    have y0 : xs[0]? = some (xs[0]'(by rw [hxl]; decide)) := List.getElem?_eq_getElem _
    have y1 : xs[1]? = some (xs[1]'(by rw [hxl]; decide)) := List.getElem?_eq_getElem _
    have y2 : xs[2]? = some (xs[2]'(by rw [hxl]; decide)) := List.getElem?_eq_getElem _
    have y3 : xs[3]? = some (xs[3]'(by rw [hxl]; decide)) := List.getElem?_eq_getElem _
    have y4 : xs[4]? = some (xs[4]'(by rw [hxl]; decide)) := List.getElem?_eq_getElem _
    obtain ⟨r0, hr0, _, q0⟩ := DataW.trod_int Tryd.underlying3 (f0.trans y0)
    obtain ⟨r1, hr1, _, q1⟩ := DataW.trod_int Tryd.underlying3 (f1.trans y1)
    obtain ⟨r2, hr2, _, q2⟩ := DataW.trod_int Tryd.underlying3 (f2.trans y2)
    obtain ⟨r3, hr3, _, q3⟩ := DataW.trod_int Tryd.underlying3 (f3.trans y3)
    obtain ⟨r4, hr4, _, q4⟩ := DataW.trod_int Tryd.underlying3 (f4.trans y4)
    cases hr0
    cases hr1
    cases hr2
    cases hr3
    cases hr4
    refine ⟨r0, r1, r2, r3, r4, rfl, fun n hn => ?_⟩
    simp only [List.mem_cons, List.not_mem_nil, or_false] at hn
    rcases hn with rfl | rfl | rfl | rfl | rfl
    · exact i64_of q0
    · exact i64_of q1
    · exact i64_of q2
    · exact i64_of q3
    · exact i64_of q4
/-- Events that are read. -/
def EvX (W : World) (A : Option Addr) (c : Nat) (l : List S47) : Prop := Kd.C k47 W A l.length l ∧ l.length ≤ c ∧ ∀ e ∈ l, i64 e.f0 ∧ i64 e.f1
set_option maxRecDepth 100000 in
theorem open_events {H : Type} {enc : TypeId × Value → H} {W : World} {base : Nat} {held : Bool} {a : Option Addr} {len cap : Nat} {d : DataW H} {ps : List MemPlace}
    (h : DataW.Trod enc Tryd.prog W base (fun _ => true) held 29 (.slice a len cap) d ps) : ∃ l : List S47, len = l.length ∧ EvX W a cap l := by
  obtain ⟨fuel, hf⟩ := h
  rcases open_slice Tryd.underlying29 hf with ⟨hcs, _⟩ | ⟨x, l', c', m, n, D, Pl, hcs, _, hl, hm, hmm, hx, hi⟩
  · simp [Value.cells] at hcs
    obtain ⟨rfl, rfl, rfl⟩ := hcs
    exact ⟨[], rfl, ⟨rfl, by simp, fun h => absurd h (by simp)⟩, by simp, by simp⟩
  · simp [Value.cells] at hcs
    obtain ⟨rfl, rfl, rfl⟩ := hcs
    have hC : Tryd.prog.cellsOf 47 = 3 := by kernel_rfl
    have hC3 : Tryd.prog.cellsOf 3 = 1 := by kernel_rfl
    have hC9 : Tryd.prog.cellsOf 9 = 1 := by kernel_rfl
    have hm' : len ≤ m := by rw [hmm]; simp; omega
    have key : ∀ i, i < len → ∃ y : S47, (W.cell? (x.add (i * 3)) = some (.int .i64 y.f0) ∧ W.cell? (x.add (i * 3 + 1)) = some (.int .i64 y.f1) ∧ W.cell? (x.add (i * 3 + 2)) = some (.string y.f2)) ∧ i64 y.f0 ∧ i64 y.f1 := by
      intro i hil
      obtain ⟨cs', hc, ht⟩ := hi i (by omega)
      rw [hC] at hc
      obtain ⟨_, hcl, hat⟩ := World.cells?_some hc
      obtain ⟨xs, n1, _, _, _, hxl, hg⟩ := DataW.trod_struct Tryd.underlying47 ht
      match cs', hcl with
      | [c0, c1, c2], _ =>
        have f0 := hg 0 _ rfl
        have f1 := hg 1 _ rfl
        have f2 := hg 2 _ rfl
        simp [hC3, hC9] at f0 f1 f2
        have y0 : xs[0]? = some (xs[0]'(by rw [hxl]; decide)) := List.getElem?_eq_getElem _
        have y1 : xs[1]? = some (xs[1]'(by rw [hxl]; decide)) := List.getElem?_eq_getElem _
        have y2 : xs[2]? = some (xs[2]'(by rw [hxl]; decide)) := List.getElem?_eq_getElem _
        obtain ⟨r0, hr0, _, q0⟩ := DataW.trod_int Tryd.underlying3 (f0.trans y0)
        obtain ⟨r1, hr1, _, q1⟩ := DataW.trod_int Tryd.underlying3 (f1.trans y1)
        obtain ⟨r2, hr2, _⟩ := DataW.trod_string Tryd.underlying9 (f2.trans y2)
        have a0 := hat 0 (by omega)
        have a1 := hat 1 (by omega)
        have a2 := hat 2 (by omega)
        rw [Go.Deep.add_add] at a0 a1 a2
        cases hr0
        cases hr1
        cases hr2
        exact ⟨⟨r0, r1, r2⟩, ⟨by simpa using a0, by simpa using a1, by simpa using a2⟩, i64_of q0, i64_of q1⟩
    have key2 : ∀ i, ∃ y : S47, i < len → ((W.cell? (x.add (i * 3)) = some (.int .i64 y.f0) ∧ W.cell? (x.add (i * 3 + 1)) = some (.int .i64 y.f1) ∧ W.cell? (x.add (i * 3 + 2)) = some (.string y.f2)) ∧ i64 y.f0 ∧ i64 y.f1) := by
      intro i
      by_cases h : i < len
      · obtain ⟨y, hy⟩ := key i h
        exact ⟨y, fun _ => hy⟩
      · exact ⟨⟨0, 0, ⟨#[]⟩⟩, fun h' => absurd h' h⟩
    obtain ⟨f, hf2⟩ := Classical.axiomOfChoice key2
    refine ⟨(List.range len).map f, by simp, ⟨rfl, ?_, fun _ => ⟨x, rfl, fun j p hj => ?_⟩⟩, by simpa using hl, fun e he => ?_⟩
    · have := hm
      unfold maxLen at this
      simp
      omega
    · rw [List.getElem?_map] at hj
      obtain ⟨q, hq, rfl⟩ := Option.map_eq_some_iff.1 hj
      obtain ⟨hjl, rfl⟩ := List.getElem?_eq_some_iff.1 hq
      simp only [List.length_range] at hjl
      obtain ⟨⟨w0, w1, w2⟩, _⟩ := hf2 j hjl
      refine ⟨_, rfl, k47_mk W (f (List.range len)[j]), fun i u hu => ?_⟩
      rw [List.getElem_range] at hu
      match i, hu with
      | 0, hu => cases hu; exact w0
      | 1, hu => cases hu; exact w1
      | 2, hu => cases hu; exact w2
    · obtain ⟨q, hq, rfl⟩ := List.mem_map.1 he
      exact (hf2 q (List.mem_range.1 hq)).2
end Go.Proofs.YtipccndoffcfiaaDoor.Script
