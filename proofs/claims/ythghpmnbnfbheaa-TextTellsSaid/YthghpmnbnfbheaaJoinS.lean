/- line.Join: the texts, one behind the other. -/
import Derived.Test.YthghpmnbnfbheaaLinesP
import Derived.Test.YthghpmnbnfbheaaShelf
import Derived.WalkKit
import Derived.Below
import Derived.Lib.Hide
namespace Go.Proofs.Ythghpmnbnfbheaa.SeqS
open Go.RowKit Go.Shelf Go.Proofs.Ythghpmnbnfbheaa.Lines
set_option linter.unusedVariables false
theorem glue_join (l : List ByteArray) : (⟨(Lib.join (l.map (·.data.toList)) []).toArray⟩ : ByteArray) = glue l := by
  unfold glue
  congr 2
  cases l with
  | nil => rfl
  | cons x r => rw [List.map_cons, Lib.join_cons]; simp [Lib.joinTail, List.flatMap, List.map_map, Function.comp_def]
theorem glue_len (l : List ByteArray) : (l.flatMap (·.data.toList)).length = (l.map ByteArray.size).sum := by
  induction l with
  | nil => rfl
  | cons x r ih => rw [List.flatMap_cons, List.length_append, ih, List.map_cons, List.sum_cons]; simp
set_option maxRecDepth 100000 in
theorem ljoin_calls (A0 : Option Addr) (c0 : Nat) (l : List ByteArray) (w : World) (hc0 : l.length ≤ c0) (hz : 0 < l.length → ∃ ad, A0 = some ad ∧ ∀ j, j < l.length → w.cell? (ad.add j) = some (.string (l.getD j ByteArray.empty))) (h1 : l.length ≤ 1000000) (h2 : (l.map ByteArray.size).sum ≤ 1000000) :
    Calls Try.prog 16 #[.slice A0 l.length c0] w fun e w' => e = .returned (.string (glue l)) ∧ Below w.heap.size w w' := by
  rcases Nat.eq_zero_or_pos l.length with h0 | hp
  · have e : l = [] := List.eq_nil_of_length_eq_zero h0
    subst e
    clear hz h1 h2 hc0 h0
    go_enter Try.func16, Try.ntmps16
    go_wp2_with (go_at_call 30; refine (Try.strings_Join_none A0 c0 ⟨#[]⟩ _).mono ?_; rintro e w1 ⟨rfl, rfl⟩)
    go_ret
    exact ⟨rfl, Below.refl _ _⟩
  · obtain ⟨⟨bk, o, spot⟩, rfl, hc⟩ := hz hp
    have h0 := hc 0 hp
    have hspot : spot = none := by simpa [Addr.add] using World.cell?_spot h0
    subst hspot
    have hbk : bk < w.heap.size := by simpa [Addr.add_lit] using World.block_lt_of_cell? w _ h0
    have hcells : ∀ (j : Nat) x, l[j]? = some x → w.cell? ⟨bk, o + j, none⟩ = some (.string x) := fun j x hx => by
      obtain ⟨hj, rfl⟩ := List.getElem?_eq_some_iff.1 hx
      have := hc j hj
      rw [Addr.add_lit] at this
      simpa [List.getD_eq_getElem?_getD, hj] using this
    have hlen : (Lib.join (l.map (·.data.toList)) (⟨#[]⟩ : ByteArray).data.toList).length ≤ 140737488355328 := by
      have e : (Lib.join (l.map (·.data.toList)) []).length = (l.flatMap (·.data.toList)).length := by
        have := congrArg (fun b : ByteArray => b.data.toList.length) (glue_join l)
        simpa [glue] using this
      show (Lib.join (l.map (·.data.toList)) []).length ≤ _
      rw [e, glue_len]
      omega
    have HJ := Lib.hid (fun w' (hw : w' = w) => Try.strings_Join bk o c0 l ⟨#[]⟩ w hcells hbk (by omega) hc0 hlen)
    clear hcells hlen hc hz h0
    go_enter Try.func16, Try.ntmps16
    go_wp2_with (go_at_call 30; refine (HJ.out w rfl).mono ?_; rintro e w1 ⟨rfl, hb⟩; have HB := Lib.hid hb; clear hb)
    go_ret
    exact ⟨by rw [← glue_join]; rfl, HB.out⟩
end Go.Proofs.Ythghpmnbnfbheaa.SeqS
