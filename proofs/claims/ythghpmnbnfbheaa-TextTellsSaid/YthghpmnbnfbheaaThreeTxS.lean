/-
  What the statements on three share: Merge and Parts of lists that are read, comparing lists, what is great.
-/
import Derived.Test.YthghpmnbnfbheaaThreeAllString
namespace Go.Proofs.Ythghpmnbnfbheaa.SeqS
open Go.RowKit Go.Proofs.Ythghpmnbnfbheaa.PRef Go.Proofs.YthghpmnbnfbheaaW.PrintWords Go.Proofs.Ythghpmnbnfbheaa.Lcs
attribute [local go_sem] Oper.semAt_some
set_option linter.unusedVariables false
set_option linter.unusedSimpArgs false

/-- Texts that are read: the address, the capacity. -/
def TX (W : World) (A : Option Addr) (c : Nat) (l : List ByteArray) : Prop := Kd.C Kd.string W A l.length l ∧ l.length ≤ c
theorem TX.below {W W' : World} {A : Option Addr} {c : Nat} {l : List ByteArray} (h : TX W A c l) (hb : Below W.heap.size W W') : TX W' A c l := ⟨Kd.C_below h.1 hb, h.2⟩
theorem tx_of_R {e : Nat} {W : World} {base : Nat} {ok : Nat → Prop} {v : Value} {l : List ByteArray} (h : Kd.R Kd.string e W base ok v l) : ∃ A c, v = .slice A l.length c ∧ TX W A c l := by
  obtain ⟨A, c, rfl⟩ := Kd.R_slice h
  exact ⟨A, c, rfl, (Kd.R_reads' h).2.2, (Kd.R_reads' h).2.1⟩
def OwnV (e s : Nat) (W : World) (n₀ : Nat) (v : Value) (n : Nat) : Prop := ∃ xs, W.ownsRow n₀ e s v n xs
theorem OwnV.below {e s : Nat} {W W' : World} {n₀ : Nat} {v : Value} {n : Nat} (h : OwnV e s W n₀ v n) (hb : Below W.heap.size W W') : OwnV e s W' n₀ v n := by
  obtain ⟨xs, h⟩ := h
  exact ⟨xs, h.kept ⟨hb.os, hb.tape, hb.output, hb.size, fun k hk _ => hb.block k hk⟩ (row := none) (by cases hv : v.ownBlock <;> simp)⟩
/-- three.Merge of texts. -/
def MergeS (m : Option (List ByteArray)) (w : World) (e : Ending) (w' : World) : Prop := ∃ A c, e = .returned (.tuple #[.slice A (m.getD []).length c, .bool m.isSome]) ∧ TX w' A c (m.getD []) ∧ OwnV 9 1 w' w.heap.size (.slice A (m.getD []).length c) (m.getD []).length ∧ Below w.heap.size w w'
theorem merge_tx (A0 : Option Addr) (c0 : Nat) (l0 : List ByteArray) (A1 : Option Addr) (c1 : Nat) (l1 : List ByteArray) (A2 : Option Addr) (c2 : Nat) (l2 : List ByteArray) (w : World)
    (h0 : TX w A0 c0 l0) (h1 : TX w A1 c1 l1) (h2 : TX w A2 c2 l2) (k0 : l0.length ≤ 400) (k1 : l1.length ≤ 400) (k2 : l2.length ≤ 400) :
    Calls Try.prog 14 #[.slice A0 l0.length c0, .slice A1 l1.length c1, .slice A2 l2.length c2] w (MergeS (Three.merge l0 l1 l2) w) := by
  obtain ⟨k, hk⟩ := ThreeString.standing_ev l0 l1 l2 k0 k1 k2
  refine (ThreeString.merge_calls k A0 c0 l0 A1 c1 l1 A2 c2 l2 w h0.1 h0.2 h1.1 h1.2 h2.1 h2.2 k0 k1 k2 hk).mono ?_
  rintro e w' ⟨v, rfl, hR, hB⟩
  obtain ⟨A, c, rfl, hT⟩ := tx_of_R hR
  exact ⟨A, c, rfl, hT, Kd.R_own hR, hB⟩
theorem parts_tx (A0 : Option Addr) (c0 : Nat) (l0 : List ByteArray) (A1 : Option Addr) (c1 : Nat) (l1 : List ByteArray) (A2 : Option Addr) (c2 : Nat) (l2 : List ByteArray) (w : World)
    (h0 : TX w A0 c0 l0) (h1 : TX w A1 c1 l1) (h2 : TX w A2 c2 l2) (k0 : l0.length ≤ 400) (k1 : l1.length ≤ 400) (k2 : l2.length ≤ 400) :
    Calls Try.prog 21 #[.slice A0 l0.length c0, .slice A1 l1.length c1, .slice A2 l2.length c2] w (ThreeString.PartsPost l0 l1 l2 w) := by
  obtain ⟨k, hk⟩ := ThreeString.standing_ev l0 l1 l2 k0 k1 k2
  exact ThreeString.parts_calls k A0 c0 l0 A1 c1 l1 A2 c2 l2 w h0.1 h0.2 h1.1 h1.2 h2.1 h2.2 k0 k1 k2 _ rfl hk
theorem merged_len {o a b : List ByteArray} : ∀ (P : List (Three.Pc ByteArray)) (r : List ByteArray), Three.merged P = some r → r.length ≤ ((P.map (·.a)).flatten).length + ((P.map (·.b)).flatten).length := by
  intro P
  induction P with
  | nil => intro r h; simp only [Three.merged, Option.some.injEq] at h; subst h; simp
  | cons x P ih =>
    intro r h
    rw [Three.merged] at h
    split at h
    · cases h
    · obtain ⟨q, hq, rfl⟩ := Option.map_eq_some_iff.1 h
      have := ih q hq
      have hc : (Three.chosen x.o x.a x.b).length ≤ x.a.length + x.b.length := by unfold Three.chosen; split <;> omega
      simp only [List.map_cons, List.flatten_cons, List.length_append]
      omega
theorem merge_len {o a b r : List ByteArray} (h : Three.merge o a b = some r) (l1 : a.length ≤ 400) (l2 : b.length ≤ 400) : r.length ≤ 1000000 := by
  have := merged_len (o := o) (a := a) (b := b) _ _ h
  obtain ⟨_, h1, h2, _⟩ := Three.parts_whole o a b
  rw [h1, h2] at this
  omega
end Go.Proofs.Ythghpmnbnfbheaa.SeqS
