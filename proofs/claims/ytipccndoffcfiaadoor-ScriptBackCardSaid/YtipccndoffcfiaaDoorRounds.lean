/- Functions with rounds: what they come to at last. -/
import Derived.Test.YtipccndoffcfiaaDoorWWords
import Derived.IntWalk
namespace Go.Proofs.YtipccndoffcfiaaDoor.Rounds
open Go.RowKit Go.IntWalk Go.Proofs.YtipccndoffcfiaaDoorW.PrintWords
def To {α : Type} (g h : Nat → Option α) : Prop := ∃ K M, ∀ k, M ≤ k → g (k + K) = h k
theorem To.refl {α : Type} (g : Nat → Option α) : To g g := ⟨0, 0, fun _ _ => rfl⟩
theorem To.trans {α : Type} {g h p : Nat → Option α} (a : To g h) (b : To h p) : To g p := by
  obtain ⟨K, M, a⟩ := a
  obtain ⟨K', M', b⟩ := b
  refine ⟨K + K', M + M', fun k hk => ?_⟩
  rw [show k + (K + K') = (k + K') + K from by omega, a _ (by omega), b _ (by omega)]
theorem To.step {α : Type} {g h : Nat → Option α} (a : ∀ k, g (k + 1) = h k) : To g h := ⟨1, 0, fun k _ => a k⟩
theorem To.eq {α : Type} {g h : Nat → Option α} (a : ∀ k, g k = h k) : To g h := ⟨0, 0, fun k _ => a k⟩
theorem To.step_trans {α : Type} {g h p : Nat → Option α} (a : ∀ k, g (k + 1) = h k) (b : To h p) : To g p := (To.step a).trans b
/-- What tells at last is a result. -/
def At {α : Type} (g : Nat → Option α) (r : α) : Prop := To g (fun _ => some r)
theorem At.rounds {α : Type} {g : Nat → Option α} {r : α} (h : At g r) : ∃ k, g k = some r := by
  obtain ⟨K, M, h⟩ := h
  exact ⟨M + K, h M (Nat.le_refl _)⟩
theorem At.late {α : Type} {g : Nat → Option α} {r : α} (h : At g r) : ∃ M, ∀ k, M ≤ k → g k = some r := by
  obtain ⟨K, M, h⟩ := h
  refine ⟨M + K, fun k hk => ?_⟩
  have := h (k - K) (by omega)
  rwa [show k - K + K = k from by omega] at this
theorem At.of_late {α : Type} {g : Nat → Option α} {r : α} (M : Nat) (h : ∀ k, M ≤ k → g k = some r) : At g r := ⟨0, M, h⟩
theorem At.now {α : Type} (r : α) : At (fun _ => some r) r := To.refl _
/-- A call that tells a is passed. -/
theorem At.bind {α γ : Type} {g : Nat → Option α} {a : α} (h : At g a) (F : Nat → α → Option γ) : To (fun k => (g k).bind (F k)) (fun k => F k a) := by
  obtain ⟨M, h⟩ := h.late
  exact ⟨0, M, fun k hk => by simp [h k hk]⟩
theorem At.bind_at {α γ : Type} {g : Nat → Option α} {a : α} (h : At g a) {F : Nat → α → Option γ} {r : γ} (k : At (fun k => F k a) r) : At (fun k => (g k).bind (F k)) r := (h.bind F).trans k


theorem w1 {i : Nat} (h : i ≤ 1000000) : wrap64 ((i : Int) + 1) = ((i + 1 : Nat) : Int) := by rw [wrap64_in _ (by omega)]; omega
theorem bytes_ext {a b : ByteArray} (h : a.toList = b.toList) : a = b := by
  rw [ByteArray.toList_eq, ByteArray.toList_eq] at h
  exact ByteArray.ext (Array.ext' h)
theorem bytes_iff {a b : ByteArray} : a.toList = b.toList ↔ a = b := ⟨bytes_ext, fun h => by rw [h]⟩
theorem rdOf_at (l : List ByteArray) (i : Nat) (h : i < l.length) : rdOf ByteArray.empty l (i : Int) = l[i] := by simp [rdOf, List.getD_eq_getElem?_getD, h]
end Go.Proofs.YtipccndoffcfiaaDoor.Rounds
