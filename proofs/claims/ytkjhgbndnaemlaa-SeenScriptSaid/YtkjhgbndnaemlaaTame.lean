/- A region whose operations call no Go function, inside any fence: as outside of it. -/
import Derived.OrdersHeld
import Derived.OrdersIn
import Derived.OwnWalkIn
import Derived.WalkKit
namespace Go.Proofs.Ytkjhgbndnaemlaa.Tame
open Go

def tame : Op → Bool
  | .move _ | .assign _ | .pick _ _ _ | .load _ _ | .store _ _ _ | .fieldAddr _ _ _ | .field _ _ _ | .indexAddr _ _ _ | .index _ _ _ | .binOp _ _ _ _ _ | .nilCheck _ | .alloc _ | .extract _ _ | .convert _ _ _ | .unOp _ _ _ | .box _ _ | .build _ _ => true
  | .call c => match c.callee with | .builtin .len | .builtin .cap | .builtin .append | .builtin .min | .builtin .max => true | _ => false
  | _ => false

def calm : Result Next → Prop
  | .ok (.value _) _ => True
  | .ok .skip _ => True
  | .ok _ _ => False
  | .halt _ _ => True

theorem calm_v {P : Program} (s : Sem Value) (w : World) : calm (Sem.run P (do pure (.value (← s))) w) := by
  simp only [Sem.run_bind]
  cases Sem.run P s w <;> simp [Result.andThen, calm]
theorem calm_then (r : Result Value) : calm (r.andThen fun a w' => Result.ok (Next.value a) w') := by cases r <;> simp [Result.andThen, calm]
theorem calm_u {P : Program} (s : Sem Unit) (w : World) : calm (Sem.run P (do s; pure .skip) w) := by
  simp only [Sem.run_bind]
  cases Sem.run P s w <;> simp [Result.andThen, calm]

theorem calm_bind {α : Type} {P : Program} (s : Sem α) (f : α → Sem Next) (w : World) (h : ∀ x w, calm (Sem.run P (f x) w)) : calm (Sem.run P (s >>= f) w) := by
  simp only [Sem.run_bind]
  cases Sem.run P s w with
  | ok x w' => exact h x w'
  | halt x w' => simp [Result.andThen, calm]
theorem calm_pure {P : Program} (v : Value) (w : World) : calm (Sem.run P (pure (.value v)) w) := by simp [calm]
theorem calm_panic {P : Program} (w : World) : calm (Sem.run P (runtimePanic .nilDeref) w) := by
  simp [runtimePanic, goPanic, calm, go_sem]

theorem calm_of {P : Program} (ρ : Operand → Value) (o : Oper) (h : tame o.op = true) (w : World) : calm ((execOp ρ o).run P w) := by
  unfold execOp
  cases ho : o.op with
  | move _ => simp [calm]
  | assign _ => simp [calm]
  | pick c a b => exact calm_bind _ _ _ fun _ _ => calm_pure _ _
  | load _ _ => exact calm_v _ _
  | store _ _ _ => exact calm_u _ _
  | fieldAddr _ _ _ => exact calm_v _ _
  | field _ _ _ => exact calm_v _ _
  | indexAddr _ _ _ => exact calm_v _ _
  | index _ _ _ => exact calm_v _ _
  | binOp _ _ _ _ _ => exact calm_v _ _
  | alloc _ => exact calm_v _ _
  | extract _ _ => exact calm_v _ _
  | convert _ _ _ => exact calm_v _ _
  | unOp _ _ _ => exact calm_v _ _
  | box _ _ => exact calm_v _ _
  | build _ _ => exact calm_v _ _
  | nilCheck x =>
    dsimp only
    split
    · exact calm_panic _
    · exact calm_panic _
    · exact calm_panic _
    · split
      · exact calm_panic _
      · refine calm_bind _ _ _ fun _ _ => calm_bind _ _ _ fun _ _ => ?_
        split
        · simp [unsupported, calm, go_sem]
        · exact calm_pure _ _
      · exact calm_pure _ _
    · exact calm_pure _ _
  | call c =>
    obtain ⟨callee, args, ats⟩ := c
    rw [ho] at h
    cases callee with
    | builtin b =>
      cases b <;> simp [tame] at h <;> (simp only [resolve, invoke, builtin, Sem.run_bind, Sem.run_pure, Result.andThen_ok]; exact calm_then _)
    | _ => simp [tame] at h
  | _ => rw [ho] at h; simp [tame] at h

theorem tame_about {P : Program} (ρ : Operand → Value) (o : Oper) (h : tame o.op = true) (w : World) : o.about P w ρ = none := by
  unfold Oper.about
  cases ho : o.op with
  | call c =>
    obtain ⟨callee, args, ats⟩ := c
    rw [ho] at h
    cases callee with
    | builtin b => simp [resolve, Target.leads]
    | _ => simp [tame] at h
  | _ => rfl
theorem tame_wpIn {F : Fence} {n : Nat} {P : Program} {o : Oper} {a : Act} {w : World} {K : Act → World → Prop} {Q : Exit → Act → World → Prop} (ht : tame o.op = true) (h : o.wp P a w K Q) : o.wpIn F n P a w K Q := by
  refine ⟨fun f hf => (by rw [tame_about a.eval o ht w] at hf; cases hf), ?_⟩
  rw [Oper.semAt_plain F _ _ (by intro c hc; rw [hc] at ht; simp [tame] at ht)]
  have hc := calm_of (P := P) a.eval o ht w
  unfold Oper.wp at h
  generalize (execOp a.eval o).run P w = r at h hc
  cases r with
  | ok x w' => cases x <;> first | exact h | exact hc.elim
  | halt x w' => cases x <;> exact h

section
variable {F : Fence} {n : Nat} {P : Program} {ops : Array Oper} {Q : Exit → Act → World → Prop} {md : Region.Mode}
theorem tame_any (ht : ops.toList.all (fun o => tame o.op) = true) (hQ : ¬ LetsOut Q) : ∀ (fuel : Nat) (listed : Array Bool) (a : Act) (w : World), wpAny P md ops Q fuel listed a w → wpAnyIn F n P md ops Q fuel listed a w
  | 0, _, _, _, h => h
  | fuel + 1, listed, a, w, h => by
    refine ⟨h.1, fun i hi => ?_⟩
    have h2 := h.2 i hi
    unfold wpOp at h2
    unfold wpOpIn
    cases ho : ops[i]? with
    | none => rw [ho] at h2; exact tame_any ht hQ fuel _ a w h2
    | some o =>
      have hto : tame o.op = true := by
        rw [List.all_eq_true] at ht
        exact ht o (by obtain ⟨hl, e⟩ := Array.getElem?_eq_some_iff.1 ho; rw [← e]; simp)
      rw [ho] at h2
      dsimp only at h2 ⊢
      split
      · rename_i hw
        rw [if_pos hw] at h2
        exact Oper.wpIn_mono (fun a w h => tame_any ht hQ fuel _ a w h) (tame_wpIn hto (h2.resolve_right fun h => hQ h.2))
      · rename_i hw
        rw [if_neg hw] at h2
        exact ⟨fun f hf => (by rw [tame_about a.eval o hto w] at hf; cases hf), tame_any ht hQ fuel _ _ w h2⟩
theorem wpIn_region_tame {id : Nat} {a : Act} {w : World} {S : World → Prop} (hm : P.follows .mixedOrders = true) (ht : ops.toList.all (fun o => tame o.op) = true) (hQ : ¬ LetsOut Q) (hS : S w.drew)
    (h : S w.drew → wpAnyH P .any ops Q S ops.size (Array.replicate ops.size false) a w.drew) : (Code.region id ops true).wpIn F n P Q a w :=
  wpIn_region_any hm (tame_any ht hQ _ _ _ _ (wpAny_of_held _ _ _ _ (h hS)))
end
end Go.Proofs.Ytkjhgbndnaemlaa.Tame
