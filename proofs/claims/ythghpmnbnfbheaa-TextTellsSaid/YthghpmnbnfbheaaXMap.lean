/-
  A map from whole numbers to whole numbers as the printed texts' neighbours want it: what is found under a key.
-/
import Derived.Maps.Views
import Derived.Maps.OwnSet
import Derived.Maps.OwnOps
import Derived.Test.YthghpmnbnfbheaaWWords
namespace Go.Proofs.Ythghpmnbnfbheaa.XMap
open Go.RowKit Go.Maps

/-- The map holds just what m tells. -/
def MapIs {H : Type} (D : DataW H) (m : Int → Option Int) : Prop :=
  IsMap D ∧ ∀ x : Int, (∀ y, m x = some y → has D (.int .i64 x) = true ∧ ∀ z, D.atKey (.int .i64 x) z = .lit (.int .i64 y)) ∧ (m x = none → has D (.int .i64 x) = false)
theorem MapIs.nil {H : Type} : MapIs (.map [] : DataW H) (fun _ => none) := ⟨isMap_empty, fun x => ⟨fun y h => (by cases h), fun _ => rfl⟩⟩
theorem isMap_put {H : Type} {D : DataW H} (h : IsMap D) (k : Lit) (d : DataW H) : IsMap (D.put k d) := by
  obtain ⟨es, rfl⟩ := h
  exact ⟨_, rfl⟩
theorem MapIs.put {H : Type} {D : DataW H} {m : Int → Option Int} (h : MapIs D m) (x y : Int) : MapIs (D.put (.int .i64 x) (.lit (.int .i64 y))) (fun u => if u = x then some y else m u) := by
  refine ⟨isMap_put h.1 _ _, fun u => ?_⟩
  dsimp only
  by_cases e : u = x
  · subst e
    refine ⟨fun v hv => ?_, fun hv => by rw [if_pos rfl] at hv; cases hv⟩
    rw [if_pos rfl] at hv
    cases hv
    exact ⟨has_put_same (k := .int .i64 u) h.1 trivial _, fun z => atKey_put_same (k := .int .i64 u) h.1 trivial _ z⟩
  · have hne : (Lit.int .i64 u) ≠ Lit.int .i64 x := fun hh => e (by injection hh)
    rw [if_neg e, has_put_other hne]
    refine ⟨fun v hv => ?_, (h.2 u).2⟩
    obtain ⟨h1, h2⟩ := (h.2 u).1 v hv
    exact ⟨h1, fun z => by rw [atKey_put_other hne]; exact h2 z⟩
/-- The last of pairs with the key. -/
def lastOf (ps : List (Int × Int)) (x : Int) : Option Int := ps.foldl (fun m p => if x = p.1 then some p.2 else m) none
theorem lastOf_snoc (ps : List (Int × Int)) (p : Int × Int) (x : Int) : lastOf (ps ++ [p]) x = if x = p.1 then some p.2 else lastOf ps x := by
  simp [lastOf]
end Go.Proofs.Ythghpmnbnfbheaa.XMap
