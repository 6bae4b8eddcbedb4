/-
  Of lists that are too long nothing is told; of the longest it is: the statement without Go. No condition.
-/
import Derived.Test.YtniobphfbfnccaaDiffCommon
import Derived.Test.YtniobphfbfnccaaApplyInt
import Derived.Test.YtniobphfbfnccaaPAllx16
namespace Go.Proofs.Ytniobphfbfnccaa.Pure
open Go.RowKit Go.IntWalk Go.Proofs.Ytniobphfbfnccaa.PAll Go.Proofs.YtniobphfbfnccaaW.PrintWords Go.Proofs.YtniobphfbfnccaaW.PrintLast Go.Proofs.YtniobphfbfnccaaW.PrintMore Go.Proofs.Ytniobphfbfnccaa.Lcs

theorem eat_self (A : List Int) : ∀ (n i : Nat) (out : List Int), i + n = A.length → ∃ out1, Runint.eat A A n i i out = some out1
  | 0, i, out, h => ⟨out, by simp [Runint.eat]⟩
  | n + 1, i, out, h => by
    rw [Runint.eat, dif_pos ⟨by omega, by omega⟩, if_pos rfl]
    exact eat_self A n (i + 1) _ (by omega)

theorem DiffGreat : cortegelaw4_DiffGreat.Pure := by
  intro a0 _
  obtain ⟨r, hr, hlow⟩ := DiffCommon.low a0 11 (by omega) (by omega)
  refine At.rounds (g := fun k => cortegelaw4_DiffGreat.f k a0) ?_
  obtain ⟨n, hn⟩ : ∃ n, n = 395 + r := ⟨_, rfl⟩
  have hw : wrap64 (395 + (r : Int)) = (n : Int) := by rw [wrap64_in _ (by omega)]; omega
  have hrep : (List.replicate n (0 : Int)).length = n := by simp
  have head : ∀ k, cortegelaw4_DiffGreat.f k a0 = ((diff_Length_int.f k (List.replicate n 0) (([0] : List Int))).bind fun t354 => ((diff_Apply_int.f k (List.replicate n 0) (List.replicate n 0) (([(⟨(n : Int), 0, 0⟩ : S40)] : List (S40)))).bind fun bt358 => (if (n : Int) > 400 then (if t354 = 0 then (if bt358.2 = true then (some false) else ((diff_Pairs_int.f k (List.replicate n 0) (([0] : List Int))).bind fun t365 => (if (t365.length : Int) = 0 then ((diff_Steps_int.f k (List.replicate n 0) (([0] : List Int))).bind fun t371 => (if (t371.length : Int) = 0 then ((cortegelaw4_awake.f k).bind fun t374 => (some t374)) else (some false))) else (some false)))) else (some false)) else (if t354 = 1 then (if bt358.2 = true then ((cortegelaw4_awake.f k).bind fun t375 => (some t375)) else (some false)) else (some false))))) := by
    intro k
    unfold cortegelaw4_DiffGreat.f
    rw [show ((11 : Int)) = ((11 : Nat) : Int) from rfl, hlow, Option.bind_some, hw, if_pos (by omega), Int.toNat_natCast, if_pos (by omega), Option.bind_some]
  refine (To.eq head).trans ?_
  by_cases hbig : 400 < n
  · have c1 : 400 < (List.replicate n (0 : Int)).length ∨ 400 < ([0] : List Int).length := .inl (by omega)
    have c2 : 400 < (List.replicate n (0 : Int)).length ∨ 400 < (List.replicate n (0 : Int)).length := .inl (by omega)
    have body : ∀ k, ((diff_Length_int.f k (List.replicate n 0) (([0] : List Int))).bind fun t354 => ((diff_Apply_int.f k (List.replicate n 0) (List.replicate n 0) (([(⟨(n : Int), 0, 0⟩ : S40)] : List (S40)))).bind fun bt358 => (if (n : Int) > 400 then (if t354 = 0 then (if bt358.2 = true then (some false) else ((diff_Pairs_int.f k (List.replicate n 0) (([0] : List Int))).bind fun t365 => (if (t365.length : Int) = 0 then ((diff_Steps_int.f k (List.replicate n 0) (([0] : List Int))).bind fun t371 => (if (t371.length : Int) = 0 then ((cortegelaw4_awake.f k).bind fun t374 => (some t374)) else (some false))) else (some false)))) else (some false)) else (if t354 = 1 then (if bt358.2 = true then ((cortegelaw4_awake.f k).bind fun t375 => (some t375)) else (some false)) else (some false))))) = (cortegelaw4_awake.f k).bind fun t => some t := by
      intro k
      rw [Runint.length_long _ _ c1, Option.bind_some, Runint.apply_long _ _ _ c2, Option.bind_some, if_pos (by omega), if_pos rfl, if_neg Bool.false_ne_true, Runint.pairs_long _ _ c1, Option.bind_some, if_pos (show (([] : List S50).length : Int) = 0 from rfl), Runint.steps_long _ _ c1, Option.bind_some, if_pos (show (([] : List S40).length : Int) = 0 from rfl)]
    exact (To.eq body).trans DiffCommon.awake_bind
  · have hlen : ((L ((List.replicate n (0 : Int)).map Runint.key) (([0] : List Int).map Runint.key) : Nat) : Int) = 1 := by
      have h1 := L_le_right ((List.replicate n (0 : Int)).map Runint.key) (([0] : List Int).map Runint.key)
      have h2 := L_ge ((List.replicate n (0 : Int)).map Runint.key) (([0] : List Int).map Runint.key) [0] (List.singleton_sublist.2 (by simp [Runint.key]; omega)) (by simp [Runint.key])
      have h1' : L ((List.replicate n (0 : Int)).map Runint.key) (([0] : List Int).map Runint.key) ≤ 1 := h1
      have h2' : 1 ≤ L ((List.replicate n (0 : Int)).map Runint.key) (([0] : List Int).map Runint.key) := h2
      omega
    have h1 := Runint.length (List.replicate n 0) [0] (by omega) (by simp)
    rw [hlen] at h1
    refine At.bind_at h1 ?_
    obtain ⟨out, he⟩ := eat_self (List.replicate n 0) n 0 [] (by omega)
    have hap : ∃ o, Runint.ap (List.replicate n 0) (List.replicate n 0) [⟨(n : Int), 0, 0⟩] 0 0 [] = (o, true) := by
      simp only [Runint.ap]
      rw [if_neg (by rw [hrep]; simp), Int.toNat_natCast, he]
      simp only
      rw [if_neg (by simp)]
      refine ⟨_, if_neg ?_⟩
      simp
    obtain ⟨o, hap⟩ := hap
    have h2 := Runint.apply (List.replicate n 0) (List.replicate n 0) (by omega) (by omega) [⟨(n : Int), 0, 0⟩] (by simp)
    rw [hap] at h2
    refine At.bind_at h2 ?_
    refine (To.eq fun k => ?_).trans DiffCommon.awake_bind
    rw [if_neg (by omega), if_pos rfl, if_pos rfl]
end Go.Proofs.Ytniobphfbfnccaa.Pure
