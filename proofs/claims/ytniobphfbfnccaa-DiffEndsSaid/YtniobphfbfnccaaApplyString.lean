/-
  What diff's Apply (over ByteArray) comes to: plain Lean over the printed functions.
-/
import Derived.Test.YtniobphfbfnccaaStepsString
import Derived.Test.YtniobphfbfnccaaPRefx7
namespace Go.Proofs.Ytniobphfbfnccaa.Runstring
open Go.RowKit Go.IntWalk Go.Proofs.Ytniobphfbfnccaa.PRef Go.Proofs.YtniobphfbfnccaaW.PrintWords Go.Proofs.YtniobphfbfnccaaW.PrintLast Go.Proofs.YtniobphfbfnccaaW.PrintMore Go.Proofs.Ytniobphfbfnccaa.Lcs

/-- n elements that both have at their places go to the list. -/
def eat (A B : List ByteArray) : Nat → Nat → Nat → List ByteArray → Option (List ByteArray)
  | 0, _, _, out => some out
  | n + 1, i, j, out => if h : i < A.length ∧ j < B.length then (if key A[i] = key B[j] then eat A B n (i + 1) (j + 1) (out ++ [A[i]]) else none) else none
/-- What steps make of the one list. -/
def ap (A B : List ByteArray) : List S40 → Nat → Nat → List ByteArray → List ByteArray × Bool
  | [], i, j, out => if i < A.length ∨ j < B.length then ([], false) else (out, true)
  | s :: r, i, j, out =>
    if s.f0 < 0 ∨ s.f1 < 0 ∨ s.f2 < 0 ∨ s.f0 > ((A.length - i : Nat) : Int) ∨ s.f0 > ((B.length - j : Nat) : Int) then ([], false)
    else match eat A B s.f0.toNat i j out with
      | none => ([], false)
      | some out1 =>
        if s.f1 > ((A.length - (i + s.f0.toNat) : Nat) : Int) ∨ s.f2 > ((B.length - (j + s.f0.toNat) : Nat) : Int) then ([], false)
        else ap A B r (i + s.f0.toNat + s.f1.toNat) (j + s.f0.toNat + s.f2.toNat) (out1 ++ (B.take (j + s.f0.toNat + s.f2.toNat)).drop (j + s.f0.toNat))

theorem eat_length {A B : List ByteArray} : ∀ {n i j : Nat} {out out1 : List ByteArray}, eat A B n i j out = some out1 → out1.length = out.length + n
  | 0, _, _, out, out1, h => by simp only [eat, Option.some.injEq] at h; subst h; rfl
  | n + 1, i, j, out, out1, h => by
    simp only [eat] at h
    split at h
    · split at h
      · have := eat_length h
        simp at this; omega
      · cases h
    · cases h

theorem key_cmp {A B : List ByteArray} {i j : Nat} (hi : i < A.length) (hj : j < B.length) : (rdOf ByteArray.empty A (i : Int)).toList = (rdOf ByteArray.empty B (j : Int)).toList ↔ key A[i] = key B[j] := by
  have h1 : rdOf ByteArray.empty A (i : Int) = A[i] := by simp [rdOf, List.getD_eq_getElem?_getD, hi]
  have h2 : rdOf ByteArray.empty B (j : Int) = B[j] := by simp [rdOf, List.getD_eq_getElem?_getD, hj]
  rw [h1, h2]
  exact Iff.rfl
theorem rd_at {A : List ByteArray} {i : Nat} (hi : i < A.length) : rdOf ByteArray.empty A (i : Int) = A[i] := by simp [rdOf, List.getD_eq_getElem?_getD, hi]

section
variable {A B : List ByteArray} (hA : A.length ≤ 400) (hB : B.length ≤ 400)

include hA hB in
theorem eat_to (steps : List S40) (ln ix : Int) (f0 f1 f2 : Int) (S : Nat) (hSm : S ≤ 1000000) : ∀ (d i j c : Nat) (out : List ByteArray), c + d = S → out.length ≤ j → i + d ≤ A.length → j + d ≤ B.length →
    (eat A B d i j out = none → At (fun k => diff_Apply_string.l1 k A B out i j steps ln ix S c f0 f1 f2) ([], false)) ∧
    (∀ out1, eat A B d i j out = some out1 → To (fun k => diff_Apply_string.l1 k A B out i j steps ln ix S c f0 f1 f2) (fun k => diff_Apply_string.l1 (k + 1) A B out1 ((i + d : Nat) : Int) ((j + d : Nat) : Int) steps ln ix S S f0 f1 f2)) := by
  intro d
  induction d with
  | zero =>
    intro i j c out hc ho hi hj
    obtain rfl : c = S := by omega
    refine ⟨fun h => by simp [eat] at h, fun out1 h => ?_⟩
    simp only [eat, Option.some.injEq] at h
    subst h
    exact ⟨1, 0, fun k _ => rfl⟩
  | succ d ih =>
    intro i j c out hc ho hi hj
    have hi' : i < A.length := by omega
    have hj' : j < B.length := by omega
    have E1 : Aside0 (wrap64 ((i : Int) + 1) = ((i + 1 : Nat) : Int)) := ⟨w1 (by omega)⟩
    have E2 : Aside0 (wrap64 ((j : Int) + 1) = ((j + 1 : Nat) : Int)) := ⟨w1 (by omega)⟩
    have E3 : Aside0 (wrap64 ((c : Int) + 1) = ((c + 1 : Nat) : Int)) := ⟨w1 (by omega)⟩
    obtain ⟨ih1, ih2⟩ := ih (i + 1) (j + 1) (c + 1) (out ++ [A[i]]) (by omega) (by simp; omega) (by omega) (by omega)
    by_cases he : key A[i] = key B[j]
    · have hst : ∀ k, diff_Apply_string.l1 (k + 1) A B out i j steps ln ix S c f0 f1 f2 = diff_Apply_string.l1 k A B (out ++ [A[i]]) ((i + 1 : Nat) : Int) ((j + 1 : Nat) : Int) steps ln ix S ((c + 1 : Nat) : Int) f0 f1 f2 := by
        intro k
        simp only [diff_Apply_string.l1]
        rw [if_pos (by omega), if_pos (by omega), if_pos (by omega), if_pos (by omega), if_pos (by omega), if_pos ((key_cmp hi' hj').2 he), if_pos (by omega), E1.out, E2.out, E3.out, rd_at hi']
      have hee : eat A B (d + 1) i j out = eat A B d (i + 1) (j + 1) (out ++ [A[i]]) := by
        rw [eat, dif_pos ⟨hi', hj'⟩, if_pos he]
      rw [hee]
      refine ⟨fun h => To.step_trans hst (ih1 h), fun out1 h => ?_⟩
      have := To.step_trans (g := fun k => diff_Apply_string.l1 k A B out i j steps ln ix S c f0 f1 f2) hst (ih2 out1 h)
      rwa [show i + 1 + d = i + (d + 1) by omega, show j + 1 + d = j + (d + 1) by omega] at this
    · have hee : eat A B (d + 1) i j out = none := by rw [eat, dif_pos ⟨hi', hj'⟩, if_neg he]
      rw [hee]
      refine ⟨fun _ => To.step fun k => ?_, fun out1 h => by cases h⟩
      simp only [diff_Apply_string.l1]
      rw [if_pos (by omega), if_pos (by omega), if_pos (by omega), if_pos (by omega), if_pos (by omega), if_neg (fun e => he ((key_cmp hi' hj').1 e))]

theorem wadd' {p : Nat} {z : Int} (hp : p ≤ 1000000) (h0 : 0 ≤ z) (hz : z ≤ 1000000) : wrap64 ((p : Int) + z) = ((p + z.toNat : Nat) : Int) := by
  rw [wrap64_in _ (by omega)]; omega

include hA hB in
theorem ap_to (steps : List S40) (hs : steps.length ≤ 1000000) : ∀ (d ix i j : Nat) (out : List ByteArray), ix + d = steps.length → i ≤ A.length → j ≤ B.length → out.length ≤ j →
    At (fun k => diff_Apply_string.l0 k A B out i j steps steps.length ix) (ap A B (steps.drop ix) i j out) := by
  intro d
  induction d with
  | zero =>
    intro ix i j out hd hi hj ho
    rw [List.drop_eq_nil_of_le (by omega)]
    refine To.step fun k => ?_
    simp only [diff_Apply_string.l0, ap]
    rw [if_neg (by omega)]
    by_cases h1 : i < A.length
    · rw [if_pos (by omega), if_pos (.inl h1)]
    · rw [if_neg (by omega)]
      by_cases h2 : j < B.length
      · rw [if_pos (by omega), if_pos (.inr h2)]
      · rw [if_neg (by omega), if_neg (by omega)]
  | succ d ih =>
    intro ix i j out hd hi hj ho
    have hix : ix < steps.length := by omega
    rw [List.drop_eq_getElem_cons hix]
    have e : rd_T40 steps (ix : Int) = steps[ix] := by
      unfold rd_T40
      simp [hix]
    generalize hsx : steps[ix] = s at e ⊢
    clear hsx
    have E1 : Aside0 (wrap64 ((A.length : Int) - i) = ((A.length - i : Nat) : Int)) := ⟨wsub (by omega) hi⟩
    have E2 : Aside0 (wrap64 ((B.length : Int) - j) = ((B.length - j : Nat) : Int)) := ⟨wsub (by omega) hj⟩
    have E7 : Aside0 (wrap64 ((ix : Int) + 1) = ((ix + 1 : Nat) : Int)) := ⟨w1 (by omega)⟩
    have hbad : ∀ (b : Bool), (s.f0 < 0 ∨ s.f1 < 0 ∨ s.f2 < 0 ∨ s.f0 > ((A.length - i : Nat) : Int) ∨ s.f0 > ((B.length - j : Nat) : Int)) = (b = true) →
        ∀ k, diff_Apply_string.l0 (k + 1) A B out i j steps steps.length ix = diff_Apply_string.j1 k A B out i j steps steps.length ix b s.f0 s.f1 s.f2 := by
      intro b hb k
      simp only [diff_Apply_string.l0]
      rw [if_pos (by omega), if_pos (by omega), if_pos (by omega), e, E1.out, E2.out]
      by_cases c0 : s.f0 < 0
      · obtain rfl : b = true := by rw [← hb]; exact .inl c0
        rw [if_pos c0]
      rw [if_neg c0]
      by_cases c1 : s.f1 < 0
      · obtain rfl : b = true := by rw [← hb]; exact .inr (.inl c1)
        rw [if_pos c1]
      rw [if_neg c1]
      by_cases c2 : s.f2 < 0
      · obtain rfl : b = true := by rw [← hb]; exact .inr (.inr (.inl c2))
        rw [if_pos c2]
      rw [if_neg c2]
      by_cases c3 : s.f0 > ((A.length - i : Nat) : Int)
      · obtain rfl : b = true := by rw [← hb]; exact .inr (.inr (.inr (.inl c3)))
        rw [if_pos c3]
      rw [if_neg c3]
      have : decide (s.f0 > ((B.length - j : Nat) : Int)) = b := by
        rw [Bool.eq_iff_iff, decide_eq_true_iff, ← hb]
        constructor
        · exact fun h => .inr (.inr (.inr (.inr h)))
        · rintro (h | h | h | h | h)
          · exact absurd h c0
          · exact absurd h c1
          · exact absurd h c2
          · exact absurd h c3
          · exact h
      rw [this]
    simp only [ap]
    by_cases hb : s.f0 < 0 ∨ s.f1 < 0 ∨ s.f2 < 0 ∨ s.f0 > ((A.length - i : Nat) : Int) ∨ s.f0 > ((B.length - j : Nat) : Int)
    · rw [if_pos hb]
      refine To.step_trans (hbad true (by simp only [hb])) (To.step fun k => ?_)
      simp only [diff_Apply_string.j1]
      rw [if_pos trivial]
    · rw [if_neg hb]
      refine To.step_trans (hbad false (by simp only [hb]; exact (eq_false Bool.false_ne_true).symm)) ?_
      refine To.step_trans (h := fun k => diff_Apply_string.l1 k A B out i j steps steps.length ix s.f0 0 s.f0 s.f1 s.f2) (fun k => by
        simp only [diff_Apply_string.j1]
        rw [if_neg Bool.false_ne_true]) ?_
      obtain ⟨S, hS⟩ : ∃ S : Nat, s.f0 = (S : Int) := ⟨s.f0.toNat, by omega⟩
      have hSt : s.f0.toNat = S := by omega
      rw [hSt]
      have hS1 : i + S ≤ A.length := by omega
      have hS2 : j + S ≤ B.length := by omega
      have h0 := eat_to hA hB steps steps.length ix s.f0 s.f1 s.f2 S (by omega) S i j 0 out (by omega) ho (by omega) (by omega)
      rw [← hS] at h0
      cases hm : eat A B S i j out with
      | none => exact h0.1 hm
      | some out1 =>
        have ho1 := eat_length hm
        refine (h0.2 out1 hm).trans ?_
        simp only
        have E3 : Aside0 (wrap64 ((A.length : Int) - ((i + S : Nat) : Int)) = ((A.length - (i + S) : Nat) : Int)) := ⟨wsub (by omega) hS1⟩
        have E4 : Aside0 (wrap64 ((B.length : Int) - ((j + S : Nat) : Int)) = ((B.length - (j + S) : Nat) : Int)) := ⟨wsub (by omega) hS2⟩
        by_cases h1 : s.f1 > ((A.length - (i + S) : Nat) : Int)
        · rw [if_pos (.inl h1)]
          refine To.eq fun k => ?_
          simp only [diff_Apply_string.l1]
          rw [if_neg (by omega), E3.out, if_pos h1]
        by_cases h2 : s.f2 > ((B.length - (j + S) : Nat) : Int)
        · rw [if_pos (.inr h2)]
          refine To.eq fun k => ?_
          simp only [diff_Apply_string.l1]
          rw [if_neg (by omega), E3.out, if_neg h1, E4.out, if_pos h2]
        rw [if_neg (by omega)]
        have E5 : Aside0 (wrap64 (((j + S : Nat) : Int) + s.f2) = ((j + S + s.f2.toNat : Nat) : Int)) := ⟨wadd' (by omega) (by omega) (by omega)⟩
        have E6 : Aside0 (wrap64 (((i + S : Nat) : Int) + s.f1) = ((i + S + s.f1.toNat : Nat) : Int)) := ⟨wadd' (by omega) (by omega) (by omega)⟩
        have hl : ((B.take (j + S + s.f2.toNat)).drop (j + S)).length = s.f2.toNat := by rw [List.length_drop, List.length_take]; omega
        refine (To.eq fun k => ?_).trans (ih (ix + 1) (i + S + s.f1.toNat) (j + S + s.f2.toNat) (out1 ++ (B.take (j + S + s.f2.toNat)).drop (j + S)) (by omega) (by omega) (by omega) (by rw [List.length_append, hl]; omega))
        simp only [diff_Apply_string.l1]
        rw [if_neg (by omega), E3.out, if_neg h1, E4.out, if_neg h2, if_pos (by omega), E5.out, if_pos (by omega), if_pos (by omega), Int.toNat_natCast, Int.toNat_natCast, if_pos (by rw [hl]; omega), E6.out, E7.out]
end

/-- diff.Apply. -/
theorem apply (A B : List ByteArray) (hA : A.length ≤ 400) (hB : B.length ≤ 400) (steps : List S40) (hs : steps.length ≤ 1000000) : At (fun k => diff_Apply_string.f k A B steps) (ap A B steps 0 0 []) := by
  have := ap_to hA hB steps hs steps.length 0 0 0 [] (by omega) (by omega) (by omega) (by simp)
  rw [List.drop_zero] at this
  refine (To.eq fun k => ?_).trans this
  unfold diff_Apply_string.f
  rw [long_false A B hA hB, Option.bind_some, if_neg Bool.false_ne_true]
  rfl
theorem apply_long (A B : List ByteArray) (steps : List S40) (h : 400 < A.length ∨ 400 < B.length) (k : Nat) : diff_Apply_string.f k A B steps = some ([], false) := by
  unfold diff_Apply_string.f
  rw [long_true A B h, Option.bind_some, if_pos rfl]
end Go.Proofs.Ytniobphfbfnccaa.Runstring
