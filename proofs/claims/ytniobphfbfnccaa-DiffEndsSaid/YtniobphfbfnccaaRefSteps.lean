/-
  What the document's own steps, and what they make, come to: plain Lean over the printed functions.
-/
import Derived.Test.YtniobphfbfnccaaRefRun
import Derived.Test.YtniobphfbfnccaaApplyString
import Derived.Test.YtniobphfbfnccaaPRefx11
import Derived.Test.YtniobphfbfnccaaPRefx12
namespace Go.Proofs.Ytniobphfbfnccaa.RefRun
open Go.RowKit Go.IntWalk Go.Proofs.Ytniobphfbfnccaa.PRef Go.Proofs.YtniobphfbfnccaaW.PrintWords Go.Proofs.YtniobphfbfnccaaW.PrintLast Go.Proofs.YtniobphfbfnccaaW.PrintMore Go.Proofs.Ytniobphfbfnccaa.Lcs
open Go.Proofs.Ytniobphfbfnccaa.Runstring hiding eat_to ap_to apply steps length pairs table rows filled pairs_to long_false long_true length_eq length_long pairs_eq pairs_long steps_to steps_eq steps_long

def pt (p : Nat × Nat) : S50 := ⟨(p.1 : Int), (p.2 : Int)⟩
section
variable {A B : List ByteArray} (hn : A.length ≤ 400) (hm : B.length ≤ 400)
include hn hm in
theorem inner (ps : List S50) : ∀ (r : List (Nat × Nat)) (i j s k : Nat) (out : List S40), ps.drop k = r.map pt → k + r.length = ps.length → (∀ p ∈ r, p.1 < A.length ∧ p.2 < B.length) → (r.Pairwise fun p q => p.1 < q.1 ∧ p.2 < q.2) → (∀ p ∈ r, i ≤ p.1 ∧ j ≤ p.2) →
    i ≤ A.length → j ≤ B.length → s + r.length ≤ 1000 → k + r.length ≤ 1000 → out.length + r.length ≤ 1000 → (0 < s ∨ i < A.length ∨ j < B.length) →
    At (fun q => cortegeref4_Steps.l1 q A B ps out (i : Int) (j : Int) (k : Int) (s : Int) 0 0) (out ++ go A.length B.length s i j r) := by
  intro r
  induction r with
  | nil =>
    intro i j s k out hd hk hin hpw hge hi hj hs hk2 ho hsome
    simp only [List.length_nil, Nat.add_zero] at hk
    have hv : out ++ go A.length B.length s i j [] = out ++ [(⟨(s : Int), wrap64 ((A.length : Int) - i), wrap64 ((B.length : Int) - j)⟩ : S40)] := by
      rw [wsub (by omega) hi, wsub (by omega) hj]
      simp only [go]
      by_cases h : 0 < (A.length - i) + (B.length - j)
      · rw [if_pos h]
      · rw [if_neg h, if_neg (by omega), show A.length - i = 0 by omega, show B.length - j = 0 by omega]
        rfl
    rw [hv]
    refine ⟨3, 0, fun q _ => ?_⟩
    show cortegeref4_Steps.l1 (q + 1 + 1 + 1) A B ps out (i : Int) (j : Int) (k : Int) (s : Int) 0 0 = _
    simp only [cortegeref4_Steps.l1, cortegeref4_Steps.l0, cortegeref4_Steps.j1]
    rw [if_neg (by omega), if_pos (by simp at ho; omega), if_neg (by omega), if_neg (by simp)]
  | cons pq r ih =>
    obtain ⟨p, q⟩ := pq
    intro i j s k out hd hk hin hpw hge hi hj hs hk2 ho hsome
    simp only [List.length_cons] at hk hs ho hk2
    have hkl : k < ps.length := by omega
    rw [List.drop_eq_getElem_cons hkl, List.map_cons] at hd
    obtain ⟨hd1, hd2⟩ := List.cons.inj hd
    have e : rd_T50 ps (k : Int) = pt (p, q) := by
      rw [← hd1]
      unfold rd_T50
      simp [hkl]
    have hpq := hin (p, q) (by simp)
    have hgpq := hge (p, q) (by simp)
    simp only at hpq hgpq
    obtain ⟨hp1, hp2⟩ := List.pairwise_cons.1 hpw
    have hin' : ∀ z ∈ r, z.1 < A.length ∧ z.2 < B.length := fun z hz => hin z (by simp [hz])
    have hge' : ∀ z ∈ r, p + 1 ≤ z.1 ∧ q + 1 ≤ z.2 := fun z hz => by have := hp1 z hz; simp only at this; omega
    have e0 : (pt (p, q)).f0 = (p : Int) := rfl
    have e1 : (pt (p, q)).f1 = (q : Int) := rfl
    by_cases h : p = i ∧ q = j
    · obtain ⟨rfl, rfl⟩ := h
      have hg : go A.length B.length s p q ((p, q) :: r) = go A.length B.length (s + 1) (p + 1) (q + 1) r := by
        simp only [go]
        rw [if_neg (by omega)]
      rw [hg]
      refine To.step_trans (fun z => ?_) (ih (p + 1) (q + 1) (s + 1) (k + 1) out hd2 (by omega) hin' hp2 hge' (by omega) (by omega) (by omega) (by omega) (by omega) (.inl (by omega)))
      simp only [cortegeref4_Steps.l1]
      rw [if_pos (by omega), if_pos (by omega), e, e0, e1, if_pos rfl, if_pos rfl, w1 (by omega), w1 (by omega), w1 (by omega), w1 (by omega)]
    · have hg : go A.length B.length s i j ((p, q) :: r) = (⟨(s : Int), wrap64 ((p : Int) - i), wrap64 ((q : Int) - j)⟩ : S40) :: go A.length B.length 1 (p + 1) (q + 1) r := by
        simp only [go]
        rw [if_pos (by omega), wsub (by omega) hgpq.1, wsub (by omega) hgpq.2]
      rw [hg, show out ++ (⟨(s : Int), wrap64 ((p : Int) - i), wrap64 ((q : Int) - j)⟩ : S40) :: go A.length B.length 1 (p + 1) (q + 1) r = (out ++ [(⟨(s : Int), wrap64 ((p : Int) - i), wrap64 ((q : Int) - j)⟩ : S40)]) ++ go A.length B.length 1 (p + 1) (q + 1) r by simp]
      have first : To (fun z => cortegeref4_Steps.l1 z A B ps out (i : Int) (j : Int) (k : Int) (s : Int) 0 0) (fun z => cortegeref4_Steps.l0 z A B ps (out ++ [(⟨(s : Int), wrap64 ((p : Int) - i), wrap64 ((q : Int) - j)⟩ : S40)]) (p : Int) (q : Int) (k : Int)) := by
        refine To.step fun z => ?_
        simp only [cortegeref4_Steps.l1]
        rw [if_pos (by omega), if_pos (by omega), e, e0, e1]
        by_cases hp : (p : Int) = (i : Int)
        · rw [if_pos hp, if_neg (by omega), if_pos (by omega)]
        · rw [if_neg hp, if_pos (by omega)]
      refine first.trans (To.trans ⟨3, 0, fun z _ => ?_⟩ (ih (p + 1) (q + 1) 1 (k + 1) _ hd2 (by omega) hin' hp2 hge' (by omega) (by omega) (by omega) (by omega) (by simp; omega) (.inl (by omega))))
      show cortegeref4_Steps.l0 (z + 1 + 1 + 1) A B ps _ (p : Int) (q : Int) (k : Int) = _
      simp only [cortegeref4_Steps.l1, cortegeref4_Steps.l0, cortegeref4_Steps.j1]
      rw [if_pos (by omega), if_pos trivial, if_pos (by omega), if_pos (by omega), e, e0, e1, if_pos rfl, if_pos rfl, w1 (by omega), w1 (by omega), w1 (by omega), w01]
      rfl
include hn hm in
theorem outer (ps : List S50) (r : List (Nat × Nat)) (hd : ps = r.map pt) (hin : ∀ p ∈ r, p.1 < A.length ∧ p.2 < B.length) (hpw : r.Pairwise fun p q => p.1 < q.1 ∧ p.2 < q.2) (hl : r.length ≤ 500) :
    At (fun q => cortegeref4_Steps.l0 q A B ps ([] : List (S40)) 0 0 0) (go A.length B.length 0 0 0 r) := by
  have hpl : ps.length = r.length := by rw [hd, List.length_map]
  by_cases h0 : A.length = 0 ∧ B.length = 0
  · obtain ⟨a0, b0⟩ := h0
    have hr : r = [] := by
      cases r with
      | nil => rfl
      | cons x r => have := (hin x (by simp)).1; omega
    subst hr
    have hg : go A.length B.length 0 0 0 [] = [] := by simp [go, a0, b0]
    rw [hg]
    refine ⟨2, 0, fun q _ => ?_⟩
    show cortegeref4_Steps.l0 (q + 1 + 1) A B ps ([] : List (S40)) 0 0 0 = _
    simp only [cortegeref4_Steps.l0, cortegeref4_Steps.j1]
    rw [if_neg (by omega), decide_eq_false (by omega), if_neg Bool.false_ne_true]
  · have h := inner hn hm ps r 0 0 0 0 [] (by rw [hd]; rfl) (by omega) hin hpw (fun _ _ => ⟨Nat.zero_le _, Nat.zero_le _⟩) (by omega) (by omega) (by omega) (by omega) (by simp; omega) (by omega)
    rw [List.nil_append] at h
    refine To.trans ⟨2, 0, fun q _ => ?_⟩ h
    show cortegeref4_Steps.l0 (q + 1 + 1) A B ps ([] : List (S40)) 0 0 0 = _
    simp only [cortegeref4_Steps.l0, cortegeref4_Steps.j1]
    by_cases ha : 0 < A.length
    · rw [if_pos (by omega), if_pos trivial]
      rfl
    · rw [if_neg (by omega), decide_eq_true (by omega), if_pos rfl]
      rfl
end
/-- The reference's Steps. -/
theorem steps (l0 l1 : List ByteArray) (hn : l0.length ≤ 400) (hm : l1.length ≤ 400) : At (fun k => cortegeref4_Steps.f k l0 l1) (stepsOf l0 l1) := by
  have hg := good_facts (pr_good (l0.map key) (l1.map key) _ _ 0 0 rfl rfl)
  simp only [List.length_map] at hg
  have hlen : (pr (l0.map key) (l1.map key) 0 0).length ≤ 400 := by
    rw [pr_length]
    have := L_le_left (l0.map key) (l1.map key)
    simp at this; omega
  refine (To.eq fun k => ?_).trans (((RefRun.pairs l0 l1 hn hm).bind (fun k t => cortegeref4_Steps.l0 k l0 l1 t ([] : List (S40)) 0 0 0)).trans (outer hn hm (pairsOf l0 l1) _ rfl hg.1 hg.2.1 (by omega)))
  unfold cortegeref4_Steps.f
  rw [RefRun.long_false l0 l1 hn hm, Option.bind_some, if_neg Bool.false_ne_true]

section
variable {A B : List ByteArray} (hA : A.length ≤ 400) (hB : B.length ≤ 400)

include hA hB in
theorem eat_to (steps : List S40) (ix : Int) (f1 f2 : Int) (S : Nat) (hSm : S ≤ 1000000) : ∀ (d i j c : Nat) (out : List ByteArray), c + d = S → out.length ≤ j → i + d ≤ A.length → j + d ≤ B.length →
    (eat A B d i j out = none → At (fun k => cortegeref4_Apply.l1 k A B steps out i j ix c S f1 f2) ([], false)) ∧
    (∀ out1, eat A B d i j out = some out1 → To (fun k => cortegeref4_Apply.l1 k A B steps out i j ix c S f1 f2) (fun k => cortegeref4_Apply.l1 (k + 1) A B steps out1 ((i + d : Nat) : Int) ((j + d : Nat) : Int) ix S S f1 f2)) := by
  intro d
  induction d with
  | zero =>
    intro i j c out hc ho hi hj
    obtain rfl : c = S := by omega
    refine ⟨fun h => by simp [eat] at h, fun out1 h => ?_⟩
    simp only [eat, Option.some.injEq] at h
    subst h
    exact ⟨1, 0, fun k _ => rfl⟩
  | succ d ih =>
    intro i j c out hc ho hi hj
    have hi' : i < A.length := by omega
    have hj' : j < B.length := by omega
    have E1 : Aside0 (wrap64 ((i : Int) + 1) = ((i + 1 : Nat) : Int)) := ⟨w1 (by omega)⟩
    have E2 : Aside0 (wrap64 ((j : Int) + 1) = ((j + 1 : Nat) : Int)) := ⟨w1 (by omega)⟩
    have E3 : Aside0 (wrap64 ((c : Int) + 1) = ((c + 1 : Nat) : Int)) := ⟨w1 (by omega)⟩
    obtain ⟨ih1, ih2⟩ := ih (i + 1) (j + 1) (c + 1) (out ++ [A[i]]) (by omega) (by simp; omega) (by omega) (by omega)
    by_cases he : key A[i] = key B[j]
    · have hst : ∀ k, cortegeref4_Apply.l1 (k + 1) A B steps out i j ix c S f1 f2 = cortegeref4_Apply.l1 k A B steps (out ++ [A[i]]) ((i + 1 : Nat) : Int) ((j + 1 : Nat) : Int) ix ((c + 1 : Nat) : Int) S f1 f2 := by
        intro k
        simp only [cortegeref4_Apply.l1]
        rw [if_pos (by omega), if_pos (by omega), if_pos (by omega), if_pos (by omega), if_pos (by omega), if_pos ((key_cmp hi' hj').2 he), if_pos (by omega), E1.out, E2.out, E3.out, rd_at hi']
      have hee : eat A B (d + 1) i j out = eat A B d (i + 1) (j + 1) (out ++ [A[i]]) := by
        rw [eat, dif_pos ⟨hi', hj'⟩, if_pos he]
      rw [hee]
      refine ⟨fun h => To.step_trans hst (ih1 h), fun out1 h => ?_⟩
      have := To.step_trans (g := fun k => cortegeref4_Apply.l1 k A B steps out i j ix c S f1 f2) hst (ih2 out1 h)
      rwa [show i + 1 + d = i + (d + 1) by omega, show j + 1 + d = j + (d + 1) by omega] at this
    · have hee : eat A B (d + 1) i j out = none := by rw [eat, dif_pos ⟨hi', hj'⟩, if_neg he]
      rw [hee]
      refine ⟨fun _ => To.step fun k => ?_, fun out1 h => by cases h⟩
      simp only [cortegeref4_Apply.l1]
      rw [if_pos (by omega), if_pos (by omega), if_pos (by omega), if_pos (by omega), if_pos (by omega), if_neg (fun e => he ((key_cmp hi' hj').1 e))]

theorem wadd' {p : Nat} {z : Int} (hp : p ≤ 1000000) (h0 : 0 ≤ z) (hz : z ≤ 1000000) : wrap64 ((p : Int) + z) = ((p + z.toNat : Nat) : Int) := by
  rw [wrap64_in _ (by omega)]; omega

include hA hB in
theorem ap_to (steps : List S40) (hs : steps.length ≤ 1000000) : ∀ (d ix i j : Nat) (out : List ByteArray), ix + d = steps.length → i ≤ A.length → j ≤ B.length → out.length ≤ j →
    At (fun k => cortegeref4_Apply.l0 k A B steps out i j ix) (ap A B (steps.drop ix) i j out) := by
  intro d
  induction d with
  | zero =>
    intro ix i j out hd hi hj ho
    rw [List.drop_eq_nil_of_le (by omega)]
    refine To.step fun k => ?_
    simp only [cortegeref4_Apply.l0, ap]
    rw [if_neg (by omega)]
    by_cases h1 : i < A.length
    · rw [if_neg (by omega), if_pos (.inl h1)]
    · rw [if_pos (by omega)]
      by_cases h2 : j < B.length
      · rw [if_neg (by omega), if_pos (.inr h2)]
      · rw [if_pos (by omega), if_neg (by omega)]
  | succ d ih =>
    intro ix i j out hd hi hj ho
    have hix : ix < steps.length := by omega
    rw [List.drop_eq_getElem_cons hix]
    have e : rd_T40 steps (ix : Int) = steps[ix] := by
      unfold rd_T40
      simp [hix]
    generalize hsx : steps[ix] = s at e ⊢
    clear hsx
    have E1 : Aside0 (wrap64 ((A.length : Int) - i) = ((A.length - i : Nat) : Int)) := ⟨wsub (by omega) hi⟩
    have E2 : Aside0 (wrap64 ((B.length : Int) - j) = ((B.length - j : Nat) : Int)) := ⟨wsub (by omega) hj⟩
    have E7 : Aside0 (wrap64 ((ix : Int) + 1) = ((ix + 1 : Nat) : Int)) := ⟨w1 (by omega)⟩
    have hbad : ∀ (b : Bool), (s.f0 < 0 ∨ s.f1 < 0 ∨ s.f2 < 0 ∨ s.f0 > ((A.length - i : Nat) : Int) ∨ s.f0 > ((B.length - j : Nat) : Int)) = (b = true) →
        ∀ k, cortegeref4_Apply.l0 (k + 1) A B steps out i j ix = cortegeref4_Apply.j1 k A B steps out i j ix b s.f0 s.f1 s.f2 := by
      intro b hb k
      simp only [cortegeref4_Apply.l0]
      rw [if_pos (by omega), if_pos (by omega), e, E1.out, E2.out]
      by_cases c0 : s.f0 < 0
      · obtain rfl : b = true := by rw [← hb]; exact .inl c0
        rw [if_pos c0]
      rw [if_neg c0]
      by_cases c1 : s.f1 < 0
      · obtain rfl : b = true := by rw [← hb]; exact .inr (.inl c1)
        rw [if_pos c1]
      rw [if_neg c1]
      by_cases c2 : s.f2 < 0
      · obtain rfl : b = true := by rw [← hb]; exact .inr (.inr (.inl c2))
        rw [if_pos c2]
      rw [if_neg c2]
      by_cases c3 : s.f0 > ((A.length - i : Nat) : Int)
      · obtain rfl : b = true := by rw [← hb]; exact .inr (.inr (.inr (.inl c3)))
        rw [if_pos c3]
      rw [if_neg c3]
      have : decide (s.f0 > ((B.length - j : Nat) : Int)) = b := by
        rw [Bool.eq_iff_iff, decide_eq_true_iff, ← hb]
        constructor
        · exact fun h => .inr (.inr (.inr (.inr h)))
        · rintro (h | h | h | h | h)
          · exact absurd h c0
          · exact absurd h c1
          · exact absurd h c2
          · exact absurd h c3
          · exact h
      rw [this]
    simp only [ap]
    by_cases hb : s.f0 < 0 ∨ s.f1 < 0 ∨ s.f2 < 0 ∨ s.f0 > ((A.length - i : Nat) : Int) ∨ s.f0 > ((B.length - j : Nat) : Int)
    · rw [if_pos hb]
      refine To.step_trans (hbad true (by simp only [hb])) (To.step fun k => ?_)
      simp only [cortegeref4_Apply.j1]
      rw [if_pos trivial]
    · rw [if_neg hb]
      refine To.step_trans (hbad false (by simp only [hb]; exact (eq_false Bool.false_ne_true).symm)) ?_
      refine To.step_trans (h := fun k => cortegeref4_Apply.l1 k A B steps out i j ix 0 s.f0 s.f1 s.f2) (fun k => by
        simp only [cortegeref4_Apply.j1]
        rw [if_neg Bool.false_ne_true]) ?_
      obtain ⟨S, hS⟩ : ∃ S : Nat, s.f0 = (S : Int) := ⟨s.f0.toNat, by omega⟩
      have hSt : s.f0.toNat = S := by omega
      rw [hSt]
      have hS1 : i + S ≤ A.length := by omega
      have hS2 : j + S ≤ B.length := by omega
      have h0 := eat_to hA hB steps ix s.f1 s.f2 S (by omega) S i j 0 out (by omega) ho (by omega) (by omega)
      rw [← hS] at h0
      cases hm : eat A B S i j out with
      | none => exact h0.1 hm
      | some out1 =>
        have ho1 := eat_length hm
        refine (h0.2 out1 hm).trans ?_
        simp only
        have E3 : Aside0 (wrap64 ((A.length : Int) - ((i + S : Nat) : Int)) = ((A.length - (i + S) : Nat) : Int)) := ⟨wsub (by omega) hS1⟩
        have E4 : Aside0 (wrap64 ((B.length : Int) - ((j + S : Nat) : Int)) = ((B.length - (j + S) : Nat) : Int)) := ⟨wsub (by omega) hS2⟩
        by_cases h1 : s.f1 > ((A.length - (i + S) : Nat) : Int)
        · rw [if_pos (.inl h1)]
          refine To.eq fun k => ?_
          simp only [cortegeref4_Apply.l1]
          rw [if_neg (by omega), E3.out, if_pos h1]
        by_cases h2 : s.f2 > ((B.length - (j + S) : Nat) : Int)
        · rw [if_pos (.inr h2)]
          refine To.eq fun k => ?_
          simp only [cortegeref4_Apply.l1]
          rw [if_neg (by omega), E3.out, if_neg h1, E4.out, if_pos h2]
        rw [if_neg (by omega)]
        have E5 : Aside0 (wrap64 (((j + S : Nat) : Int) + s.f2) = ((j + S + s.f2.toNat : Nat) : Int)) := ⟨wadd' (by omega) (by omega) (by omega)⟩
        have E6 : Aside0 (wrap64 (((i + S : Nat) : Int) + s.f1) = ((i + S + s.f1.toNat : Nat) : Int)) := ⟨wadd' (by omega) (by omega) (by omega)⟩
        have hl : ((B.take (j + S + s.f2.toNat)).drop (j + S)).length = s.f2.toNat := by rw [List.length_drop, List.length_take]; omega
        refine (To.eq fun k => ?_).trans (ih (ix + 1) (i + S + s.f1.toNat) (j + S + s.f2.toNat) (out1 ++ (B.take (j + S + s.f2.toNat)).drop (j + S)) (by omega) (by omega) (by omega) (by rw [List.length_append, hl]; omega))
        simp only [cortegeref4_Apply.l1]
        rw [if_neg (by omega), E3.out, if_neg h1, E4.out, if_neg h2, if_pos (by omega), E5.out, if_pos (by omega), if_pos (by omega), Int.toNat_natCast, Int.toNat_natCast, if_pos (by rw [hl]; omega), E6.out, E7.out]
end

/-- The reference's Apply. -/
theorem apply (A B : List ByteArray) (hA : A.length ≤ 400) (hB : B.length ≤ 400) (steps : List S40) (hs : steps.length ≤ 1000000) : At (fun k => cortegeref4_Apply.f k A B steps) (ap A B steps 0 0 []) := by
  have := ap_to hA hB steps hs steps.length 0 0 0 [] (by omega) (by omega) (by omega) (by simp)
  rw [List.drop_zero] at this
  refine (To.eq fun k => ?_).trans this
  unfold cortegeref4_Apply.f
  rw [long_false A B hA hB, Option.bind_some, if_neg Bool.false_ne_true]
  rfl
end Go.Proofs.Ytniobphfbfnccaa.RefRun
