/-
  Steps make the one list the other; they take as many as both have in common; from a list to itself one step takes all: the statement without Go. No condition.
-/
import Derived.Test.YtniobphfbfnccaaDiffCommon
import Derived.Test.YtniobphfbfnccaaBackString
import Derived.Test.YtniobphfbfnccaaSDiffBack
namespace Go.Proofs.Ytniobphfbfnccaa.Pure
open Go.RowKit Go.IntWalk Go.Proofs.Ytniobphfbfnccaa.PAll Go.Proofs.YtniobphfbfnccaaW.PrintWords Go.Proofs.YtniobphfbfnccaaW.PrintLast Go.Proofs.YtniobphfbfnccaaW.PrintMore Go.Proofs.Ytniobphfbfnccaa.Lcs
open Go.Proofs.Ytniobphfbfnccaa.DiffCommon (w1)

namespace DiffBack
theorem wa {p q : Nat} (hp : p ≤ 1000000) (hq : q ≤ 1000000) : wrap64 ((p : Int) + (q : Int)) = ((p + q : Nat) : Int) := by rw [wrap64_in _ (by omega)]; omega

theorem good_len {β : Type} {A B : List β} : ∀ {i j : Nat} {r : List (Nat × Nat)}, Lcs.Good A B i j r → i ≤ A.length → j ≤ B.length → i + r.length ≤ A.length ∧ j + r.length ≤ B.length := by
  intro i j r
  induction r generalizing i j with
  | nil => intro _ h1 h2; exact ⟨by simpa using h1, by simpa using h2⟩
  | cons x r ih =>
    obtain ⟨p, q⟩ := x
    rintro ⟨h1, h2, ⟨y, h3, h4⟩, h5⟩ _ _
    have hp := (List.getElem?_eq_some_iff.1 h3).1
    have hq := (List.getElem?_eq_some_iff.1 h4).1
    have := ih h5 (by omega) (by omega)
    rw [List.length_cons]
    omega

/-- One round of the loop. -/
theorem round {a b : List ByteArray} {ss : List S40} {x : List ByteArray} {ok : Bool} {s o u X Y Z ix : Nat} (hix : ix < ss.length) (he : ss[ix] = ⟨(s : Int), (o : Int), (u : Int)⟩) (hb : ix ≤ 1000000 ∧ s ≤ 1000 ∧ o ≤ 1000 ∧ u ≤ 1000 ∧ X ≤ 1000 ∧ Y ≤ 1000 ∧ Z ≤ 1000)
    (h1 : 0 < ix → s ≠ 0) (h2 : ix + 1 < ss.length → 0 < o + u) (k : Nat) :
    cortegelaw4_DiffBack.l0 (k + 1) a b ss x ok (X : Int) (Y : Int) (Z : Int) (ix : Int) = cortegelaw4_DiffBack.l0 k a b ss x ok ((X + s : Nat) : Int) ((Y + o : Nat) : Int) ((Z + u : Nat) : Int) ((ix + 1 : Nat) : Int) := by
  have e : rd_T40 ss (ix : Int) = ⟨(s : Int), (o : Int), (u : Int)⟩ := by
    unfold rd_T40
    simp [hix, he]
  have E1 : Aside0 (wrap64 ((o : Int) + (u : Int)) = ((o + u : Nat) : Int)) := ⟨wa (by omega) (by omega)⟩
  have E2 : Aside0 (wrap64 ((ix : Int) + 1) = ((ix + 1 : Nat) : Int)) := ⟨w1 (by omega)⟩
  have E3 : Aside0 (wrap64 ((X : Int) + (s : Int)) = ((X + s : Nat) : Int)) := ⟨wa (by omega) (by omega)⟩
  have E4 : Aside0 (wrap64 ((Y : Int) + (o : Int)) = ((Y + o : Nat) : Int)) := ⟨wa (by omega) (by omega)⟩
  have E5 : Aside0 (wrap64 ((Z : Int) + (u : Int)) = ((Z + u : Nat) : Int)) := ⟨wa (by omega) (by omega)⟩
  simp only [cortegelaw4_DiffBack.l0]
  rw [e]
  simp only
  rw [E1.out, E2.out, E3.out, E4.out, E5.out, if_pos (by omega), if_pos (by omega), if_neg (by omega), if_neg (by omega), if_neg (by omega)]
  by_cases c1 : 0 < ix
  · have := h1 c1
    rw [if_pos (by omega), if_neg (by omega)]
    by_cases c2 : ix + 1 < ss.length
    · have := h2 c2
      rw [if_pos (by omega), if_neg (by omega)]
    · rw [if_neg (by omega)]
  · rw [if_neg (by omega)]
    by_cases c2 : ix + 1 < ss.length
    · have := h2 c2
      rw [if_pos (by omega), if_neg (by omega)]
    · rw [if_neg (by omega)]

theorem loop {a b : List ByteArray} (ha : a.length ≤ 40) (hb : b.length ≤ 40) {ss : List S40} (hss : ss.length ≤ 1000) {x : List ByteArray} {ok : Bool} : ∀ (r : List (Nat × Nat)) (s i j X Y Z ix : Nat),
    Lcs.Good (a.map Runstring.key) (b.map Runstring.key) i j r → i ≤ a.length → j ≤ b.length → s ≤ i → X + s + r.length ≤ 80 → Y ≤ 80 → Z ≤ 80 → Y + (a.length - i) ≤ 80 → Z + (b.length - j) ≤ 80 → ix ≤ ss.length → (0 < ix → s ≠ 0) → ss.drop ix = Runstring.go a.length b.length s i j r →
    To (fun k => cortegelaw4_DiffBack.l0 k a b ss x ok (X : Int) (Y : Int) (Z : Int) (ix : Int))
      (fun k => cortegelaw4_DiffBack.l0 k a b ss x ok ((X + s + r.length : Nat) : Int) ((Y + (a.length - i - r.length) : Nat) : Int) ((Z + (b.length - j - r.length) : Nat) : Int) (ss.length : Int)) := by
  intro r
  induction r with
  | nil =>
    intro s i j X Y Z ix _ hi hj hsi hX hY hZ hYi hZj hix h0 hd
    rw [List.length_nil] at hX
    rw [Runstring.go] at hd
    simp only [List.length_nil, Nat.add_zero, Nat.sub_zero]
    by_cases c : 0 < a.length - i + (b.length - j)
    · rw [if_pos c] at hd
      have hl := congrArg List.length hd
      rw [List.length_drop, List.length_singleton] at hl
      have hix' : ix < ss.length := by omega
      rw [List.drop_eq_getElem_cons hix'] at hd
      have he := (List.cons.inj hd).1
      refine (To.step fun k => round hix' he ⟨by omega, by omega, by omega, by omega, by omega, by omega, by omega⟩ h0 (by omega) k).trans ?_
      rw [show ix + 1 = ss.length by omega]
      exact To.refl _
    · rw [if_neg c] at hd
      by_cases hz : s = 0
      · subst hz
        rw [if_pos rfl] at hd
        have hl := congrArg List.length hd
        rw [List.length_drop, List.length_nil] at hl
        obtain rfl : ix = ss.length := by omega
        rw [show a.length - i = 0 by omega, show b.length - j = 0 by omega]
        exact To.refl _
      · rw [if_neg hz] at hd
        have hl := congrArg List.length hd
        rw [List.length_drop, List.length_singleton] at hl
        have hix' : ix < ss.length := by omega
        rw [List.drop_eq_getElem_cons hix'] at hd
        have he : ss[ix] = ⟨(s : Int), ((0 : Nat) : Int), ((0 : Nat) : Int)⟩ := (List.cons.inj hd).1
        refine (To.step fun k => round hix' he ⟨by omega, by omega, by omega, by omega, by omega, by omega, by omega⟩ h0 (by omega) k).trans ?_
        rw [show ix + 1 = ss.length by omega, show a.length - i = 0 by omega, show b.length - j = 0 by omega]
        exact To.refl _
  | cons y r ih =>
    obtain ⟨p, q⟩ := y
    intro s i j X Y Z ix hg hi hj hsi hX hY hZ hYi hZj hix h0 hd
    have hgl := good_len hg (by simpa using hi) (by simpa using hj)
    obtain ⟨h1, h2, ⟨y, h3, h4⟩, h5⟩ := hg
    have hp := (List.getElem?_eq_some_iff.1 h3).1
    have hq := (List.getElem?_eq_some_iff.1 h4).1
    have hgl2 := good_len h5 (by omega) (by omega)
    rw [List.length_map] at hp hq
    rw [List.length_map, List.length_map] at hgl2
    rw [List.length_cons] at hX
    rw [Runstring.go] at hd
    by_cases c : 0 < p - i + (q - j)
    · rw [if_pos c] at hd
      have hl := congrArg List.length hd
      rw [List.length_drop, List.length_cons] at hl
      have hix' : ix < ss.length := by omega
      rw [List.drop_eq_getElem_cons hix'] at hd
      have he := (List.cons.inj hd).1
      refine (To.step fun k => round hix' he ⟨by omega, by omega, by omega, by omega, by omega, by omega, by omega⟩ h0 (fun _ => c) k).trans ?_
      refine (ih 1 (p + 1) (q + 1) (X + s) (Y + (p - i)) (Z + (q - j)) (ix + 1) h5 (by omega) (by omega) (by omega) (by omega) (by omega) (by omega) (by omega) (by omega) (by omega) (by omega) (List.cons.inj hd).2).trans ?_
      rw [List.length_cons, show X + s + 1 + r.length = X + s + (r.length + 1) by omega, show Y + (p - i) + (a.length - (p + 1) - r.length) = Y + (a.length - i - (r.length + 1)) by omega, show Z + (q - j) + (b.length - (q + 1) - r.length) = Z + (b.length - j - (r.length + 1)) by omega]
      exact To.refl _
    · rw [if_neg c] at hd
      refine (ih (s + 1) (p + 1) (q + 1) X Y Z ix h5 (by omega) (by omega) (by omega) (by omega) (by omega) (by omega) (by omega) (by omega) (by omega) (by omega) hd).trans ?_
      rw [List.length_cons, show X + (s + 1) + r.length = X + s + (r.length + 1) by omega, show Y + (a.length - (p + 1) - r.length) = Y + (a.length - i - (r.length + 1)) by omega, show Z + (b.length - (q + 1) - r.length) = Z + (b.length - j - (r.length + 1)) by omega]
      exact To.refl _

theorem go_length (n m : Nat) : ∀ (r : List (Nat × Nat)) (s i j : Nat), (Runstring.go n m s i j r).length ≤ r.length + 1 := by
  intro r
  induction r with
  | nil => intro s i j; rw [Runstring.go]; by_cases c : 0 < n - i + (m - j) <;> by_cases z : s = 0 <;> simp [c, z]
  | cons x r ih =>
    obtain ⟨p, q⟩ := x
    intro s i j
    rw [Runstring.go]
    split
    · have := ih 1 (p + 1) (q + 1)
      simp; omega
    · have := ih (s + 1) (p + 1) (q + 1)
      simp; omega

theorem last {a : List ByteArray} (ha : a.length ≤ 40) : At (fun k => cortegelaw4_DiffBack.j2 k a false) true := by
  have hs := Runstring.steps a a (by omega) (by omega)
  rw [Runstring.steps_self] at hs
  refine To.step_trans (h := fun k => (diff_Steps_string.f k a a).bind fun t238 => (if (a.length : Int) = 0 then (if (t238.length : Int) = 0 then ((cortegelaw4_awake.f k).bind fun t241 => (some t241)) else (some false)) else ((cortegelaw0_SameSteps.f k t238 (([(⟨(a.length : Int), 0, 0⟩ : S40)] : List (S40)))).bind fun t245 => (if t245 = true then ((cortegelaw4_awake.f k).bind fun t246 => (some t246)) else (some false))))) (fun k => ?_) ?_
  · simp only [cortegelaw4_DiffBack.j2]
    rw [if_neg Bool.false_ne_true]
  · refine At.bind_at hs ?_
    by_cases h : a.length = 0
    · refine (To.eq fun k => ?_).trans DiffCommon.awake_bind
      rw [if_pos (by omega), if_pos h, if_pos (show (([] : List S40).length : Int) = 0 from rfl)]
    · refine (To.eq fun k => ?_).trans ((DiffCommon.sameSteps (a := [⟨(a.length : Int), 0, 0⟩]) (b := [⟨(a.length : Int), 0, 0⟩]) rfl (by simp)).bind_at (F := fun k t245 => (if t245 = true then ((cortegelaw4_awake.f k).bind fun t246 => (some t246)) else (some false))) ?_)
      · rw [if_neg (by omega), if_neg h]
      · refine (To.eq fun k => ?_).trans DiffCommon.awake_bind
        rw [if_pos rfl]
end DiffBack

theorem DiffBack : cortegelaw4_DiffBack.Pure := by
  intro a b _ _ _ _
  refine At.rounds (g := fun k => cortegelaw4_DiffBack.f k a b) ?_
  have great : At (fun k => cortegelaw4_DiffBack.j0 k a b true) true := by
    refine To.step_trans (fun k => ?_) DiffCommon.awake_bind
    simp only [cortegelaw4_DiffBack.j0]
    rw [if_pos trivial]
  obtain ⟨g0, h0, f0⟩ := DiffCommon.greatTexts a 40 20 (by omega)
  obtain ⟨g1, h1, f1⟩ := DiffCommon.greatTexts b 40 20 (by omega)
  refine (h0.bind _).trans ?_
  cases g0 with
  | true => simp only [if_true]; exact great
  | false =>
    simp only [Bool.false_eq_true, if_false]
    refine (h1.bind _).trans ?_
    cases g1 with
    | true => exact great
    | false =>
      have ha := (f0 rfl).1
      have hb := (f1 rfl).1
      have hpl := pr_length (a.map Runstring.key) (b.map Runstring.key) 0 0
      have hL1 := L_le_left (a.map Runstring.key) (b.map Runstring.key)
      have hL2 := L_le_right (a.map Runstring.key) (b.map Runstring.key)
      rw [List.length_map] at hL1 hL2
      have hsl : (Runstring.stepsOf a b).length ≤ 41 := by
        have := DiffBack.go_length a.length b.length (pr (a.map Runstring.key) (b.map Runstring.key) 0 0) 0 0 0
        unfold Runstring.stepsOf
        omega
      refine To.step_trans (h := fun k => (diff_Steps_string.f k a b).bind fun t209 => ((diff_Apply_string.f k a b t209).bind fun bt212 => (cortegelaw4_DiffBack.l0 k a b t209 bt212.1 bt212.2 0 0 0 0))) (fun k => ?_) ?_
      · simp only [cortegelaw4_DiffBack.j0]
        rw [if_neg Bool.false_ne_true]
      refine At.bind_at (Runstring.steps a b (by omega) (by omega)) ?_
      have hap := Runstring.apply a b (by omega) (by omega) (Runstring.stepsOf a b) (by omega)
      rw [Runstring.ap_steps (fun x y h => DiffCommon.bytes_ext h)] at hap
      refine At.bind_at hap ?_
      have hgood := pr_good (a.map Runstring.key) (b.map Runstring.key) _ _ 0 0 rfl rfl
      have hl := DiffBack.loop ha hb (ss := Runstring.stepsOf a b) (by omega) (x := b) (ok := true) (pr (a.map Runstring.key) (b.map Runstring.key) 0 0) 0 0 0 0 0 0 0 hgood (by omega) (by omega) (by omega) (by omega) (by omega) (by omega) (by omega) (by omega) (by omega) (by omega) rfl
      refine hl.trans ?_
      rw [hpl]
      obtain ⟨n, hn⟩ : ∃ n, n = L (a.map Runstring.key) (b.map Runstring.key) := ⟨_, rfl⟩
      have hlen := Runstring.length a b (by omega) (by omega)
      rw [← hn] at hL1 hL2 hlen ⊢
      have E1 : Aside0 (wrap64 (((0 + 0 + n : Nat) : Int) + ((0 + (a.length - 0 - n) : Nat) : Int)) = (a.length : Int)) := ⟨by rw [DiffBack.wa (by omega) (by omega)]; omega⟩
      have E2 : Aside0 (wrap64 (((0 + 0 + n : Nat) : Int) + ((0 + (b.length - 0 - n) : Nat) : Int)) = (b.length : Int)) := ⟨by rw [DiffBack.wa (by omega) (by omega)]; omega⟩
      refine To.step_trans (h := fun k => (cortegelaw0_SameTexts.f k b b).bind fun t236 => (if t236 = true then ((diff_Length_string.f k a b).bind fun t237 => (if ((0 + 0 + n : Nat) : Int) = t237 then cortegelaw4_DiffBack.j2 k a false else (cortegelaw4_DiffBack.j2 k a true))) else (cortegelaw4_DiffBack.j2 k a true))) (fun k => ?_) ?_
      · simp only [cortegelaw4_DiffBack.l0]
        rw [if_neg (by omega), if_pos trivial, E1.out, E2.out, if_pos rfl, show ((b.length : Int) != (b.length : Int)) = false by simp]
      refine At.bind_at (DiffCommon.sameTexts rfl (by omega)) ?_
      simp only [if_true]
      refine At.bind_at hlen ?_
      refine (To.eq fun k => ?_).trans (DiffBack.last ha)
      rw [if_pos (by omega)]
end Go.Proofs.Ytniobphfbfnccaa.Pure
