/-
  What diff's steps (over ByteArray) come to, and what they make: plain Lean over the printed functions.
-/
import Derived.Test.YtniobphfbfnccaaRunString
import Derived.Test.YtniobphfbfnccaaPRefx6
namespace Go.Proofs.Ytniobphfbfnccaa.Runstring
open Go.RowKit Go.IntWalk Go.Proofs.Ytniobphfbfnccaa.PRef Go.Proofs.YtniobphfbfnccaaW.PrintWords Go.Proofs.YtniobphfbfnccaaW.PrintLast Go.Proofs.YtniobphfbfnccaaW.PrintMore Go.Proofs.Ytniobphfbfnccaa.Lcs

/-- The steps, the current one having taken s; n and m: how long the two lists are. -/
def go (n m : Nat) : Nat → Nat → Nat → List (Nat × Nat) → List S40
  | s, i, j, [] => if 0 < (n - i) + (m - j) then [⟨(s : Int), ((n - i : Nat) : Int), ((m - j : Nat) : Int)⟩] else if s = 0 then [] else [⟨(s : Int), 0, 0⟩]
  | s, i, j, (p, q) :: r => if 0 < (p - i) + (q - j) then ⟨(s : Int), ((p - i : Nat) : Int), ((q - j : Nat) : Int)⟩ :: go n m 1 (p + 1) (q + 1) r else go n m (s + 1) (p + 1) (q + 1) r

def cur (s : Nat) : List S40 := if s = 0 then [] else [⟨(s : Int), 0, 0⟩]

theorem last_rd (l : List S40) (x : S40) : rd_T40 (l ++ [x]) (l.length : Int) = x := by
  unfold rd_T40
  simp
theorem last_set (l : List S40) (x y : S40) : (l ++ [x]).set ((l.length : Int)).toNat y = l ++ [y] := by
  simp
theorem lt_last (l : List S40) (x : S40) : (l.length : Int) < ((l ++ [x]).length : Int) := by rw [List.length_append, List.length_singleton]; omega
theorem ne_last (l : List S40) (x : S40) : ¬ ((l ++ [x]).length : Int) = 0 := by rw [List.length_append, List.length_singleton]; omega
theorem w01 : wrap64 (0 + 1) = 1 := by rw [wrap64_in _ (by omega)]; rfl
theorem wl (l : List S40) (x : S40) (h : l.length ≤ 2000000) : wrap64 (((l ++ [x]).length : Int) - 1) = (l.length : Int) := by
  rw [List.length_append, List.length_singleton, wrap64_in _ (by omega)]; omega

/-- j2: the differences are written into the last step. -/
theorem j2_pos {x0 : List ByteArray} {l : List S40} {x : S40} (hl : l.length ≤ 1000000) {o u : Int} {ps : List S50} {ln ix p q : Int} (hou : wrap64 (o + u) > 0) (k : Nat) :
    diff_Steps_string.j2 (k + 1) x0 (l ++ [x]) o u ps ln ix p q = diff_Steps_string.j3 k x0 (l ++ [⟨x.f0, o, u⟩]) o u ps ln ix p q := by
  simp only [diff_Steps_string.j2]
  rw [if_pos hou, wl l x (by omega), if_pos (by omega), if_pos (lt_last l x), last_rd, last_set, Option.bind_some, last_rd, last_set]
theorem j2_neg {x0 : List ByteArray} {l : List S40} {o u : Int} {ps : List S50} {ln ix p q : Int} (hou : ¬ wrap64 (o + u) > 0) (k : Nat) :
    diff_Steps_string.j2 (k + 1) x0 l o u ps ln ix p q = diff_Steps_string.j3 k x0 l o u ps ln ix p q := by
  simp only [diff_Steps_string.j2]
  rw [if_neg hou]
theorem j1_neg {x0 : List ByteArray} {l : List S40} {o u : Int} {ps : List S50} {ln ix p q : Int} (k : Nat) :
    diff_Steps_string.j1 (k + 1) x0 l o u ps ln ix false p q = diff_Steps_string.j2 k x0 l o u ps ln ix p q := by
  simp only [diff_Steps_string.j1]
  rw [if_neg Bool.false_ne_true]
theorem j1_pos {x0 : List ByteArray} {o u : Int} {ps : List S50} {ln ix p q : Int} (k : Nat) :
    diff_Steps_string.j1 (k + 1) x0 [] o u ps ln ix true p q = diff_Steps_string.j2 k x0 ([] ++ [⟨0, 0, 0⟩]) o u ps ln ix p q := by
  simp only [diff_Steps_string.j1]
  rw [if_pos trivial, if_pos (show ([] : List S40).length < 5864062014805 from by simp)]
theorem j3_end {x0 : List ByteArray} {l : List S40} {o u : Int} {ps : List S50} {ln ix p q : Int} (hp : p = (x0.length : Int)) (k : Nat) :
    diff_Steps_string.j3 (k + 1) x0 l o u ps ln ix p q = some l := by
  simp only [diff_Steps_string.j3]
  rw [if_pos hp]
theorem j3_first {x0 : List ByteArray} {o u : Int} {ps : List S50} {ln ix p q : Int} (hp : ¬ p = (x0.length : Int)) (k : Nat) :
    diff_Steps_string.j3 (k + 1) x0 [] o u ps ln ix p q = diff_Steps_string.l0 k x0 [⟨1, 0, 0⟩] (wrap64 (p + 1)) (wrap64 (q + 1)) ps ln (wrap64 (ix + 1)) := by
  simp only [diff_Steps_string.j3]
  rw [if_neg hp, if_pos (show (([] : List S40).length : Int) = 0 from rfl), if_pos (show ([] : List S40).length < 5864062014805 from by simp), Option.bind_some, wl [] _ (by simp), if_pos (show (0 : Int) ≤ (([] : List S40).length : Int) by simp), if_pos (lt_last [] _), last_rd, last_set, w01, List.nil_append]
theorem j3_more {x0 : List ByteArray} {l : List S40} {x : S40} (hl : l.length ≤ 1000000) {o u : Int} {ps : List S50} {ln ix p q : Int} (hp : ¬ p = (x0.length : Int)) (hou : wrap64 (o + u) > 0) (k : Nat) :
    diff_Steps_string.j3 (k + 1) x0 (l ++ [x]) o u ps ln ix p q = diff_Steps_string.l0 k x0 ((l ++ [x]) ++ [⟨1, 0, 0⟩]) (wrap64 (p + 1)) (wrap64 (q + 1)) ps ln (wrap64 (ix + 1)) := by
  simp only [diff_Steps_string.j3]
  have h1 : (l ++ [x]).length ≤ 1000001 := by simp; omega
  rw [if_neg hp, if_neg (ne_last l x), if_pos hou, if_pos (by omega), Option.bind_some, wl (l ++ [x]) _ (by omega), if_pos (by omega), if_pos (lt_last (l ++ [x]) _), last_rd, last_set, w01]
theorem j3_same {x0 : List ByteArray} {l : List S40} {s : Nat} (hs : s ≤ 1000000) (hl : l.length ≤ 1000000) {o u : Int} {ps : List S50} {ln ix p q : Int} (hp : ¬ p = (x0.length : Int)) (hou : ¬ wrap64 (o + u) > 0) (k : Nat) :
    diff_Steps_string.j3 (k + 1) x0 (l ++ [⟨(s : Int), 0, 0⟩]) o u ps ln ix p q = diff_Steps_string.l0 k x0 (l ++ [⟨((s + 1 : Nat) : Int), 0, 0⟩]) (wrap64 (p + 1)) (wrap64 (q + 1)) ps ln (wrap64 (ix + 1)) := by
  simp only [diff_Steps_string.j3]
  rw [if_neg hp, if_neg (ne_last l _), if_neg hou, wl l _ (by omega), if_pos (by omega), if_pos (lt_last l _), last_rd, last_set, w1 hs]
/-- The head of the loop. -/
theorem l0_at {x0 : List ByteArray} {l : List S40} {i j : Nat} {ps : List S50} {ix : Nat} (hix : ix < ps.length) (k : Nat) :
    diff_Steps_string.l0 (k + 1) x0 l i j ps ps.length ix = diff_Steps_string.j1 k x0 l (wrap64 ((ps[ix]).f0 - i)) (wrap64 ((ps[ix]).f1 - j)) ps ps.length ix
      (decide (l.length = 0 ∧ wrap64 (wrap64 ((ps[ix]).f0 - i) + wrap64 ((ps[ix]).f1 - j)) > 0)) (ps[ix]).f0 (ps[ix]).f1 := by
  have e : rd_T50 ps (ix : Int) = ps[ix] := by
    unfold rd_T50
    simp [hix]
  simp only [diff_Steps_string.l0]
  rw [if_pos (by omega), if_pos (by omega), if_pos (by omega), e]
  generalize wrap64 (wrap64 ((ps[ix]).f0 - i) + wrap64 ((ps[ix]).f1 - j)) = z
  by_cases h : l.length = 0
  · rw [if_pos (by omega), show decide (l.length = 0 ∧ z > 0) = decide (z > 0) by simp only [h, true_and]]
  · rw [if_neg (by omega), show decide (l.length = 0 ∧ z > 0) = false by simp only [h, false_and, decide_false]]

theorem snoc_cons (l : List S40) (x : S40) (g : List S40) : l ++ [x] ++ g = l ++ x :: g := by simp
theorem wsub {p i : Nat} (hp : p ≤ 1000000) (hi : i ≤ p) : wrap64 ((p : Int) - i) = ((p - i : Nat) : Int) := by
  rw [wrap64_in _ (by omega)]; omega
theorem wadd {p i : Nat} (hp : p ≤ 1000000) (hi : i ≤ 1000000) : wrap64 ((p : Int) + i) = ((p + i : Nat) : Int) := by
  rw [wrap64_in _ (by omega)]; omega

theorem steps_to {x0 : List ByteArray} {m : Nat} (hn : x0.length ≤ 400) (hm : m ≤ 400) {ps : List S50} (hps : ps.length ≤ 1000) : ∀ (r : List (Nat × Nat)) (i j s ix : Nat) (done : List S40),
    ps.drop ix = (r.map fun p => (⟨(p.1 : Int), (p.2 : Int)⟩ : S50)) ++ [⟨(x0.length : Int), (m : Int)⟩] →
    (∀ p ∈ r, p.1 < x0.length ∧ p.2 < m) → (r.Pairwise fun p q => p.1 < q.1 ∧ p.2 < q.2) → (∀ p ∈ r, i ≤ p.1 ∧ j ≤ p.2) → i ≤ x0.length → j ≤ m → s ≤ 1000 → s + r.length ≤ 1000 → done.length ≤ ix → (s = 0 → done = []) →
    At (fun k => diff_Steps_string.l0 k x0 (done ++ cur s) (i : Int) (j : Int) ps (ps.length : Int) (ix : Int)) (done ++ go x0.length m s i j r) := by
  intro r
  induction r with
  | nil =>
    intro i j s ix done hd _ _ _ hi hj hs _ hdn hs0
    have hix : ix < ps.length := by
      rcases Nat.lt_or_ge ix ps.length with h | h
      · exact h
      · rw [List.drop_eq_nil_of_le h] at hd; simp at hd
    have he : ps[ix] = ⟨(x0.length : Int), (m : Int)⟩ := by
      rw [List.drop_eq_getElem_cons hix] at hd
      simp only [List.map_nil, List.nil_append, List.cons.injEq] at hd
      exact hd.1
    have E1 : Aside0 (wrap64 ((ps[ix]).f0 - i) = ((x0.length - i : Nat) : Int)) := ⟨by rw [he]; exact wsub (by omega) hi⟩
    have E2 : Aside0 (wrap64 ((ps[ix]).f1 - j) = ((m - j : Nat) : Int)) := ⟨by rw [he]; exact wsub (by omega) hj⟩
    have E3 : Aside0 (wrap64 (((x0.length - i : Nat) : Int) + ((m - j : Nat) : Int)) = ((x0.length - i + (m - j) : Nat) : Int)) := ⟨wadd (by omega) (by omega)⟩
    have E4 : Aside0 ((ps[ix]).f0 = (x0.length : Int)) := ⟨by rw [he]⟩
    refine To.step_trans (fun k => l0_at hix k) ?_
    rw [E1.out, E2.out, E3.out]
    simp only [go]
    by_cases h : 0 < x0.length - i + (m - j)
    · rw [if_pos h]
      by_cases hz : s = 0
      · have hdone := hs0 hz
        subst hz; subst hdone
        rw [decide_eq_true (by simp [cur]; omega)]
        refine To.step_trans (fun k => j1_pos k) (To.step_trans (fun k => j2_pos (by simp) (by rw [E3.out]; omega) k) (To.step fun k => ?_))
        rw [j3_end E4.out]
        simp
      · rw [decide_eq_false (by simp [cur, hz])]
        refine To.step_trans (fun k => j1_neg k) ?_
        unfold cur
        rw [if_neg hz]
        refine To.step_trans (fun k => j2_pos (by omega) (by rw [E3.out]; omega) k) (To.step fun k => ?_)
        rw [j3_end E4.out]
    · rw [if_neg h]
      rw [decide_eq_false (by omega)]
      refine To.step_trans (fun k => j1_neg k) (To.step_trans (fun k => j2_neg (by rw [E3.out]; omega) k) (To.step fun k => ?_))
      rw [j3_end E4.out, cur]
  | cons x r ih =>
    obtain ⟨p, q⟩ := x
    intro i j s ix done hd hlt hpw hle hi hj hs hsr hdn hs0
    have hix : ix < ps.length := by
      rcases Nat.lt_or_ge ix ps.length with h | h
      · exact h
      · rw [List.drop_eq_nil_of_le h] at hd; simp at hd
    rw [List.drop_eq_getElem_cons hix] at hd
    simp only [List.map_cons, List.cons_append, List.cons.injEq] at hd
    obtain ⟨he, hd'⟩ := hd
    obtain ⟨hpn, hqm⟩ := hlt (p, q) (by simp)
    obtain ⟨hip, hjq⟩ := hle (p, q) (by simp)
    simp only at hpn hqm hip hjq
    have hnext : ∀ y ∈ r, p + 1 ≤ y.1 ∧ q + 1 ≤ y.2 := fun y hy => by
      have := (List.pairwise_cons.1 hpw).1 y hy
      simp only at this
      omega
    have E1 : Aside0 (wrap64 ((ps[ix]).f0 - i) = ((p - i : Nat) : Int)) := ⟨by rw [he]; exact wsub (by omega) hip⟩
    have E2 : Aside0 (wrap64 ((ps[ix]).f1 - j) = ((q - j : Nat) : Int)) := ⟨by rw [he]; exact wsub (by omega) hjq⟩
    have E3 : Aside0 (wrap64 (((p - i : Nat) : Int) + ((q - j : Nat) : Int)) = ((p - i + (q - j) : Nat) : Int)) := ⟨wadd (by omega) (by omega)⟩
    have E4 : Aside0 (¬ (ps[ix]).f0 = (x0.length : Int)) := ⟨by rw [he]; simp only; omega⟩
    have E5 : Aside0 (wrap64 ((ps[ix]).f0 + 1) = ((p + 1 : Nat) : Int)) := ⟨by rw [he]; exact w1 (by omega)⟩
    have E6 : Aside0 (wrap64 ((ps[ix]).f1 + 1) = ((q + 1 : Nat) : Int)) := ⟨by rw [he]; exact w1 (by omega)⟩
    have E7 : Aside0 (wrap64 ((ix : Int) + 1) = ((ix + 1 : Nat) : Int)) := ⟨w1 (by omega)⟩
    simp only [List.length_cons] at hsr
    refine To.step_trans (fun k => l0_at hix k) ?_
    rw [E1.out, E2.out, E3.out]
    simp only [go]
    by_cases h : 0 < p - i + (q - j)
    · rw [if_pos h]
      have next := ih (p + 1) (q + 1) 1 (ix + 1) (done ++ [⟨(s : Int), ((p - i : Nat) : Int), ((q - j : Nat) : Int)⟩]) hd' (fun y hy => hlt y (by simp [hy])) (List.pairwise_cons.1 hpw).2 hnext (by omega) (by omega) (by omega) (by omega) (by simp; omega) (by omega)
      have ec1 : cur 1 = [⟨1, 0, 0⟩] := by simp [cur]
      rw [ec1, snoc_cons _ _ (go _ _ _ _ _ _)] at next
      by_cases hz : s = 0
      · have hdone := hs0 hz
        subst hz; subst hdone
        rw [decide_eq_true (by simp [cur]; omega)]
        refine To.step_trans (fun k => j1_pos k) (To.step_trans (fun k => j2_pos (by simp) (by rw [E3.out]; omega) k) (To.step_trans (fun k => j3_more (by simp) E4.out (by rw [E3.out]; omega) k) ?_))
        rw [E5.out, E6.out, E7.out]
        exact next
      · rw [decide_eq_false (by simp [cur, hz])]
        refine To.step_trans (fun k => j1_neg k) ?_
        unfold cur
        rw [if_neg hz]
        refine To.step_trans (fun k => j2_pos (by omega) (by rw [E3.out]; omega) k) (To.step_trans (fun k => j3_more (by omega) E4.out (by rw [E3.out]; omega) k) ?_)
        rw [E5.out, E6.out, E7.out]
        exact next
    · rw [if_neg h]
      rw [decide_eq_false (by omega)]
      have next := ih (p + 1) (q + 1) (s + 1) (ix + 1) done hd' (fun y hy => hlt y (by simp [hy])) (List.pairwise_cons.1 hpw).2 hnext (by omega) (by omega) (by omega) (by omega) (by omega) (by omega)
      refine To.step_trans (fun k => j1_neg k) (To.step_trans (fun k => j2_neg (by rw [E3.out]; omega) k) ?_)
      by_cases hz : s = 0
      · have hdone := hs0 hz
        subst hz; subst hdone
        refine To.step_trans (fun k => j3_first E4.out k) ?_
        rw [E5.out, E6.out, E7.out]
        have ec1 : cur (0 + 1) = [⟨1, 0, 0⟩] := by simp [cur]
        rw [ec1, List.nil_append] at next
        exact next
      · have ec : cur s = [⟨(s : Int), 0, 0⟩] := by unfold cur; rw [if_neg hz]
        have ec1 : cur (s + 1) = [⟨((s + 1 : Nat) : Int), 0, 0⟩] := by simp [cur]
        rw [ec1] at next
        rw [ec]
        refine To.step_trans (fun k => j3_same (by omega) (by omega) E4.out (by rw [E3.out]; omega) k) ?_
        rw [E5.out, E6.out, E7.out]
        exact next

/-- Rising pairs, as the loop wants them. -/
theorem good_facts {β : Type} {A B : List β} : ∀ {i j : Nat} {l : List (Nat × Nat)}, Lcs.Good A B i j l →
    (∀ p ∈ l, p.1 < A.length ∧ p.2 < B.length) ∧ (l.Pairwise fun p q => p.1 < q.1 ∧ p.2 < q.2) ∧ ∀ p ∈ l, i ≤ p.1 ∧ j ≤ p.2 := by
  intro i j l
  induction l generalizing i j with
  | nil => intro _; exact ⟨by simp, by simp, by simp⟩
  | cons x r ih =>
    obtain ⟨p, q⟩ := x
    rintro ⟨h1, h2, ⟨y, h3, h4⟩, h5⟩
    obtain ⟨k1, k2, k3⟩ := ih h5
    refine ⟨?_, ?_, ?_⟩
    · intro z hz
      rcases List.mem_cons.1 hz with rfl | hz
      · exact ⟨(List.getElem?_eq_some_iff.1 h3).1, (List.getElem?_eq_some_iff.1 h4).1⟩
      · exact k1 z hz
    · refine List.pairwise_cons.2 ⟨fun z hz => ?_, k2⟩
      have := k3 z hz
      exact ⟨by simp only; omega, by simp only; omega⟩
    · intro z hz
      rcases List.mem_cons.1 hz with rfl | hz
      · exact ⟨h1, h2⟩
      · have := k3 z hz
        omega

/-- diff.Steps. -/
def stepsOf (l0 l1 : List ByteArray) : List S40 := go l0.length l1.length 0 0 0 (pr (l0.map key) (l1.map key) 0 0)
theorem steps_eq (l0 l1 : List ByteArray) (hn : l0.length ≤ 400) (hm : l1.length ≤ 400) (k : Nat) : diff_Steps_string.f k l0 l1 = (diff_Pairs_string.f k l0 l1).bind (fun t => if t.length < 8796093022208 then ((some (t ++ [(⟨(l0.length : Int), (l1.length : Int)⟩ : S50)] : List (S50))).bind fun y => (diff_Steps_string.l0 k l0 ([] : List (S40)) 0 0 y (y.length : Int) 0)) else (none)) := by
  unfold diff_Steps_string.f
  rw [long_false l0 l1 hn hm, Option.bind_some, if_neg Bool.false_ne_true]
theorem steps (l0 l1 : List ByteArray) (hn : l0.length ≤ 400) (hm : l1.length ≤ 400) : At (fun k => diff_Steps_string.f k l0 l1) (stepsOf l0 l1) := by
  refine (To.eq (steps_eq l0 l1 hn hm)).trans (((pairs l0 l1 hn hm).bind _).trans ?_)
  have hlen : (pr (l0.map key) (l1.map key) 0 0).length ≤ 400 := by
    rw [pr_length]
    have := L_le_left (l0.map key) (l1.map key)
    simp at this; omega
  have hpl : (pairsOf l0 l1).length ≤ 400 := by simpa [pairsOf] using hlen
  have hg := good_facts (pr_good (l0.map key) (l1.map key) _ _ 0 0 rfl rfl)
  simp only [List.length_map] at hg
  have := steps_to (x0 := l0) (m := l1.length) hn hm (ps := pairsOf l0 l1 ++ [⟨(l0.length : Int), (l1.length : Int)⟩]) (by simp; omega) (pr (l0.map key) (l1.map key) 0 0) 0 0 0 0 [] rfl hg.1 hg.2.1 hg.2.2 (by omega) (by omega) (by omega) (by omega) (by simp) (fun _ => rfl)
  refine (To.eq fun k => ?_).trans this
  rw [if_pos (by omega), Option.bind_some]
  rfl
theorem steps_long (l0 l1 : List ByteArray) (h : 400 < l0.length ∨ 400 < l1.length) (k : Nat) : diff_Steps_string.f k l0 l1 = some [] := by
  unfold diff_Steps_string.f
  rw [long_true l0 l1 h, Option.bind_some, if_pos rfl]
end Go.Proofs.Ytniobphfbfnccaa.Runstring
