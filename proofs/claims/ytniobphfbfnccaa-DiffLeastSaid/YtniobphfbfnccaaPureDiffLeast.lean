/-
  No list that both have is longer than told; it is the same of both turned round, and of b and a: the statement without Go. No condition.
-/
import Derived.Test.YtniobphfbfnccaaDiffCommon
import Derived.Test.YtniobphfbfnccaaSDiffLeast
namespace Go.Proofs.Ytniobphfbfnccaa.Pure
open Go.RowKit Go.IntWalk Go.Proofs.Ytniobphfbfnccaa.PAll Go.Proofs.YtniobphfbfnccaaW.PrintWords Go.Proofs.YtniobphfbfnccaaW.PrintLast Go.Proofs.YtniobphfbfnccaaW.PrintMore Go.Proofs.Ytniobphfbfnccaa.Lcs
open Go.Proofs.Ytniobphfbfnccaa.DiffCommon (w1)

namespace DiffLeast
theorem w2 {i : Nat} (h : i ≤ 1000000) : wrap64 ((i : Int) - 1) = (i : Int) - 1 := by rw [wrap64_in _ (by omega)]
theorem cmpT {l0 l1 : List ByteArray} {i j : Nat} (hi : i < l0.length) (hj : j < l1.length) : ((rdOf ByteArray.empty l1 (j : Int)).toList = (rdOf ByteArray.empty l0 (i : Int)).toList) ↔ (l1.map Runstring.key)[j]'(by simpa using hj) = (l0.map Runstring.key)[i]'(by simpa using hi) := Runstring.cmp (l0 := l1) (l1 := l0) hj hi

section
variable {a b : List ByteArray} (ha : a.length ≤ 30) (hb : b.length ≤ 30)

include ha hb in
/-- The last tests. -/
theorem l4_to {n taken head : Nat} (hn : n = L (a.map Runstring.key) (b.map Runstring.key)) (ht : taken ≤ n) (hh : head ≤ n) : ∀ (c : Nat) (y : List ByteArray), c ≤ b.length → y = (b.drop c).reverse →
    At (fun k => cortegelaw4_DiffLeast.l4 k a b (n : Int) (taken : Int) (head : Int) a.reverse y ((c : Int) - 1)) true := by
  intro c
  induction c with
  | zero =>
    intro y _ hy
    rw [List.drop_zero] at hy
    subst hy
    have h1 := L_le_left (a.map Runstring.key) (b.map Runstring.key)
    have h2 := L_le_right (a.map Runstring.key) (b.map Runstring.key)
    rw [List.length_map] at h1 h2
    have e1 := Runstring.length b a (by omega) (by omega)
    rw [L_comm, ← hn] at e1
    have e2 := Runstring.length a.reverse b.reverse (by simp; omega) (by simp; omega)
    rw [List.map_reverse, List.map_reverse, L_reverse, ← hn] at e2
    have hmn : (n : Int) ≤ mn (a.length : Int) (b.length : Int) := by unfold mn; split <;> omega
    refine To.step_trans (h := fun k => (diff_Length_string.f k b a).bind fun t263 => (if t263 = (n : Int) then ((diff_Length_string.f k a.reverse b.reverse).bind fun t264 => (if t264 = (n : Int) then ((cortegelaw4_awake.f k).bind fun t265 => (some t265)) else (some false))) else (some false))) (fun k => ?_) ?_
    · simp only [cortegelaw4_DiffLeast.l4]
      rw [if_neg (by omega), if_pos (by omega), if_pos (by omega), if_pos hmn]
    · refine At.bind_at e1 ?_
      simp only [if_true]
      refine At.bind_at e2 ?_
      simp only [if_true]
      exact DiffCommon.awake_bind
  | succ c ih =>
    intro y hc hy
    have hc' : c < b.length := by omega
    refine To.step_trans (fun k => ?_) (ih (y ++ [b[c]]) (by omega) (by rw [hy, List.drop_eq_getElem_cons hc', List.reverse_cons]))
    have hl : y.length ≤ 30 := by rw [hy]; simp; omega
    simp only [cortegelaw4_DiffLeast.l4]
    rw [show ((c + 1 : Nat) : Int) - 1 = (c : Int) by omega, if_pos (by omega), if_pos (by omega), if_pos (by omega), if_pos (by omega), Runstring.rd_at hc', w2 (by omega)]

include ha hb in
theorem l3_to {n taken head : Nat} (hn : n = L (a.map Runstring.key) (b.map Runstring.key)) (ht : taken ≤ n) (hh : head ≤ n) : ∀ (c : Nat) (x : List ByteArray), c ≤ a.length → x = (a.drop c).reverse →
    At (fun k => cortegelaw4_DiffLeast.l3 k a b (n : Int) (taken : Int) (head : Int) x ((c : Int) - 1)) true := by
  intro c
  induction c with
  | zero =>
    intro x _ hx
    rw [List.drop_zero] at hx
    subst hx
    refine To.step_trans (fun k => ?_) (l4_to ha hb hn ht hh b.length [] (Nat.le_refl _) (by simp))
    simp only [cortegelaw4_DiffLeast.l3]
    rw [if_neg (by omega), w2 (by omega)]
  | succ c ih =>
    intro x hc hx
    have hc' : c < a.length := by omega
    refine To.step_trans (fun k => ?_) (ih (x ++ [a[c]]) (by omega) (by rw [hx, List.drop_eq_getElem_cons hc', List.reverse_cons]))
    have hl : x.length ≤ 30 := by rw [hx]; simp; omega
    simp only [cortegelaw4_DiffLeast.l3]
    rw [show ((c + 1 : Nat) : Int) - 1 = (c : Int) by omega, if_pos (by omega), if_pos (by omega), if_pos (by omega), if_pos (by omega), Runstring.rd_at hc', w2 (by omega)]

include ha hb in
/-- What both begin with. -/
theorem l2_to {n taken : Nat} (hn : n = L (a.map Runstring.key) (b.map Runstring.key)) (ht : taken ≤ n) : ∀ (d head : Nat), head + d = a.length → head ≤ b.length → (a.map Runstring.key).take head = (b.map Runstring.key).take head →
    At (fun k => cortegelaw4_DiffLeast.l2 k a b (n : Int) (taken : Int) (head : Int)) true := by
  intro d
  have fin : ∀ head, head ≤ a.length → head ≤ b.length → (a.map Runstring.key).take head = (b.map Runstring.key).take head → At (fun k => cortegelaw4_DiffLeast.j4 k a b (n : Int) (taken : Int) (head : Int)) true := by
    intro head h1 h2 he
    have hh : head ≤ n := by
      have := L_ge (a.map Runstring.key) (b.map Runstring.key) ((a.map Runstring.key).take head) (List.take_sublist _ _) (he ▸ List.take_sublist _ _)
      rw [List.length_take, List.length_map] at this
      omega
    refine To.step_trans (fun k => ?_) (l3_to ha hb hn ht hh a.length [] (Nat.le_refl _) (by simp))
    simp only [cortegelaw4_DiffLeast.j4]
    rw [w2 (by omega)]
  induction d with
  | zero =>
    intro head hd hb2 he
    refine To.step_trans (fun k => ?_) (fin head (by omega) hb2 he)
    simp only [cortegelaw4_DiffLeast.l2]
    rw [if_neg (by omega)]
  | succ d ih =>
    intro head hd hb2 he
    by_cases h : head < b.length
    · have hA : head < (a.map Runstring.key).length := by simp; omega
      have hB : head < (b.map Runstring.key).length := by simp; omega
      by_cases hk : (a.map Runstring.key)[head] = (b.map Runstring.key)[head]
      · refine To.step_trans (fun k => ?_) (ih (head + 1) (by omega) (by omega) (by rw [List.take_succ_eq_append_getElem hA, List.take_succ_eq_append_getElem hB, he, hk]))
        simp only [cortegelaw4_DiffLeast.l2]
        rw [if_pos (by omega), if_pos (by omega), if_pos (by omega), if_pos ((Runstring.cmp (l0 := a) (l1 := b) (by omega) h).2 hk), w1 (by omega)]
      · refine To.step_trans (fun k => ?_) (fin head (by omega) (by omega) he)
        simp only [cortegelaw4_DiffLeast.l2]
        rw [if_pos (by omega), if_pos (by omega), if_pos (by omega), if_neg (fun e => hk ((Runstring.cmp (l0 := a) (l1 := b) (by omega) h).1 e))]
    · refine To.step_trans (fun k => ?_) (fin head (by omega) hb2 he)
      simp only [cortegelaw4_DiffLeast.l2]
      rw [if_pos (by omega), if_neg (by omega)]

/-- A list is taken of the first i and of the first j. -/
def Taken (a b : List ByteArray) (i j taken : Nat) : Prop := ∃ c : List (List UInt8), c.Sublist ((a.map Runstring.key).take i) ∧ c.Sublist ((b.map Runstring.key).take j) ∧ c.length = taken
theorem Taken.skip {i j taken : Nat} (h : Taken a b i j taken) : Taken a b (i + 1) j taken := by
  obtain ⟨c, h1, h2, h3⟩ := h
  exact ⟨c, h1.trans (List.take_sublist_take_left (by omega)), h2, h3⟩

include ha hb in
theorem l0_to {n : Nat} (hn : n = L (a.map Runstring.key) (b.map Runstring.key)) (z : Int) : ∀ (d i j taken : Nat), i + d = a.length → j ≤ b.length → Taken a b i j taken →
    At (fun k => cortegelaw4_DiffLeast.l0 k a b z (n : Int) (j : Int) (taken : Int) (i : Int)) true := by
  intro d
  induction d with
  | zero =>
    intro i j taken hd hj ht
    have htn : taken ≤ n := by
      obtain ⟨c, h1, h2, h3⟩ := ht
      have := L_ge _ _ c (h1.trans (List.take_sublist _ _)) (h2.trans (List.take_sublist _ _))
      omega
    refine To.step_trans (fun k => ?_) (l2_to ha hb hn htn a.length 0 (by omega) (by omega) rfl)
    simp only [cortegelaw4_DiffLeast.l0]
    rw [if_neg (by omega)]
    rfl
  | succ d ih =>
    intro i j taken hd hj ht
    have hi : i < a.length := by omega
    have htk : taken ≤ 30 := by
      obtain ⟨c, h1, _, h3⟩ := ht
      have := h1.length_le
      rw [List.length_take, List.length_map] at this
      omega
    have inner : ∀ (e q : Nat), q + e = b.length → j ≤ q → At (fun k => cortegelaw4_DiffLeast.l1 k a b z (n : Int) (j : Int) (taken : Int) (i : Int) (q : Int)) true := by
      intro e
      induction e with
      | zero =>
        intro q hq _
        refine To.step_trans (fun k => ?_) (ih (i + 1) j taken (by omega) hj ht.skip)
        simp only [cortegelaw4_DiffLeast.l1]
        rw [if_neg (by omega), w1 (by omega)]
      | succ e ih2 =>
        intro q hq hjq
        have hq' : q < b.length := by omega
        by_cases hk : (b.map Runstring.key)[q]'(by simpa using hq') = (a.map Runstring.key)[i]'(by simpa using hi)
        · by_cases hbit : (Go.bits .and .i64 (shr .i64 z (i : Int)) 1) = 1
          · refine To.step_trans (fun k => ?_) (ih (i + 1) (q + 1) (taken + 1) (by omega) (by omega) ?_)
            · simp only [cortegelaw4_DiffLeast.l1]
              rw [if_pos (by omega), if_pos (by omega), if_pos (by omega), if_pos (by omega), if_pos ((cmpT hi hq').2 hk), if_pos hbit, w1 (by omega), w1 (by omega), w1 (by omega)]
            · obtain ⟨c, h1, h2, h3⟩ := ht
              refine ⟨c ++ [(a.map Runstring.key)[i]'(by simpa using hi)], ?_, ?_, by simp [h3]⟩
              · rw [List.take_succ_eq_append_getElem (by simpa using hi)]
                exact h1.append (List.Sublist.refl _)
              · rw [List.take_succ_eq_append_getElem (by simpa using hq'), hk]
                exact (h2.trans (List.take_sublist_take_left hjq)).append (List.Sublist.refl _)
          · refine To.step_trans (fun k => ?_) (ih (i + 1) j taken (by omega) hj ht.skip)
            simp only [cortegelaw4_DiffLeast.l1]
            rw [if_pos (by omega), if_pos (by omega), if_pos (by omega), if_pos (by omega), if_pos ((cmpT hi hq').2 hk), if_neg hbit, w1 (by omega)]
        · refine To.step_trans (fun k => ?_) (ih2 (q + 1) (by omega) (by omega))
          simp only [cortegelaw4_DiffLeast.l1]
          rw [if_pos (by omega), if_pos (by omega), if_pos (by omega), if_pos (by omega), if_neg (fun x => hk ((cmpT hi hq').1 x)), w1 (by omega)]
    refine To.step_trans (fun k => ?_) (inner (b.length - j) j (by omega) (Nat.le_refl _))
    simp only [cortegelaw4_DiffLeast.l0]
    rw [if_pos (by omega)]
end
end DiffLeast

theorem DiffLeast : cortegelaw4_DiffLeast.Pure := by
  intro a b z _ _ _ _ _
  refine At.rounds (g := fun k => cortegelaw4_DiffLeast.f k a b z) ?_
  have great : At (fun k => cortegelaw4_DiffLeast.j0 k a b z true) true := by
    refine To.step_trans (fun k => ?_) DiffCommon.awake_bind
    simp only [cortegelaw4_DiffLeast.j0]
    rw [if_pos trivial]
  obtain ⟨g0, h0, f0⟩ := DiffCommon.greatTexts a 30 20 (by omega)
  obtain ⟨g1, h1, f1⟩ := DiffCommon.greatTexts b 30 20 (by omega)
  refine (h0.bind _).trans ?_
  cases g0 with
  | true => simp only [if_true]; exact great
  | false =>
    simp only [Bool.false_eq_true, if_false]
    refine (h1.bind _).trans ?_
    cases g1 with
    | true => exact great
    | false =>
      have ha := (f0 rfl).1
      have hb := (f1 rfl).1
      refine To.step_trans (h := fun k => (diff_Length_string.f k a b).bind fun t250 => (cortegelaw4_DiffLeast.l0 k a b z t250 0 0 0)) (fun k => ?_) ?_
      · simp only [cortegelaw4_DiffLeast.j0]
        rw [if_neg Bool.false_ne_true]
      · refine At.bind_at (Runstring.length a b (by omega) (by omega)) ?_
        exact DiffLeast.l0_to ha hb rfl z a.length 0 0 0 (by omega) (by omega) ⟨[], by simp, by simp, rfl⟩
end Go.Proofs.Ytniobphfbfnccaa.Pure
