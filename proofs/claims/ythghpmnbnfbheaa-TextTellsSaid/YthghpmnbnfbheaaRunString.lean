/-
  What diff's table and pairs (over ByteArray) come to: plain Lean over the printed functions.
-/
import Derived.Test.YthghpmnbnfbheaaThreePlain
import Derived.Test.YthghpmnbnfbheaaPRefx3
import Derived.IntWalk
namespace Go.Proofs.Ythghpmnbnfbheaa.Runstring
open Go.RowKit Go.IntWalk Go.Proofs.Ythghpmnbnfbheaa.PRef Go.Proofs.YthghpmnbnfbheaaW.PrintWords Go.Proofs.YthghpmnbnfbheaaW.PrintLast Go.Proofs.YthghpmnbnfbheaaW.PrintMore Go.Proofs.Ythghpmnbnfbheaa.Lcs

/-- What elements are held against each other by. -/
abbrev K := List UInt8
def key (x : ByteArray) : K := x.toList
theorem cmp {l0 l1 : List ByteArray} {i j : Nat} (hi : i < l0.length) (hj : j < l1.length) : ((rdOf ByteArray.empty l0 (i : Int)).toList = (rdOf ByteArray.empty l1 (j : Int)).toList) ↔ (l0.map key)[i]'(by simpa using hi) = (l1.map key)[j]'(by simpa using hj) := by
  simp [rdOf, List.getD_eq_getElem?_getD, hi, hj, key]

section
variable (l0 l1 : List ByteArray) (hn : l0.length ≤ 1000000) (hm : l1.length ≤ 1000000)

theorem w1 {i : Nat} (h : i ≤ 1000000) : wrap64 ((i : Int) + 1) = ((i + 1 : Nat) : Int) := by rw [wrap64_in _ (by omega)]; omega
theorem w2 {i : Nat} (h : i ≤ 1000000) : wrap64 ((i : Int) - 1) = (i : Int) - 1 := by rw [wrap64_in _ (by omega)]
theorem rdL {t : List (List Int)} (i : Nat) : rd_L3 t (i : Int) = t.getD i [] := rfl
theorem rdd {t : List Int} (i : Nat) : rd t (i : Int) = t.getD i 0 := rfl

include hn hm in
/-- The rows are made. -/
theorem made (d : Nat) : ∀ (i : Nat) (t : List (List Int)), i + d = l0.length + 1 → t.length = l0.length + 1 → (∀ r, r < i → t.getD r [] = List.replicate (l1.length + 1) 0) →
    ∃ t', t' = List.replicate (l0.length + 1) (List.replicate (l1.length + 1) 0) ∧ To (fun k => diff_table_string.l0 k l0 l1 t ((l0.length + 1 : Nat) : Int) (i : Int)) (fun k => diff_table_string.l1 k l0 l1 t' ((l0.length : Int) - 1)) := by
  induction d with
  | zero =>
    intro i t hi ht hr
    refine ⟨t, ?_, To.step fun k => ?_⟩
    · apply List.ext_getElem?
      intro r
      by_cases h : r < l0.length + 1
      · have := hr r (by omega)
        rw [List.getD_eq_getElem?_getD, List.getElem?_eq_getElem (by omega)] at this
        rw [List.getElem?_eq_getElem (by omega), List.getElem?_replicate, if_pos h]
        simpa using this
      · rw [List.getElem?_eq_none (by omega), List.getElem?_eq_none (by simp; omega)]
    · simp only [diff_table_string.l0]
      rw [if_neg (by omega), w2 hn]
  | succ d ih =>
    intro i t hi ht hr
    have hw : wrap64 ((l1.length : Int) + 1) = ((l1.length + 1 : Nat) : Int) := w1 hm
    obtain ⟨t', h1, h2⟩ := ih (i + 1) (t.set i (List.replicate (l1.length + 1) 0)) (by omega) (by simpa using ht) (by
      intro r h
      by_cases e : r = i
      · subst e
        simp [List.getD_eq_getElem?_getD, show r < t.length by omega]
      · rw [List.getD_eq_getElem?_getD, List.getElem?_set_ne (by omega), ← List.getD_eq_getElem?_getD]
        exact hr r (by omega))
    refine ⟨t', h1, To.step_trans (fun k => ?_) h2⟩
    simp only [diff_table_string.l0, hw]
    rw [if_pos (by omega), if_pos (by omega), if_pos (by omega), if_pos (by omega), if_pos (by omega), w1 (by omega)]
    rfl

include hn hm in
/-- A row is filled, from behind. -/
theorem filled (i : Nat) (hi : i < l0.length) : ∀ (c : Nat) (t : List (List Int)), c ≤ l1.length → Part (l0.map key) (l1.map key) i c t →
    ∃ t', Part (l0.map key) (l1.map key) i 0 t' ∧ To (fun k => diff_table_string.l2 k l0 l1 t (i : Int) ((c : Int) - 1)) (fun k => diff_table_string.l1 k l0 l1 t' ((i : Int) - 1)) := by
  intro c
  induction c with
  | zero =>
    intro t _ ht
    refine ⟨t, ht, To.step fun k => ?_⟩
    simp only [diff_table_string.l2]
    rw [if_neg (by omega), w2 (by omega)]
  | succ c ih =>
    intro t hc ht
    have hA : (l0.map key).length = l0.length := by simp
    have hB : (l1.map key).length = l1.length := by simp
    have hi' : i < (l0.map key).length := by omega
    have hc' : c < (l1.map key).length := by omega
    have hs := ht.1
    have hl := hs.1
    have hr0 := hs.2 i (by omega)
    have hr1 := hs.2 (i + 1) (by omega)
    rw [hA] at hl
    rw [hB] at hr0 hr1
    have e1 : g2 t (i + 1) (c + 1) = (L ((l0.map key).drop (i + 1)) ((l1.map key).drop (c + 1)) : Int) := by rw [ht.2 _ _ (by omega) (by omega), if_pos (by omega)]
    have e2 : g2 t (i + 1) c = (L ((l0.map key).drop (i + 1)) ((l1.map key).drop c) : Int) := by rw [ht.2 _ _ (by omega) (by omega), if_pos (by omega)]
    have e3 : g2 t i (c + 1) = (L ((l0.map key).drop i) ((l1.map key).drop (c + 1)) : Int) := by rw [ht.2 _ _ (by omega) (by omega), if_pos (by omega)]
    have hcc : ((c + 1 : Nat) : Int) - 1 = (c : Int) := by omega
    by_cases h : (l0.map key)[i] = (l1.map key)[c]
    · have hv := L_drop_eq hi' hc' h
      obtain ⟨t', h1, h2⟩ := ih _ (by omega) (ht.put (by omega) (by omega) ((L ((l0.map key).drop i) ((l1.map key).drop c) : Nat) : Int) rfl)
      refine ⟨t', h1, To.step_trans (fun k => ?_) h2⟩
      have hle := L_le_left ((l0.map key).drop (i + 1)) ((l1.map key).drop (c + 1))
      rw [List.length_drop, hA] at hle
      simp only [diff_table_string.l2, hcc]
      rw [if_pos (by omega), if_pos (by omega), if_pos (by omega), if_pos (by omega), if_pos (by omega), if_pos ((cmp (by omega) (by omega)).2 h), if_pos (by omega), w1 (by omega), w1 (i := c) (by omega),
        if_pos (by omega), if_pos (by omega), if_pos (by omega), rdL, rdL, rdd, if_pos (by omega), if_pos (by omega), w2 (by omega)]
      have : wrap64 (((t.getD (i + 1) []).getD (c + 1) 0) + 1) = ((L ((l0.map key).drop i) ((l1.map key).drop c) : Nat) : Int) := by
        have : (t.getD (i + 1) []).getD (c + 1) 0 = _ := e1
        rw [this, hv, wrap64_in _ (by omega)]
        omega
      rw [this]
      rfl
    · have hv := L_drop_ne hi' hc' h
      obtain ⟨t', h1, h2⟩ := ih _ (by omega) (ht.put (by omega) (by omega) ((L ((l0.map key).drop i) ((l1.map key).drop c) : Nat) : Int) rfl)
      refine ⟨t', h1, To.step_trans (fun k => ?_) h2⟩
      simp only [diff_table_string.l2, hcc]
      rw [if_pos (by omega), if_pos (by omega), if_pos (by omega), if_pos (by omega), if_pos (by omega), if_neg (fun e => h ((cmp (by omega) (by omega)).1 e)), if_pos (by omega), w1 (by omega), w1 (i := c) (by omega),
        if_pos (by omega), if_pos (by omega), rdL, rdL, rdd, rdd, if_pos (by omega), if_pos (by omega), if_pos (by omega), if_pos (by omega), w2 (by omega)]
      have : mx ((t.getD (i + 1) []).getD c 0) ((t.getD i []).getD (c + 1) 0) = ((L ((l0.map key).drop i) ((l1.map key).drop c) : Nat) : Int) := by
        have e2' : (t.getD (i + 1) []).getD c 0 = _ := e2
        have e3' : (t.getD i []).getD (c + 1) 0 = _ := e3
        rw [e2', e3', hv]
        unfold mx
        split <;> omega
      rw [this]
      rfl

include hn hm in
theorem rows : ∀ (i : Nat) (t : List (List Int)), i ≤ l0.length → Part (l0.map key) (l1.map key) i 0 t →
    ∃ t', Tab (l0.map key) (l1.map key) t' ∧ At (fun k => diff_table_string.l1 k l0 l1 t ((i : Int) - 1)) t' := by
  intro i
  induction i with
  | zero =>
    intro t _ ht
    refine ⟨t, ht.tab, To.step fun k => ?_⟩
    simp only [diff_table_string.l1]
    rw [if_neg (by omega)]
  | succ i ih =>
    intro t hi ht
    have hB : (l1.map key).length = l1.length := by simp
    have h0 := ht.row
    rw [hB] at h0
    obtain ⟨t1, h1, h2⟩ := filled l0 l1 hn hm i (by omega) l1.length t (Nat.le_refl _) h0
    obtain ⟨t', h3, h4⟩ := ih t1 (by omega) h1
    refine ⟨t', h3, To.step_trans (fun k => ?_) (h2.trans h4)⟩
    simp only [diff_table_string.l1]
    rw [if_pos (by omega), w2 hm, show ((i + 1 : Nat) : Int) - 1 = (i : Int) by omega]

include hn hm in
/-- The table. -/
theorem table : ∃ t, Tab (l0.map key) (l1.map key) t ∧ At (fun k => diff_table_string.f k l0 l1) t := by
  have hA : (l0.map key).length = l0.length := by simp
  have hB : (l1.map key).length = l1.length := by simp
  obtain ⟨z, hz, h1⟩ := made l0 l1 hn hm (l0.length + 1) 0 (List.replicate (l0.length + 1) []) (by omega) (by simp) (by omega)
  have hp := part_zeros (l0.map key) (l1.map key)
  rw [hA, hB, ← hz] at hp
  obtain ⟨t, h2, h3⟩ := rows l0 l1 hn hm l0.length z (Nat.le_refl _) hp
  refine ⟨t, h2, (To.eq fun k => ?_).trans (h1.trans h3)⟩
  unfold diff_table_string.f
  rw [w1 hn, if_pos (by omega), if_pos (by omega)]
  simp

include hn hm in
/-- The pairs. -/
theorem pairs_to {t : List (List Int)} (ht : Tab (l0.map key) (l1.map key) t) (d : Nat) : ∀ (i j : Nat) (x : List S81), i ≤ l0.length → j ≤ l1.length → (l0.length - i) + (l1.length - j) = d → x.length ≤ i →
    At (fun k => diff_Pairs_string.l0 k l0 l1 t x (i : Int) (j : Int)) (x ++ (pr ((l0.map key).drop i) ((l1.map key).drop j) i j).map fun p => ⟨(p.1 : Int), (p.2 : Int)⟩) := by
  have hA : (l0.map key).length = l0.length := by simp
  have hB : (l1.map key).length = l1.length := by simp
  induction d using Nat.strongRecOn with
  | ind d ih =>
    intro i j x hi hj hd hx
    by_cases hi2 : i < l0.length
    · by_cases hj2 : j < l1.length
      · have hi' : i < (l0.map key).length := by omega
        have hj' : j < (l1.map key).length := by omega
        have hl := ht.1.1
        have hr0 := ht.1.2 i (by omega)
        have hr1 := ht.1.2 (i + 1) (by omega)
        rw [hA] at hl
        rw [hB] at hr0 hr1
        have e2 : (t.getD (i + 1) []).getD j 0 = (L ((l0.map key).drop (i + 1)) ((l1.map key).drop j) : Int) := ht.2 _ _ (by omega) (by omega)
        have e3 : (t.getD i []).getD (j + 1) 0 = (L ((l0.map key).drop i) ((l1.map key).drop (j + 1)) : Int) := ht.2 _ _ (by omega) (by omega)
        refine To.step_trans (h := fun k => diff_Pairs_string.j1 k l0 l1 t x (i : Int) (j : Int) true) (fun k => ?_) ?_
        · simp only [diff_Pairs_string.l0]
          rw [if_pos (by omega), decide_eq_true (by omega)]
        by_cases h : (l0.map key)[i] = (l1.map key)[j]
        · rw [pr_drop_eq hi' hj' h]
          have := ih _ (by omega) (i + 1) (j + 1) (x ++ [⟨(i : Int), (j : Int)⟩]) (by omega) (by omega) rfl (by simp; omega)
          rw [List.append_assoc] at this
          refine To.step_trans (fun k => ?_) this
          simp only [diff_Pairs_string.j1]
          rw [if_pos trivial, if_pos (by omega), if_pos (by omega), if_pos (by omega), if_pos (by omega), if_pos ((cmp (by omega) (by omega)).2 h), if_pos (by omega), w1 (by omega), w1 (by omega)]
        · by_cases hL : L ((l0.map key).drop i) ((l1.map key).drop (j + 1)) ≤ L ((l0.map key).drop (i + 1)) ((l1.map key).drop j)
          · rw [pr_drop_down hi' hj' h hL]
            refine To.step_trans (fun k => ?_) (ih _ (by omega) (i + 1) j x (by omega) (by omega) rfl (by omega))
            simp only [diff_Pairs_string.j1]
            rw [if_pos trivial, if_pos (by omega), if_pos (by omega), if_pos (by omega), if_pos (by omega), if_neg (fun e => h ((cmp (by omega) (by omega)).1 e)), w1 (by omega), w1 (by omega), if_pos (by omega), if_pos (by omega),
              rdL, rdL, rdd, rdd, if_pos (by omega), if_pos (by omega), if_pos (by omega), if_pos (by omega), if_pos (by rw [e2, e3]; omega)]
          · rw [pr_drop_right hi' hj' h hL]
            refine To.step_trans (fun k => ?_) (ih _ (by omega) i (j + 1) x (by omega) (by omega) rfl (by omega))
            simp only [diff_Pairs_string.j1]
            rw [if_pos trivial, if_pos (by omega), if_pos (by omega), if_pos (by omega), if_pos (by omega), if_neg (fun e => h ((cmp (by omega) (by omega)).1 e)), w1 (by omega), w1 (by omega), if_pos (by omega), if_pos (by omega),
              rdL, rdL, rdd, rdd, if_pos (by omega), if_pos (by omega), if_pos (by omega), if_pos (by omega), if_neg (by rw [e2, e3]; omega)]
      · have : (l1.map key).drop j = [] := List.drop_eq_nil_of_le (by omega)
        rw [this, pr_nil']
        refine To.step_trans (h := fun k => diff_Pairs_string.j1 k l0 l1 t x (i : Int) (j : Int) false) (fun k => ?_) (To.step fun k => ?_)
        · simp only [diff_Pairs_string.l0]
          rw [if_pos (by omega), decide_eq_false (by omega)]
        · simp [diff_Pairs_string.j1]
    · have : (l0.map key).drop i = [] := List.drop_eq_nil_of_le (by omega)
      rw [this, pr_nil]
      refine To.step_trans (h := fun k => diff_Pairs_string.j1 k l0 l1 t x (i : Int) (j : Int) false) (fun k => ?_) (To.step fun k => ?_)
      · simp only [diff_Pairs_string.l0]
        rw [if_neg (by omega)]
      · simp [diff_Pairs_string.j1]
end

theorem long_false (l0 l1 : List ByteArray) (hn : l0.length ≤ 400) (hm : l1.length ≤ 400) : diff_long_string.f l0 l1 = some false := by
  unfold diff_long_string.f
  rw [if_neg (by omega), decide_eq_false (by omega)]
theorem long_true (l0 l1 : List ByteArray) (h : 400 < l0.length ∨ 400 < l1.length) : diff_long_string.f l0 l1 = some true := by
  unfold diff_long_string.f
  by_cases h0 : (l0.length : Int) > 400
  · rw [if_pos h0]
  · rw [if_neg h0, decide_eq_true (by omega)]

/-- diff.Pairs. -/
def pairsOf (l0 l1 : List ByteArray) : List S81 := (pr (l0.map key) (l1.map key) 0 0).map fun p => ⟨(p.1 : Int), (p.2 : Int)⟩
theorem pairs_eq (l0 l1 : List ByteArray) (hn : l0.length ≤ 400) (hm : l1.length ≤ 400) (k : Nat) : diff_Pairs_string.f k l0 l1 = (diff_table_string.f k l0 l1).bind (fun t => diff_Pairs_string.l0 k l0 l1 t ([] : List (S81)) 0 0) := by
  unfold diff_Pairs_string.f
  rw [long_false l0 l1 hn hm, Option.bind_some, if_neg Bool.false_ne_true]
theorem pairs (l0 l1 : List ByteArray) (hn : l0.length ≤ 400) (hm : l1.length ≤ 400) : At (fun k => diff_Pairs_string.f k l0 l1) (pairsOf l0 l1) := by
  obtain ⟨t, ht, hA⟩ := table l0 l1 (by omega) (by omega)
  refine (To.eq (pairs_eq l0 l1 hn hm)).trans (hA.bind_at (F := fun k t => diff_Pairs_string.l0 k l0 l1 t ([] : List (S81)) 0 0) ?_)
  have := pairs_to l0 l1 (by omega) (by omega) ht _ 0 0 [] (by omega) (by omega) rfl (by simp)
  rw [List.nil_append, List.drop_zero, List.drop_zero] at this
  exact this
theorem pairs_long (l0 l1 : List ByteArray) (h : 400 < l0.length ∨ 400 < l1.length) (k : Nat) : diff_Pairs_string.f k l0 l1 = some [] := by
  unfold diff_Pairs_string.f
  rw [long_true l0 l1 h, Option.bind_some, if_pos rfl]
end Go.Proofs.Ythghpmnbnfbheaa.Runstring
