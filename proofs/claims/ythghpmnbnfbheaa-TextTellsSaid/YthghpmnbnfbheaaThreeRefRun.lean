/-
  What the document's own table, length and pairs come to: plain Lean over the printed functions.
-/
import Derived.Test.YthghpmnbnfbheaaThreeTxS
import Derived.Test.YthghpmnbnfbheaaPRefx5
import Derived.Test.YthghpmnbnfbheaaThreeRefP
namespace Go.Proofs.Ythghpmnbnfbheaa.RefRun
open Go.RowKit Go.IntWalk Go.Proofs.Ythghpmnbnfbheaa.PRef Go.Proofs.YthghpmnbnfbheaaW.PrintWords Go.Proofs.YthghpmnbnfbheaaW.PrintLast Go.Proofs.YthghpmnbnfbheaaW.PrintMore Go.Proofs.Ythghpmnbnfbheaa.Lcs Go.Proofs.Ythghpmnbnfbheaa.Runstring

section
variable (l0 l1 : List ByteArray) (hn : l0.length ≤ 1000) (hm : l1.length ≤ 1000)
/-- A row that is filled from behind, as far as column c. -/
def RowOk (i c : Nat) (row : List Int) : Prop := row.length = l1.length + 1 ∧ ∀ s, c ≤ s → s ≤ l1.length → row.getD s 0 = (L ((l0.map key).drop i) ((l1.map key).drop s) : Int)
/-- A table whose rows are whole from i on. -/
def RowsOk (i : Nat) (t : List (List Int)) : Prop := t.length = l0.length + 1 ∧ ∀ r, i ≤ r → r ≤ l0.length → RowOk l0 l1 r 0 (t.getD r [])
theorem getD_set (t : List (List Int)) (i : Nat) (x : List Int) (h : i < t.length) (r : Nat) : (t.set i x).getD r [] = if r = i then x else t.getD r [] := by
  rw [List.getD_eq_getElem?_getD, List.getElem?_set]
  by_cases e : i = r
  · subst e
    rw [if_pos rfl, if_pos h, if_pos rfl]
    rfl
  · rw [if_neg e, if_neg (fun h => e h.symm), ← List.getD_eq_getElem?_getD]
theorem getD_setI (t : List Int) (i : Nat) (x : Int) (h : i < t.length) (r : Nat) : (t.set i x).getD r 0 = if r = i then x else t.getD r 0 := by
  rw [List.getD_eq_getElem?_getD, List.getElem?_set]
  by_cases e : i = r
  · subst e
    rw [if_pos rfl, if_pos h, if_pos rfl]
    rfl
  · rw [if_neg e, if_neg (fun h => e h.symm), ← List.getD_eq_getElem?_getD]

include hn hm in
theorem filled (i : Nat) (hi : i < l0.length) : ∀ (c : Nat) (t : List (List Int)), c ≤ l1.length → RowsOk l0 l1 (i + 1) t → RowOk l0 l1 i c (t.getD i []) →
    ∃ t', RowsOk l0 l1 i t' ∧ To (fun k => cortegeref4_table.l1 k l0 l1 t (i : Int) ((c : Int) - 1)) (fun k => cortegeref4_table.l0 k l0 l1 t' ((i : Int) - 1)) := by
  intro c
  induction c with
  | zero =>
    intro t _ ht hr
    refine ⟨t, ⟨ht.1, fun r h1 h2 => ?_⟩, ⟨2, 0, fun k _ => ?_⟩⟩
    · by_cases e : r = i
      · subst e; exact hr
      · exact ht.2 r (by omega) h2
    · show cortegeref4_table.l1 (k + 1 + 1) l0 l1 t (i : Int) (((0 : Nat) : Int) - 1) = _
      simp only [cortegeref4_table.l1, cortegeref4_table.j2]
      rw [if_neg (by omega), if_neg (by simp), w2 (by omega)]
  | succ c ih =>
    intro t hc ht hr
    have hA : (l0.map key).length = l0.length := by simp
    have hB : (l1.map key).length = l1.length := by simp
    have hi' : i < (l0.map key).length := by omega
    have hc' : c < (l1.map key).length := by omega
    have hl := ht.1
    have hr0 := hr.1
    have hr1 := (ht.2 (i + 1) (by omega) (by omega)).1
    have e1 := (ht.2 (i + 1) (by omega) (by omega)).2 (c + 1) (by omega) (by omega)
    have e2 := (ht.2 (i + 1) (by omega) (by omega)).2 c (by omega) (by omega)
    have e3 := hr.2 (c + 1) (by omega) (by omega)
    have hcc : ((c + 1 : Nat) : Int) - 1 = (c : Int) := by omega
    have put : ∀ v : Int, v = (L ((l0.map key).drop i) ((l1.map key).drop c) : Int) → RowsOk l0 l1 (i + 1) (t.set i ((t.getD i []).set c v)) ∧ RowOk l0 l1 i c ((t.set i ((t.getD i []).set c v)).getD i []) := by
      intro v hv
      refine ⟨⟨by simpa using hl, fun r h1 h2 => ?_⟩, ?_⟩
      · rw [getD_set _ _ _ (by omega), if_neg (by omega)]
        exact ht.2 r h1 h2
      · rw [getD_set _ _ _ (by omega), if_pos rfl]
        refine ⟨by simpa using hr0, fun s h1 h2 => ?_⟩
        rw [getD_setI _ _ _ (by omega)]
        by_cases e : s = c
        · rw [if_pos e, e]; exact hv
        · rw [if_neg e]; exact hr.2 s (by omega) h2
    by_cases h : (l0.map key)[i] = (l1.map key)[c]
    · have hv := L_drop_eq hi' hc' h
      have hle := L_le_left ((l0.map key).drop (i + 1)) ((l1.map key).drop (c + 1))
      rw [List.length_drop, hA] at hle
      have hw : wrap64 (1 + ((t.getD (i + 1) []).getD (c + 1) 0)) = (L ((l0.map key).drop i) ((l1.map key).drop c) : Int) := by
        rw [e1, hv, wrap64_in _ (by omega)]
        omega
      obtain ⟨p1, p2⟩ := put _ hw
      obtain ⟨t', h1, h2⟩ := ih _ (by omega) p1 p2
      refine ⟨t', h1, To.trans ⟨2, 0, fun k _ => ?_⟩ h2⟩
      show cortegeref4_table.l1 (k + 1 + 1) l0 l1 t (i : Int) (((c + 1 : Nat) : Int) - 1) = _
      simp only [cortegeref4_table.l1, cortegeref4_table.j2, hcc]
      rw [if_pos (by omega), if_pos (by simp; omega), if_pos (by omega), if_pos (by omega), if_pos (by omega), if_pos (by omega), if_pos ((cmp (by omega) (by omega)).2 h), w1 (by omega), w1 (i := c) (by omega), rdL, rdL, rdd,
        if_pos (by omega), if_pos (by omega), if_pos (by omega), if_pos (by omega), if_pos (by omega), if_pos (by omega), w2 (by omega)]
      rfl
    · have hv := L_drop_ne hi' hc' h
      have hw : mx ((t.getD (i + 1) []).getD c 0) ((t.getD i []).getD (c + 1) 0) = (L ((l0.map key).drop i) ((l1.map key).drop c) : Int) := by
        rw [e2, e3, hv]
        unfold mx
        split <;> omega
      obtain ⟨p1, p2⟩ := put _ hw
      obtain ⟨t', h1, h2⟩ := ih _ (by omega) p1 p2
      refine ⟨t', h1, To.trans ⟨2, 0, fun k _ => ?_⟩ h2⟩
      show cortegeref4_table.l1 (k + 1 + 1) l0 l1 t (i : Int) (((c + 1 : Nat) : Int) - 1) = _
      simp only [cortegeref4_table.l1, cortegeref4_table.j2, hcc]
      rw [if_pos (by omega), if_pos (by simp; omega), if_pos (by omega), if_pos (by omega), if_pos (by omega), if_pos (by omega), if_neg (fun e => h ((cmp (by omega) (by omega)).1 e)), w1 (by omega), w1 (i := c) (by omega), rdL, rdL, rdd, rdd,
        if_pos (by omega), if_pos (by omega), if_pos (by omega), if_pos (by omega), if_pos (by omega), if_pos (by omega), if_pos (by omega), w2 (by omega)]
      rfl
theorem zero_row (i : Nat) (c : Nat) (hc : c = l1.length ∨ l0.length ≤ i) : RowOk l0 l1 i c (List.replicate (l1.length + 1) 0) := by
  refine ⟨by simp, fun s h1 h2 => ?_⟩
  have hz : (List.replicate (l1.length + 1) (0 : Int)).getD s 0 = 0 := by simp [List.getD_eq_getElem?_getD, List.getElem?_replicate]; split <;> rfl
  rw [hz]
  rcases hc with rfl | h
  · rw [List.drop_of_length_le (l := l1.map key) (by simp; omega), L_nil']
    rfl
  · rw [List.drop_of_length_le (l := l0.map key) (by simp; omega), L_nil]
    rfl
include hn hm in
theorem rows : ∀ (i : Nat) (t : List (List Int)), i ≤ l0.length + 1 → RowsOk l0 l1 i t → ∃ t', RowsOk l0 l1 0 t' ∧ At (fun k => cortegeref4_table.l0 k l0 l1 t ((i : Int) - 1)) t' := by
  intro i
  induction i with
  | zero =>
    intro t _ ht
    refine ⟨t, ht, To.step fun k => ?_⟩
    simp only [cortegeref4_table.l0]
    rw [if_neg (by omega)]
  | succ i ih =>
    intro t hi ht
    have hl := ht.1
    have h1 : RowsOk l0 l1 (i + 1) (t.set i (List.replicate (l1.length + 1) 0)) := ⟨by simpa using hl, fun r h1 h2 => by
      rw [getD_set _ _ _ (by omega), if_neg (by omega)]
      exact ht.2 r h1 h2⟩
    have h2 : (t.set i (List.replicate (l1.length + 1) 0)).getD i [] = List.replicate (l1.length + 1) 0 := by rw [getD_set _ _ _ (by omega), if_pos rfl]
    have first : To (fun k => cortegeref4_table.l0 k l0 l1 t (((i + 1 : Nat) : Int) - 1)) (fun k => cortegeref4_table.l1 k l0 l1 (t.set i (List.replicate (l1.length + 1) 0)) (i : Int) ((l1.length : Int) - 1)) := by
      refine To.step fun k => ?_
      simp only [cortegeref4_table.l0, show ((i + 1 : Nat) : Int) - 1 = (i : Int) by omega]
      rw [if_pos (by omega), w1 (by omega), w2 (by omega), if_pos (by omega), if_pos (by omega), if_pos (by omega), if_pos (by omega)]
      rfl
    by_cases hlt : i < l0.length
    · obtain ⟨t1, a1, a2⟩ := filled l0 l1 hn hm i hlt l1.length _ (Nat.le_refl _) h1 (by rw [h2]; exact zero_row l0 l1 i _ (.inl rfl))
      obtain ⟨t', a3, a4⟩ := ih t1 (by omega) a1
      exact ⟨t', a3, (first.trans a2).trans a4⟩
    · have a1 : RowsOk l0 l1 i (t.set i (List.replicate (l1.length + 1) 0)) := ⟨h1.1, fun r b1 b2 => by
        by_cases e : r = i
        · subst e; rw [h2]; exact zero_row l0 l1 _ _ (.inr (by omega))
        · exact h1.2 r (by omega) b2⟩
      obtain ⟨t', a3, a4⟩ := ih _ (by omega) a1
      refine ⟨t', a3, (first.trans ⟨2, 0, fun k _ => ?_⟩).trans a4⟩
      show cortegeref4_table.l1 (k + 1 + 1) l0 l1 _ (i : Int) ((l1.length : Int) - 1) = _
      simp only [cortegeref4_table.l1, cortegeref4_table.j2]
      by_cases hz : l1.length = 0
      · rw [if_neg (by omega), if_neg (by simp), w2 (by omega)]
      · rw [if_pos (by omega), if_neg (by simp; omega), w2 (by omega)]
include hn hm in
theorem table : ∃ t, Tab (l0.map key) (l1.map key) t ∧ At (fun k => cortegeref4_table.f k l0 l1) t := by
  obtain ⟨t, h1, h2⟩ := rows l0 l1 hn hm (l0.length + 1) (List.replicate (l0.length + 1) []) (Nat.le_refl _) ⟨by simp, fun r a b => by omega⟩
  refine ⟨t, ⟨⟨by simpa using h1.1, fun r hr => by simpa using (h1.2 r (Nat.zero_le _) (by simpa using hr)).1⟩, fun r s hr hs => (h1.2 r (Nat.zero_le _) (by simpa using hr)).2 s (Nat.zero_le _) (by simpa using hs)⟩, (To.eq fun k => ?_).trans h2⟩
  unfold cortegeref4_table.f
  rw [w1 (by omega), if_pos (by omega), if_pos (by omega), show (((l0.length + 1 : Nat) : Int) - 1) = (l0.length : Int) by omega]
  rfl
include hn hm in
/-- The pairs. -/
theorem pairs_to {t : List (List Int)} (ht : Tab (l0.map key) (l1.map key) t) (d : Nat) : ∀ (i j : Nat) (x : List S81), i ≤ l0.length → j ≤ l1.length → (l0.length - i) + (l1.length - j) = d → x.length ≤ i →
    At (fun k => cortegeref4_Pairs.l0 k l0 l1 t x (i : Int) (j : Int)) (x ++ (pr ((l0.map key).drop i) ((l1.map key).drop j) i j).map fun p => ⟨(p.1 : Int), (p.2 : Int)⟩) := by
  have hA : (l0.map key).length = l0.length := by simp
  have hB : (l1.map key).length = l1.length := by simp
  induction d using Nat.strongRecOn with
  | ind d ih =>
    intro i j x hi hj hd hx
    by_cases hi2 : i < l0.length
    · by_cases hj2 : j < l1.length
      · have hi' : i < (l0.map key).length := by omega
        have hj' : j < (l1.map key).length := by omega
        have hl := ht.1.1
        have hr0 := ht.1.2 i (by omega)
        have hr1 := ht.1.2 (i + 1) (by omega)
        rw [hA] at hl
        rw [hB] at hr0 hr1
        have e2 : (t.getD (i + 1) []).getD j 0 = (L ((l0.map key).drop (i + 1)) ((l1.map key).drop j) : Int) := ht.2 _ _ (by omega) (by omega)
        have e3 : (t.getD i []).getD (j + 1) 0 = (L ((l0.map key).drop i) ((l1.map key).drop (j + 1)) : Int) := ht.2 _ _ (by omega) (by omega)
        refine To.step_trans (h := fun k => cortegeref4_Pairs.j1 k l0 l1 t x (i : Int) (j : Int) true) (fun k => ?_) ?_
        · simp only [cortegeref4_Pairs.l0]
          rw [if_pos (by omega), decide_eq_true (by omega)]
        by_cases h : (l0.map key)[i] = (l1.map key)[j]
        · rw [pr_drop_eq hi' hj' h]
          have := ih _ (by omega) (i + 1) (j + 1) (x ++ [⟨(i : Int), (j : Int)⟩]) (by omega) (by omega) rfl (by simp; omega)
          rw [List.append_assoc] at this
          refine To.step_trans (fun k => ?_) this
          simp only [cortegeref4_Pairs.j1]
          rw [if_pos trivial, if_pos (by omega), if_pos (by omega), if_pos (by omega), if_pos (by omega), if_pos ((cmp (by omega) (by omega)).2 h), if_pos (by omega), w1 (by omega), w1 (by omega)]
        · by_cases hL : L ((l0.map key).drop i) ((l1.map key).drop (j + 1)) ≤ L ((l0.map key).drop (i + 1)) ((l1.map key).drop j)
          · rw [pr_drop_down hi' hj' h hL]
            refine To.step_trans (fun k => ?_) (ih _ (by omega) (i + 1) j x (by omega) (by omega) rfl (by omega))
            simp only [cortegeref4_Pairs.j1]
            rw [if_pos trivial, if_pos (by omega), if_pos (by omega), if_pos (by omega), if_pos (by omega), if_neg (fun e => h ((cmp (by omega) (by omega)).1 e)), w1 (by omega), w1 (by omega), if_pos (by omega), if_pos (by omega),
              rdL, rdL, rdd, rdd, if_pos (by omega), if_pos (by omega), if_pos (by omega), if_pos (by omega), if_pos (by rw [e2, e3]; omega)]
          · rw [pr_drop_right hi' hj' h hL]
            refine To.step_trans (fun k => ?_) (ih _ (by omega) i (j + 1) x (by omega) (by omega) rfl (by omega))
            simp only [cortegeref4_Pairs.j1]
            rw [if_pos trivial, if_pos (by omega), if_pos (by omega), if_pos (by omega), if_pos (by omega), if_neg (fun e => h ((cmp (by omega) (by omega)).1 e)), w1 (by omega), w1 (by omega), if_pos (by omega), if_pos (by omega),
              rdL, rdL, rdd, rdd, if_pos (by omega), if_pos (by omega), if_pos (by omega), if_pos (by omega), if_neg (by rw [e2, e3]; omega)]
      · have : (l1.map key).drop j = [] := List.drop_eq_nil_of_le (by omega)
        rw [this, pr_nil']
        refine To.step_trans (h := fun k => cortegeref4_Pairs.j1 k l0 l1 t x (i : Int) (j : Int) false) (fun k => ?_) (To.step fun k => ?_)
        · simp only [cortegeref4_Pairs.l0]
          rw [if_pos (by omega), decide_eq_false (by omega)]
        · simp [cortegeref4_Pairs.j1]
    · have : (l0.map key).drop i = [] := List.drop_eq_nil_of_le (by omega)
      rw [this, pr_nil]
      refine To.step_trans (h := fun k => cortegeref4_Pairs.j1 k l0 l1 t x (i : Int) (j : Int) false) (fun k => ?_) (To.step fun k => ?_)
      · simp only [cortegeref4_Pairs.l0]
        rw [if_neg (by omega)]
      · simp [cortegeref4_Pairs.j1]
end

theorem long_false (l0 l1 : List ByteArray) (hn : l0.length ≤ 400) (hm : l1.length ≤ 400) : cortegeref4_great.f l0 l1 = some false := by
  unfold cortegeref4_great.f
  rw [if_neg (by omega), decide_eq_false (by omega)]
theorem long_true (l0 l1 : List ByteArray) (h : 400 < l0.length ∨ 400 < l1.length) : cortegeref4_great.f l0 l1 = some true := by
  unfold cortegeref4_great.f
  by_cases h0 : (l0.length : Int) > 400
  · rw [if_pos h0]
  · rw [if_neg h0, decide_eq_true (by omega)]

theorem pairs_eq (l0 l1 : List ByteArray) (hn : l0.length ≤ 400) (hm : l1.length ≤ 400) (k : Nat) : cortegeref4_Pairs.f k l0 l1 = (cortegeref4_table.f k l0 l1).bind (fun t => cortegeref4_Pairs.l0 k l0 l1 t ([] : List (S81)) 0 0) := by
  unfold cortegeref4_Pairs.f
  rw [long_false l0 l1 hn hm, Option.bind_some, if_neg Bool.false_ne_true]
theorem pairs (l0 l1 : List ByteArray) (hn : l0.length ≤ 400) (hm : l1.length ≤ 400) : At (fun k => cortegeref4_Pairs.f k l0 l1) (pairsOf l0 l1) := by
  obtain ⟨t, ht, hA⟩ := table l0 l1 (by omega) (by omega)
  refine (To.eq (pairs_eq l0 l1 hn hm)).trans (hA.bind_at (F := fun k t => cortegeref4_Pairs.l0 k l0 l1 t ([] : List (S81)) 0 0) ?_)
  have := pairs_to l0 l1 (by omega) (by omega) ht _ 0 0 [] (by omega) (by omega) rfl (by simp)
  rw [List.nil_append, List.drop_zero, List.drop_zero] at this
  exact this
theorem placed (n : Nat) : ∀ (ps : List (Nat × Nat)) (acc : List Int), acc.length = n → Three.Rising ps → (∀ x ∈ ps, x.1 < n) →
    (ps.foldl (fun (acc : List Int) p => acc.set p.1 (p.2 : Int)) acc).length = n ∧ ∀ k, k < n → (ps.foldl (fun (acc : List Int) p => acc.set p.1 (p.2 : Int)) acc).getD k 0 = match ps.lookup k with | some v => (v : Int) | none => acc.getD k 0
  | [], acc, hl, _, _ => ⟨hl, fun k _ => rfl⟩
  | (k0, v0) :: ps, acc, hl, hr, hb => by
    rw [List.foldl_cons]
    have h0 : k0 < n := hb (k0, v0) (List.mem_cons_self ..)
    obtain ⟨h1, h2⟩ := placed n ps (acc.set k0 (v0 : Int)) (by simpa using hl) hr.tail (fun x hx => hb x (List.mem_cons_of_mem _ hx))
    refine ⟨h1, fun k hk => ?_⟩
    rw [h2 k hk]
    by_cases e : k0 = k
    · subst e
      rw [Three.lookup_eq, Three.lookup_none (fun y hy => by have := hr.head y hy; simp at this; omega)]
      simp only
      rw [getD_setI _ _ _ (by omega), if_pos rfl]
    · rw [Three.lookup_ne (by simpa using e)]
      cases ps.lookup k with
      | some v => rfl
      | none =>
        simp only
        rw [getD_setI _ _ _ (by omega), if_neg (fun h => e h.symm)]
/-- The places, as a list. -/
def plList (l0 l1 : List ByteArray) : List Int := (List.range l0.length).map (Three.plOf l0 l1)
theorem plList_getD (l0 l1 : List ByteArray) (k : Nat) (h : k < l0.length) : (plList l0 l1).getD k 0 = Three.plOf l0 l1 k := by
  unfold plList
  simp [List.getD_eq_getElem?_getD, h]
theorem plList_length (l0 l1 : List ByteArray) : (plList l0 l1).length = l0.length := by simp [plList]
theorem list_ext_getD {n : Nat} {a b : List Int} (ha : a.length = n) (hb : b.length = n) (h : ∀ k, k < n → a.getD k 0 = b.getD k 0) : a = b := by
  apply List.ext_getElem (by omega)
  intro i h1 h2
  have := h i (by omega)
  simpa [List.getD_eq_getElem?_getD, h1, h2] using this
theorem placed_list (l0 l1 : List ByteArray) : (Lcs.pr l0 l1 0 0).foldl (fun (acc : List Int) p => acc.set p.1 (p.2 : Int)) (List.replicate l0.length (-1)) = plList l0 l1 := by
  have hm : ∀ x ∈ Lcs.pr l0 l1 0 0, x.1 < l0.length := fun x hx => by
    obtain ⟨_, _, y, hy, _⟩ := Three.good_mem (Three.pr_ok l0 l1) x hx
    exact (List.getElem?_eq_some_iff.1 hy).1
  obtain ⟨h1, h2⟩ := placed l0.length (Lcs.pr l0 l1 0 0) (List.replicate l0.length (-1)) (by simp) (Three.good_rising (Three.pr_ok l0 l1)) hm
  refine list_ext_getD h1 (plList_length l0 l1) fun k hk => ?_
  rw [h2 k hk, plList_getD l0 l1 k hk]
  unfold Three.plOf
  cases (Lcs.pr l0 l1 0 0).lookup k with
  | some v => rfl
  | none => simp [List.getD_eq_getElem?_getD, hk]
theorem places_l1 (t : List (S81)) (ps : List (Nat × Nat)) (ht : t = ps.map fun p => ⟨(p.1 : Int), (p.2 : Int)⟩) (hl : t.length ≤ 1000000) (n : Nat) (hb : ∀ x ∈ ps, x.1 < n) : ∀ (d i : Nat) (acc : List Int), i + d = t.length → acc.length = n →
    At (fun k => cortegeref5_places.l1 k acc t (i : Int)) ((ps.drop i).foldl (fun (acc : List Int) p => acc.set p.1 (p.2 : Int)) acc)
  | 0, i, acc, hi, ha => by
    rw [List.drop_eq_nil_of_le (by rw [ht, List.length_map] at hi; omega)]
    refine To.step fun k => ?_
    simp only [cortegeref5_places.l1]
    rw [if_neg (by omega)]
    exact rfl
  | d + 1, i, acc, hi, ha => by
    have hip : i < ps.length := by rw [ht, List.length_map] at hi; omega
    have hx := hb _ (List.getElem_mem hip)
    have hd := List.drop_eq_getElem_cons hip
    have hrd : rd_T81 t (i : Int) = ⟨(ps[i].1 : Int), (ps[i].2 : Int)⟩ := by
      subst ht
      simp [rd_T81, List.getD_eq_getElem?_getD, hip]
    rw [hd, List.foldl_cons]
    refine To.step_trans (fun k => ?_) (places_l1 t ps ht hl n hb d (i + 1) (acc.set ps[i].1 (ps[i].2 : Int)) (by omega) (by simpa using ha))
    simp only [cortegeref5_places.l1]
    rw [if_pos (by omega), if_pos (by omega), hrd]
    simp only
    rw [if_pos (by omega), if_pos (by omega), Int.toNat_natCast, w1 (by omega)]
theorem places_l0 (l0 l1 : List ByteArray) (h0 : l0.length ≤ 400) (h1 : l1.length ≤ 400) : ∀ (d i : Nat), i + d = l0.length →
    At (fun k => cortegeref5_places.l0 k l0 l1 (List.replicate i (-1) ++ List.replicate d 0) (i : Int)) (plList l0 l1)
  | 0, i, hi => by
    have hp := pairs l0 l1 h0 h1
    refine To.step_trans (h := fun k => (cortegeref4_Pairs.f k l0 l1).bind fun t141 => (cortegeref5_places.l1 k (List.replicate i (-1) ++ List.replicate 0 0) t141 0)) (fun k => ?_) ?_
    · simp only [cortegeref5_places.l0]
      rw [if_neg (by simp <;> omega)]
    refine hp.bind_at (F := fun k t => cortegeref5_places.l1 k (List.replicate i (-1) ++ List.replicate 0 0) t 0) ?_
    rw [← placed_list l0 l1]
    have hm : ∀ x ∈ Lcs.pr l0 l1 0 0, x.1 < l0.length := fun x hx => by
      obtain ⟨_, _, y, hy, _⟩ := Three.good_mem (Three.pr_ok l0 l1) x hx
      exact (List.getElem?_eq_some_iff.1 hy).1
    have hpl := ThreeString.pairs_plain l0 l1
    have hle : (pairsOf l0 l1).length ≤ 1000000 := by
      have := Lcs.L_le_left l0 l1; have := Lcs.pr_length l0 l1 0 0
      rw [hpl, List.length_map]
      omega
    have := places_l1 (pairsOf l0 l1) (Lcs.pr l0 l1 0 0) hpl hle l0.length hm (pairsOf l0 l1).length 0 (List.replicate i (-1) ++ List.replicate 0 0) (by omega) (by simp; omega)
    rw [List.drop_zero] at this
    have he : l0.length = i := by omega
    rw [he]
    simpa using this
  | d + 1, i, hi => by
    have := places_l0 l0 l1 h0 h1 d (i + 1) (by omega)
    refine To.step_trans (fun k => ?_) this
    simp only [cortegeref5_places.l0]
    rw [if_pos (by simp; omega), if_pos (by omega), Int.toNat_natCast, w1 (by omega)]
    congr 1
    rw [List.set_append_right _ _ (by simp), List.length_replicate, Nat.sub_self, List.replicate_succ, List.set_cons_zero, List.replicate_succ', List.append_assoc]
    rfl
theorem places (l0 l1 : List ByteArray) (h0 : l0.length ≤ 400) (h1 : l1.length ≤ 400) : At (fun k => cortegeref5_places.f k l0 l1) (plList l0 l1) := by
  refine (To.eq fun k => ?_).trans (places_l0 l0 l1 h0 h1 l0.length 0 (by omega))
  unfold cortegeref5_places.f
  rw [if_pos (by omega), if_pos (by omega), Int.toNat_natCast]
  rfl
end Go.Proofs.Ythghpmnbnfbheaa.RefRun
