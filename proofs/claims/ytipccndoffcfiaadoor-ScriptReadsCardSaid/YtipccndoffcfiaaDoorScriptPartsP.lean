/- The plain law of ScriptParts: what stands behind a line that is refused does not count. -/
import Derived.Test.YtipccndoffcfiaaDoorScriptParse
namespace Go.Proofs.YtipccndoffcfiaaDoor.Script
open Go.RowKit Go.Proofs.YtipccndoffcfiaaDoor.PRef
/-- A text's first line and the rest, over bytes. -/
def oneL : List UInt8 → List UInt8
  | [] => []
  | b :: l => if b = 10 then [] else b :: oneL l
def restL : List UInt8 → List UInt8
  | [] => []
  | b :: l => if b = 10 then l else restL l
theorem index10 : ∀ l : List UInt8, (Lib.index l [10] = -1 ∧ oneL l = l ∧ restL l = [] ∧ 10 ∉ l) ∨ (∃ i : Nat, Lib.index l [10] = i ∧ l.take i = oneL l ∧ l.drop (i + 1) = restL l ∧ 10 ∈ l)
  | [] => .inl ⟨by simp [Lib.index], rfl, rfl, by simp⟩
  | b :: l => by
    by_cases hb : b = 10
    · subst hb
      refine .inr ⟨0, ?_, by simp [oneL], by simp [restL], by simp⟩
      rw [Lib.index]; simp [List.isPrefixOf]
    · have hp : ([10] : List UInt8).isPrefixOf (b :: l) = false := by simp [List.isPrefixOf, Ne.symm hb]
      have hix : Lib.index (b :: l) [10] = if Lib.index l [10] == -1 then -1 else Lib.index l [10] + 1 := by rw [Lib.index, hp]; simp
      rcases index10 l with ⟨h1, h2, h3, h4⟩ | ⟨i, h1, h2, h3, h4⟩
      · refine .inl ⟨by rw [hix, h1]; rfl, by rw [oneL, if_neg hb, h2], by rw [restL, if_neg hb, h3], by simp [h4, Ne.symm hb]⟩
      · refine .inr ⟨i + 1, ?_, by rw [oneL, if_neg hb, List.take_succ_cons, h2], by rw [restL, if_neg hb, List.drop_succ_cons, h3], by simp [h4]⟩
        rw [hix, h1]
        have : ((i : Int) == -1) = false := by rw [beq_eq_false_iff_ne]; omega
        simp [this]
theorem one_eq (s : ByteArray) : one s = ⟨(oneL s.data.toList).toArray⟩ := by
  unfold one Lib.cut
  rcases index10 s.data.toList with ⟨h1, h2, _⟩ | ⟨i, h1, h2, _⟩
  · rw [h1, if_neg (by decide), h2]
  · rw [h1, if_pos (by omega), Int.toNat_natCast]
    simp only [h2]
theorem rest_eq (s : ByteArray) : rest s = ⟨(restL s.data.toList).toArray⟩ := by
  unfold rest Lib.cut
  rcases index10 s.data.toList with ⟨h1, _, h2, _⟩ | ⟨i, h1, _, h2, _⟩
  · rw [h1, if_neg (by decide), h2]
  · rw [h1, if_pos (by omega), Int.toNat_natCast]
    simp only [List.length_singleton, h2]
/-- Text with more behind it. -/
def more (l t : List UInt8) : List UInt8 := l ++ 10 :: t
theorem oneL_more (l t : List UInt8) : oneL (more l t) = oneL l := by
  induction l with
  | nil => simp [more, oneL]
  | cons b l ih =>
    simp only [more, List.cons_append] at ih ⊢
    by_cases hb : b = 10
    · simp [oneL, hb]
    · simp [oneL, hb, ih]
theorem restL_more (l t : List UInt8) (h : 10 ∈ l) : restL (more l t) = more (restL l) t := by
  induction l with
  | nil => simp at h
  | cons b l ih =>
    simp only [more, List.cons_append] at ih ⊢
    by_cases hb : b = 10
    · simp [restL, hb]
    · simp only [restL, if_neg hb]
      exact ih (by simpa [Ne.symm hb] using h)
theorem restL_none (l : List UInt8) (h : 10 ∉ l) : restL l = [] := by
  rcases index10 l with ⟨_, _, h3, _⟩ | ⟨_, _, _, _, h4⟩
  · exact h3
  · exact absurd h4 h
def B (l : List UInt8) : ByteArray := ⟨l.toArray⟩
theorem B_nil {l : List UInt8} : B l = ⟨#[]⟩ ↔ l = [] := by
  unfold B
  constructor
  · intro h
    have := congrArg (fun x : ByteArray => x.data.toList) h
    simpa using this
  · rintro rfl; rfl
theorem one_B (l : List UInt8) : one (B l) = B (oneL l) := by rw [one_eq]; rfl
theorem rest_B (l : List UInt8) : rest (B l) = B (restL l) := by rw [rest_eq]; rfl
theorem B_size (l : List UInt8) : (B l).size = l.length := by unfold B; simp [ByteArray.size]
theorem restL_len (l : List UInt8) (h : l ≠ []) : (restL l).length < l.length := by
  have := rest_size (B l) (fun e => h (B_nil.1 e))
  rwa [rest_B, B_size, B_size] at this
/-- Either all is well, or a line is refused. -/
theorem runP_ends (k : Nat) : ∀ (cs : List Int) (es : List S47) (n : Nat) (s : ByteArray), (∃ cs' es', runP k cs es n s = (cs', es', 0, 0)) ∨ ∃ m, n ≤ m ∧ m ≤ n + k ∧ runP k cs es n s = ([0, 0, 0, 0, 0], [], m, 10) := by
  induction k with
  | zero => intro cs es n s; exact .inr ⟨n, Nat.le_refl _, Nat.le_refl _, rfl⟩
  | succ k ih =>
    intro cs es n s
    by_cases hs : s = ⟨#[]⟩
    · subst hs; exact .inl ⟨cs, es, runP_nil ..⟩
    · cases hw : wordsP cs es (words (one s)) with
      | none => exact .inr ⟨n, Nat.le_refl _, by omega, runP_bad hs hw⟩
      | some r =>
        rw [runP_good hs hw]
        rcases ih r.1 r.2 (n + 1) (rest s) with h | ⟨m, h1, h2, h3⟩
        · exact .inl h
        · exact .inr ⟨m, by omega, by omega, h3⟩
/-- What is refused is refused with more behind it. -/
theorem runP_more (k : Nat) : ∀ (k' : Nat) (cs : List Int) (es : List S47) (n m : Nat) (l t : List UInt8), l.length < k → (more l t).length < k' → runP k cs es n (B l) = ([0, 0, 0, 0, 0], [], m, 10) →
    runP k' cs es n (B (more l t)) = ([0, 0, 0, 0, 0], [], m, 10) := by
  induction k with
  | zero => intro k' cs es n m l t h; exact absurd h (Nat.not_lt_zero _)
  | succ k ih =>
    intro k' cs es n m l t hl hk h
    match k', hk with
    | k' + 1, hk =>
    have hs : ¬ B l = ⟨#[]⟩ := fun e => by
      rw [e, runP_nil] at h
      have := congrArg (fun x => x.2.2.2) h
      simp at this
    have hne : l ≠ [] := fun e => hs (B_nil.2 e)
    have hs' : ¬ B (more l t) = ⟨#[]⟩ := fun e => by
      have := B_nil.1 e
      simp [more] at this
    have ho : one (B (more l t)) = one (B l) := by rw [one_B, one_B, oneL_more]
    cases hw : wordsP cs es (words (one (B l))) with
    | none =>
      rw [runP_bad hs hw] at h
      rw [runP_bad hs' (by rw [ho]; exact hw), h]
    | some r =>
      rw [runP_good hs hw, rest_B] at h
      rw [runP_good hs' (by rw [ho]; exact hw), rest_B]
      by_cases h10 : 10 ∈ l
      · rw [restL_more l t h10]
        have hlt := restL_len l hne
        refine ih k' _ _ _ _ _ _ (by omega) ?_ h
        have e : (more (restL l) t).length = (restL l).length + (t.length + 1) := by simp [more]
        have e2 : (more l t).length = l.length + (t.length + 1) := by simp [more]
        omega
      · rw [restL_none l h10] at h
        match k, hl with
        | k + 1, _ =>
          rw [show B [] = ⟨#[]⟩ from rfl, runP_nil] at h
          have := congrArg (fun x => x.2.2.2) h
          simp at this
        | 0, hl => exact absurd (List.length_eq_zero_iff.1 (by omega)) hne
/-- What ScriptParts holds to be so. -/
theorem parts_plain (s t : ByteArray) (hs : s.size ≤ 10000) (ht : t.size ≤ 10000) :
    (∃ cs es, parseP s = (cs, es, 0, 0) ∧ ((∃ cs' es', parseP (s ++ ⟨#[10]⟩ ++ t) = (cs', es', 0, 0)) ∨ ∃ m, 1 ≤ m ∧ m ≤ 100000 ∧ parseP (s ++ ⟨#[10]⟩ ++ t) = ([0, 0, 0, 0, 0], [], m, 10))) ∨
    (∃ m, 1 ≤ m ∧ m ≤ 100000 ∧ parseP s = ([0, 0, 0, 0, 0], [], m, 10) ∧ parseP (s ++ ⟨#[10]⟩ ++ t) = ([0, 0, 0, 0, 0], [], m, 10)) := by
  have e : s ++ ⟨#[10]⟩ ++ t = B (more s.data.toList t.data.toList) := by
    apply ByteArray.ext
    apply Array.ext'
    simp [B, more]
  have es : s = B s.data.toList := by
    apply ByteArray.ext
    simp [B]
  have hl := size_toList s
  have hl2 := size_toList t
  have hz : (more s.data.toList t.data.toList).length = s.size + (t.size + 1) := by rw [more, List.length_append, List.length_cons, hl, hl2]
  rw [e]
  unfold parseP
  rw [if_neg (by omega), if_neg (by rw [B_size]; omega), B_size, hz]
  rcases runP_ends (s.size + 1) [0, 0, 0, 0, 0] [] 1 s with ⟨cs', es', h⟩ | ⟨m, h1, h2, h3⟩
  · refine .inl ⟨cs', es', h, ?_⟩
    rcases runP_ends (s.size + (t.size + 1) + 1) [0, 0, 0, 0, 0] [] 1 (B (more s.data.toList t.data.toList)) with h | ⟨m, h1, h2, h3⟩
    · exact .inl h
    · exact .inr ⟨m, h1, by omega, h3⟩
  · refine .inr ⟨m, h1, by omega, h3, ?_⟩
    refine runP_more (s.size + 1) _ _ _ _ _ _ _ (by omega) (by omega) ?_
    rw [← es]
    exact h3
end Go.Proofs.YtipccndoffcfiaaDoor.Script
