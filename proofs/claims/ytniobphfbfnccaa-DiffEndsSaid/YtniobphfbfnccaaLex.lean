/-
  A long region that draws its order and only reads: the text's order serves every order. The check goes over numbers alone.
-/
import Derived.Test.YtniobphfbfnccaaWTab
import Derived.BigQuiet
namespace Go.Proofs.Ytniobphfbfnccaa.Lex
open Go.Proofs.YtniobphfbfnccaaW.PrintLast

/-- What an operation writes, what it looks at, what it waits for. -/
abbrev En := Option Nat × List Nat × List Nat
def apartN (x y : En) : Bool :=
  (match x.1 with
   | some d => !y.2.1.contains d && y.1 != some d
   | none => true) &&
  (match y.1 with
   | some d => !x.2.1.contains d
   | none => true)
def lexL : Nat → List En → Bool
  | _, [] => true
  | k, e :: r => e.2.2.all (fun p => decide (p < k)) && r.all (fun f => f.2.2.contains k || apartN e f) && lexL (k + 1) r
def enOf (ops : Array Oper) (o : Oper) : En := (o.dst, o.looksAt ops, needsOf .any o)
theorem apart_eq (ops : Array Oper) (x y : Oper) : x.apart ops y = apartN (enOf ops x) (enOf ops y) := rfl
theorem lexL_drop : ∀ (k : Nat) (NT : List En) (m : Nat), lexL m NT = true → lexL (m + k) (NT.drop k) = true
  | 0, NT, m, h => by simpa using h
  | k + 1, [], m, h => by simp [lexL]
  | k + 1, e :: r, m, h => by
    simp only [lexL, Bool.and_eq_true] at h
    have := lexL_drop k r (m + 1) h.2
    rw [List.drop_succ_cons, show m + (k + 1) = m + 1 + k by omega]
    exact this
theorem lexFrom_of {ops : Array Oper} (hL : lexL 0 (ops.toList.map (enOf ops)) = true) : ∀ (fuel k : Nat) (listed : Array Bool), fuel + k = ops.size → listed.size = ops.size → (∀ j, j < ops.size → listed[j]? = some (decide (j < k))) →
    Region.lexFrom .any ops fuel k listed = true
  | 0, k, listed, hk, hs, hl => by
    rw [Region.lexFrom, List.isEmpty_iff]
    unfold Region.ready
    rw [List.filter_eq_nil_iff]
    intro i hi
    have hi' := List.mem_range.1 hi
    have : listed.getD i true = true := by
      rw [Array.getD_eq_getD_getElem?, hl i hi']
      simp; omega
    simp [this]
  | fuel + 1, k, listed, hk, hs, hl => by
    have hkn : k < ops.size := by omega
    have hd := lexL_drop k _ 0 hL
    have hck : (ops.toList.map (enOf ops)).drop k = enOf ops ops[k] :: (ops.toList.map (enOf ops)).drop (k + 1) := by
      rw [List.drop_eq_getElem_cons (by simpa using hkn)]
      simp
    rw [hck, Nat.zero_add] at hd
    simp only [lexL, Bool.and_eq_true] at hd
    obtain ⟨⟨h1, h2⟩, _⟩ := hd
    have hok : ops[k]? = some ops[k] := Array.getElem?_eq_getElem hkn
    rw [Region.lexFrom, Bool.and_eq_true, Bool.and_eq_true]
    refine ⟨⟨?_, ?_⟩, ?_⟩
    · rw [List.contains_iff_mem]
      unfold Region.ready
      rw [List.mem_filter, List.mem_range]
      refine ⟨hkn, ?_⟩
      have e1 : listed.getD k true = false := by rw [Array.getD_eq_getD_getElem?, hl k hkn]; simp
      rw [e1, hok]
      simp only [Bool.not_false, Bool.true_and, Option.map_some, Option.getD_some]
      rw [needs_all ops[k] (fun p => listed.getD p false)]
      rw [List.all_eq_true] at h1 ⊢
      intro p hp
      have := of_decide_eq_true (h1 p hp)
      rw [Array.getD_eq_getD_getElem?, hl p (by omega)]
      simpa using this
    · unfold Region.free
      rw [hok]
      simp only
      rw [List.all_eq_true]
      intro j hj
      have hj' := List.mem_range.1 hj
      by_cases hjk : j < k
      · have : listed.getD j true = true := by rw [Array.getD_eq_getD_getElem?, hl j hj']; simpa using hjk
        simp [this]
      · by_cases hje : j = k
        · subst hje; simp
        · have hoj : ops[j]? = some ops[j] := Array.getElem?_eq_getElem hj'
          rw [hoj]
          simp only
          rw [List.all_eq_true] at h2
          have hm : enOf ops ops[j] ∈ (ops.toList.map (enOf ops)).drop (k + 1) := by
            rw [List.mem_iff_getElem]
            refine ⟨j - (k + 1), by simp; omega, ?_⟩
            simp only [List.getElem_drop, List.getElem_map, Array.getElem_toList]
            congr 2
            omega
          have h3 := h2 _ hm
          rw [Bool.or_eq_true] at h3
          rw [Bool.or_eq_true]
          right
          rw [needs_any ops[j] (fun p => p == k), apart_eq, Bool.or_eq_true]
          rcases h3 with h3 | h3
          · left
            rw [List.any_eq_true]
            exact ⟨k, List.contains_iff_mem.1 h3, by simp⟩
          · right; exact h3
    · refine lexFrom_of hL fuel (k + 1) _ (by omega) (by simpa using hs) fun j hj => ?_
      by_cases e : j = k
      · subst e
        simp [hs, hj]
      · rw [Array.getElem?_setIfInBounds_ne (fun h => e h.symm), hl j hj]
        congr 1
        exact decide_eq_decide.2 (by omega)
theorem lexB_of {l : List Oper} (NT : List En) (hN : l.map (enOf l.toArray) = NT) (hL : lexL 0 NT = true) (hs : Region.noSelect l.toArray = true) : Region.lexB .any l.toArray = true := by
  unfold Region.lexB
  rw [hs, Bool.true_and]
  refine lexFrom_of (by simpa [hN] using hL) _ 0 _ (by simp) (by simp) fun j hj => ?_
  rw [Array.getElem?_replicate, if_pos hj]
  simp
end Go.Proofs.Ytniobphfbfnccaa.Lex
