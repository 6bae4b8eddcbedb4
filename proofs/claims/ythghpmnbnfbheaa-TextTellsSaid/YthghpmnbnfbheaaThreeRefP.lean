/-
  The document's own pieces, plainly: three.Parts' pieces, told from place to place.
-/
import Derived.Test.YthghpmnbnfbheaaThreePlain
namespace Go.Proofs.Ythghpmnbnfbheaa.Three
set_option linter.unusedSectionVars false
open Go.Proofs.Ythghpmnbnfbheaa.Lcs
section
variable {β : Type}
def addP (p : Pl) (n : Nat) : Pl := (p.1 + n, p.2.1 + n, p.2.2 + n)
theorem addP_zero (p : Pl) : addP p 0 = p := rfl
theorem nx_addP (p : Pl) (n : Nat) : nx (addP p n) = addP p (n + 1) := rfl
/-- How many places follow, one behind the other, from p on. -/
def run : Pl → List Pl → Nat
  | _, [] => 0
  | p, x :: xs => if x = p then run (nx p) xs + 1 else 0
/-- The fast piece between two places. -/
def fastP (o a b : List β) (p q : Pl) : Pc β := ⟨false, cut o p.1 q.1, cut a p.2.1 q.2.1, cut b p.2.2 q.2.2⟩
theorem fast_self (o a b : List β) (p : Pl) : fast o a b p p = [] := by unfold fast; rw [if_neg (Nat.lt_irrefl _)]
theorem fast_lt (o a b : List β) {p q : Pl} (h : p.1 < q.1) : fast o a b p q = [fastP o a b p q] := by unfold fast fastP; rw [if_pos h]
variable [DecidableEq β]
def endP (o a b : List β) : Pl := (o.length, a.length, b.length)
/-- The pieces from a place on. -/
def refR (o a b : List β) (ps : List Pl) (at_ : Pl) : List (Pc β) := partsGo o a b (ps ++ [endP o a b]) at_ at_
theorem refR_start (o a b : List β) : refR o a b (stand o a b) (0, 0, 0) = parts o a b := rfl
theorem refR_nil (o a b : List β) (at_ : Pl) : refR o a b [] at_ = if endP o a b = at_ then [] else [loose o a b at_ (endP o a b)] := by
  unfold refR
  rw [List.nil_append, partsGo]
  split
  · rename_i h
    rw [partsGo]
    subst h
    exact fast_self o a b _
  · rw [fast_self, partsGo]
    show [] ++ _ :: fast o a b (endP o a b) (endP o a b) = _
    rw [fast_self]
    rfl
theorem go_run (o a b : List β) (p : Pl) : ∀ (rest : List Pl) (j : Nat), 0 < j →
    partsGo o a b (rest ++ [endP o a b]) (addP p j) p = fastP o a b p (addP p (j + run (addP p j) rest)) :: refR o a b (rest.drop (run (addP p j) rest)) (addP p (j + run (addP p j) rest))
  | [], j, hj => by
    rw [run, List.drop_nil, Nat.add_zero, refR_nil, List.nil_append, partsGo]
    have hl : p.1 < (addP p j).1 := by simp [addP]; omega
    split
    · rename_i h
      rw [partsGo]
      show fast o a b p (endP o a b) = _
      rw [h, fast_lt o a b hl]
    · rename_i h
      rw [fast_lt o a b hl, partsGo]
      show [_] ++ _ :: fast o a b (endP o a b) (endP o a b) = _
      rw [fast_self]
      rfl
  | x :: xs, j, hj => by
    have hl : p.1 < (addP p j).1 := by simp [addP]; omega
    rw [List.cons_append, partsGo, run]
    split
    · rename_i e
      rw [e, nx_addP, go_run o a b p xs (j + 1) (by omega)]
      rw [show j + 1 + run (addP p (j + 1)) xs = j + (run (addP p (j + 1)) xs + 1) by omega, List.drop_succ_cons]
    · rename_i h
      rw [fast_lt o a b hl, Nat.add_zero, List.drop_zero]
      unfold refR
      rw [show (x :: xs) ++ [endP o a b] = x :: (xs ++ [endP o a b]) from rfl, partsGo.eq_def o a b (x :: (xs ++ [endP o a b])), ]
      simp only
      rw [if_neg h, fast_self]
      rfl
theorem refR_cons (o a b : List β) (p : Pl) (rest : List Pl) (at_ : Pl) : refR o a b (p :: rest) at_ =
    (if p = at_ then [] else [loose o a b at_ p]) ++ fastP o a b p (addP p (1 + run (addP p 1) rest)) :: refR o a b (rest.drop (run (addP p 1) rest)) (addP p (1 + run (addP p 1) rest)) := by
  unfold refR
  rw [List.cons_append, partsGo]
  have h := go_run o a b p rest 1 (by omega)
  split
  · rename_i e
    subst e
    show partsGo o a b (rest ++ [endP o a b]) (addP p 1) p = _
    rw [h]
    rfl
  · rw [fast_self]
    show [] ++ loose o a b at_ p :: partsGo o a b (rest ++ [endP o a b]) (addP p 1) p = _
    rw [h]
    rfl
end
section
variable {β : Type} [DecidableEq β]
/-- The place at k in all three, if there is one. -/
def gAt (o a b : List β) (k : Nat) : Option Pl := ((pr o a 0 0).lookup k).bind fun u => ((pr o b 0 0).lookup k).map fun v => (k, u, v)
def stFrom (o a b : List β) (i : Nat) : List Pl := (List.range' i (o.length - i)).filterMap (gAt o a b)
theorem filterMap_lookup {γ : Type} (f : Nat × Nat → Option γ) (n : Nat) : ∀ (d i : Nat) (l : List (Nat × Nat)), i + d = n → Rising l → (∀ x ∈ l, i ≤ x.1 ∧ x.1 < n) →
    (List.range' i d).filterMap (fun k => (l.lookup k).bind fun v => f (k, v)) = l.filterMap f
  | 0, i, l, hi, hl, hb => by
    cases l with
    | nil => rfl
    | cons x l => have := hb x (List.mem_cons_self ..); omega
  | d + 1, i, l, hi, hl, hb => by
    rw [List.range'_succ, List.filterMap_cons]
    cases l with
    | nil =>
      rw [filterMap_lookup f n d (i + 1) [] (by omega) hl (by simp)]
      rfl
    | cons x l =>
      obtain ⟨k0, v0⟩ := x
      have hx := hb (k0, v0) (List.mem_cons_self ..)
      simp only at hx
      by_cases hk : k0 = i
      · subst hk
        rw [lookup_eq]
        have ht : ∀ k ∈ List.range' (k0 + 1) d, ((fun k => (((k0, v0) :: l).lookup k).bind fun v => f (k, v)) k) = ((fun k => (l.lookup k).bind fun v => f (k, v)) k) := by
          intro k hk
          have := (List.mem_range'_1.1 hk).1
          show (((k0, v0) :: l).lookup k).bind _ = _
          rw [lookup_ne (by simp; omega)]
        rw [filterMap_congr' ht, filterMap_lookup f n d (k0 + 1) l (by omega) hl.tail (fun y hy => ⟨hl.head y hy, (hb y (List.mem_cons_of_mem _ hy)).2⟩), List.filterMap_cons]
        rfl
      · have hn : ((k0, v0) :: l).lookup i = none := lookup_none fun y hy => by
          rcases List.mem_cons.1 hy with rfl | hy
          · exact hk
          · have := hl.head y hy; simp at this; omega
        rw [hn]
        refine filterMap_lookup f n d (i + 1) ((k0, v0) :: l) (by omega) hl (fun y hy => ⟨?_, (hb y hy).2⟩)
        rcases List.mem_cons.1 hy with rfl | hy
        · simp; omega
        · have := hl.head y hy; simp at this; omega
theorem stFrom_zero (o a b : List β) : stFrom o a b 0 = stand o a b := by
  unfold stFrom stand
  refine (filterMap_lookup (fun p : Nat × Nat => ((pr o b 0 0).lookup p.1).map fun k => (p.1, p.2, k)) o.length o.length 0 (pr o a 0 0) (by omega) (good_rising (pr_ok o a)) (fun x hx => ?_))
  obtain ⟨_, _, y, hy, _⟩ := good_mem (pr_ok o a) x hx
  exact ⟨Nat.zero_le _, (List.getElem?_eq_some_iff.1 hy).1⟩
theorem stFrom_end (o a b : List β) {i : Nat} (h : o.length ≤ i) : stFrom o a b i = [] := by
  unfold stFrom
  rw [show o.length - i = 0 by omega]
  rfl
theorem stFrom_step (o a b : List β) {i : Nat} (h : i < o.length) : stFrom o a b i = match gAt o a b i with | some p => p :: stFrom o a b (i + 1) | none => stFrom o a b (i + 1) := by
  unfold stFrom
  rw [show o.length - i = (o.length - (i + 1)) + 1 by omega, List.range'_succ, List.filterMap_cons]
  split <;> simp_all
theorem stFrom_some (o a b : List β) {i : Nat} {p : Pl} (h : i < o.length) (hp : gAt o a b i = some p) : stFrom o a b i = p :: stFrom o a b (i + 1) := by rw [stFrom_step o a b h, hp]
theorem stFrom_none (o a b : List β) {i : Nat} (h : i < o.length) (hp : gAt o a b i = none) : stFrom o a b i = stFrom o a b (i + 1) := by rw [stFrom_step o a b h, hp]
theorem stFrom_skip (o a b : List β) (i : Nat) : ∀ (d : Nat), i + d ≤ o.length → (∀ j, i ≤ j → j < i + d → gAt o a b j = none) → stFrom o a b i = stFrom o a b (i + d)
  | 0, _, _ => rfl
  | d + 1, h, hn => by
    rw [stFrom_skip o a b i d (by omega) (fun j h1 h2 => hn j h1 (by omega)), stFrom_none o a b (by omega) (hn (i + d) (by omega) (by omega))]
    rfl
theorem gAt_fst {o a b : List β} {k : Nat} {p : Pl} (h : gAt o a b k = some p) : p.1 = k := by
  unfold gAt at h
  cases h1 : (pr o a 0 0).lookup k with
  | none => rw [h1] at h; cases h
  | some u =>
    rw [h1] at h
    cases h2 : (pr o b 0 0).lookup k with
    | none => rw [h2] at h; cases h
    | some v =>
      rw [h2] at h
      cases h
      rfl
/-- A run that ends. -/
theorem run_of (o a b : List β) (p : Pl) : ∀ (d j : Nat), p.1 + j + d ≤ o.length → (∀ i, j ≤ i → i < j + d → gAt o a b (p.1 + i) = some (addP p i)) → (p.1 + j + d < o.length → gAt o a b (p.1 + j + d) ≠ some (addP p (j + d))) →
    run (addP p j) (stFrom o a b (p.1 + j)) = d ∧ (stFrom o a b (p.1 + j)).drop d = stFrom o a b (p.1 + j + d)
  | 0, j, h, hg, hn => by
    refine ⟨?_, rfl⟩
    simp only [Nat.add_zero] at hn h
    by_cases hl : p.1 + j < o.length
    · have hne := hn hl
      -- the next place, wherever it stands, is another one
      have key : ∀ (e i : Nat), i + e = o.length → p.1 + j ≤ i → (i = p.1 + j ∨ p.1 + j < i) → run (addP p j) (stFrom o a b i) = 0 := by
        intro e
        induction e with
        | zero => intro i hi _ _; rw [stFrom_end o a b (by omega)]; rfl
        | succ e ih =>
          intro i hi h1 h2
          rw [stFrom_step o a b (by omega)]
          cases hq : gAt o a b i with
          | none => exact ih (i + 1) (by omega) (by omega) (.inr (by omega))
          | some q =>
            have hf := gAt_fst hq
            rw [run, if_neg]
            intro e
            subst e
            simp only [addP] at hf
            have : i = p.1 + j := by omega
            subst this
            exact hne hq
      exact key (o.length - (p.1 + j)) (p.1 + j) (by omega) (Nat.le_refl _) (.inl rfl)
    · rw [stFrom_end o a b (by omega)]; rfl
  | d + 1, j, h, hg, hn => by
    have hj := hg j (Nat.le_refl _) (by omega)
    rw [stFrom_some o a b (by omega) hj, run, if_pos rfl, nx_addP, List.drop_succ_cons]
    obtain ⟨h1, h2⟩ := run_of o a b p d (j + 1) (by omega) (fun i hi hi' => hg i (by omega) (by omega)) (by rw [show p.1 + (j + 1) + d = p.1 + j + (d + 1) by omega, show j + 1 + d = j + (d + 1) by omega]; exact hn)
    rw [show p.1 + j + 1 = p.1 + (j + 1) by omega, h1, h2]
    exact ⟨rfl, by rw [show p.1 + (j + 1) + d = p.1 + j + (d + 1) by omega]⟩
/-- The pieces from a place on, as the document tells them: where nothing stands behind. -/
theorem ref_end (o a b : List β) {at_ : Pl} (h0 : at_.1 ≤ o.length) (hn : ∀ j, at_.1 ≤ j → j < o.length → gAt o a b j = none) :
    refR o a b (stFrom o a b at_.1) at_ = if endP o a b = at_ then [] else [loose o a b at_ (endP o a b)] := by
  rw [stFrom_skip o a b at_.1 (o.length - at_.1) (by omega) (fun j h1 h2 => hn j h1 (by omega)), stFrom_end o a b (by omega), refR_nil]
/-- .. and where something does. -/
theorem ref_next (o a b : List β) {at_ p : Pl} {k n : Nat} (h0 : at_.1 ≤ k) (hk : k < o.length) (hn : ∀ j, at_.1 ≤ j → j < k → gAt o a b j = none) (hp : gAt o a b k = some p)
    (h1 : 1 ≤ n) (hl : k + n ≤ o.length) (hr : ∀ i, 1 ≤ i → i < n → gAt o a b (k + i) = some (addP p i)) (he : k + n < o.length → gAt o a b (k + n) ≠ some (addP p n)) :
    refR o a b (stFrom o a b at_.1) at_ = (if p = at_ then [] else [loose o a b at_ p]) ++ fastP o a b p (addP p n) :: refR o a b (stFrom o a b (addP p n).1) (addP p n) := by
  have hf := gAt_fst hp
  obtain ⟨d, rfl⟩ : ∃ d, k = at_.1 + d := ⟨k - at_.1, by omega⟩
  obtain ⟨m, rfl⟩ : ∃ m, n = 1 + m := ⟨n - 1, by omega⟩
  rw [stFrom_skip o a b at_.1 d (by omega) hn, stFrom_some o a b hk hp, refR_cons]
  obtain ⟨r1, r2⟩ := run_of o a b p m 1 (by omega) (fun i h h' => by rw [hf]; exact hr i h (by omega)) (by rw [hf, show at_.1 + d + 1 + m = at_.1 + d + (1 + m) by omega]; exact he)
  rw [← hf, r1, r2, show (addP p (1 + m)).1 = p.1 + 1 + m by simp [addP]; omega]
def Le3P (p q : Pl) : Prop := p.1 ≤ q.1 ∧ p.2.1 ≤ q.2.1 ∧ p.2.2 ≤ q.2.2
def GoodAt (o a b : List β) (at_ : Pl) : Prop := Good3 o a b at_.1 at_.2.1 at_.2.2 (stFrom o a b at_.1) ∧ Le3P at_ (endP o a b)
theorem goodAt_start (o a b : List β) : GoodAt o a b (0, 0, 0) := ⟨by show Good3 o a b 0 0 0 (stFrom o a b 0); rw [stFrom_zero]; exact stand_good o a b, Nat.zero_le _, Nat.zero_le _, Nat.zero_le _⟩
theorem good_run {o a b : List β} (p : Pl) : ∀ (d j : Nat), GoodAt o a b (addP p j) → p.1 + j + d ≤ o.length → (∀ i, j ≤ i → i < j + d → gAt o a b (p.1 + i) = some (addP p i)) → GoodAt o a b (addP p (j + d))
  | 0, _, hG, _, _ => hG
  | d + 1, j, hG, h, hg => by
    obtain ⟨h1, _⟩ := hG
    have hj := hg j (Nat.le_refl _) (by omega)
    have hs : stFrom o a b (addP p j).1 = addP p j :: stFrom o a b (p.1 + j + 1) := stFrom_some o a b (by show p.1 + j < _; omega) hj
    rw [hs] at h1
    obtain ⟨_, _, _, ⟨x, x1, x2, x3⟩, h5⟩ := h1
    have := good_run p d (j + 1) ⟨h5, (List.getElem?_eq_some_iff.1 x1).1, (List.getElem?_eq_some_iff.1 x2).1, (List.getElem?_eq_some_iff.1 x3).1⟩ (by omega) (fun i hi hi' => hg i (by omega) (by omega))
    rwa [show j + 1 + d = j + (d + 1) by omega] at this
/-- The place that is found lies ahead; so does what is behind its run. -/
theorem good_next {o a b : List β} {at_ p : Pl} {k : Nat} (hG : GoodAt o a b at_) (h0 : at_.1 ≤ k) (hk : k < o.length) (hn : ∀ j, at_.1 ≤ j → j < k → gAt o a b j = none) (hp : gAt o a b k = some p) :
    Le3P at_ p ∧ Le3P (addP p 1) (endP o a b) ∧ p.1 = k ∧ ∀ n, 1 ≤ n → k + n ≤ o.length → (∀ i, 1 ≤ i → i < n → gAt o a b (k + i) = some (addP p i)) → GoodAt o a b (addP p n) := by
  have hf := gAt_fst hp
  obtain ⟨d, rfl⟩ : ∃ d, k = at_.1 + d := ⟨k - at_.1, by omega⟩
  obtain ⟨h1, h2⟩ := hG
  rw [stFrom_skip o a b at_.1 d (by omega) hn, stFrom_some o a b hk hp] at h1
  obtain ⟨g1, g2, g3, ⟨x, x1, x2, x3⟩, g5⟩ := h1
  have l : Le3P (addP p 1) (endP o a b) := ⟨(List.getElem?_eq_some_iff.1 x1).1, (List.getElem?_eq_some_iff.1 x2).1, (List.getElem?_eq_some_iff.1 x3).1⟩
  have g : GoodAt o a b (addP p 1) := ⟨by rw [show (addP p 1).1 = at_.1 + d + 1 by simp [addP, hf]]; rw [← hf]; exact hf ▸ g5, l⟩
  refine ⟨⟨g1, g2, g3⟩, l, hf, fun n hn1 hn2 hr => ?_⟩
  obtain ⟨m, rfl⟩ : ∃ m, n = 1 + m := ⟨n - 1, by omega⟩
  exact good_run p m 1 g (by omega) (fun i hi hi' => by rw [hf]; exact hr i hi (by omega))
/-- An element's place in another list; -1: it has none. -/
def plOf (o a : List β) (k : Nat) : Int := match (pr o a 0 0).lookup k with | some v => (v : Int) | none => -1
theorem gAt_none (o a b : List β) (k : Nat) : gAt o a b k = none ↔ (plOf o a k < 0 ∨ plOf o b k < 0) := by
  unfold gAt plOf
  cases (pr o a 0 0).lookup k <;> cases (pr o b 0 0).lookup k <;> simp <;> omega
theorem gAt_some (o a b : List β) (k u v : Nat) : gAt o a b k = some (k, u, v) ↔ (plOf o a k = u ∧ plOf o b k = v) := by
  unfold gAt plOf
  cases (pr o a 0 0).lookup k <;> cases (pr o b 0 0).lookup k <;> simp <;> omega
/-- From places that are no less than 0 the place in all three. -/
theorem gAt_of (o a b : List β) (k : Nat) (h1 : 0 ≤ plOf o a k) (h2 : 0 ≤ plOf o b k) : ∃ u v : Nat, plOf o a k = u ∧ plOf o b k = v ∧ gAt o a b k = some (k, u, v) := by
  obtain ⟨u, hu⟩ := Int.eq_ofNat_of_zero_le h1
  obtain ⟨v, hv⟩ := Int.eq_ofNat_of_zero_le h2
  exact ⟨u, v, hu, hv, (gAt_some o a b k u v).2 ⟨hu, hv⟩⟩
end
end Go.Proofs.Ythghpmnbnfbheaa.Three
