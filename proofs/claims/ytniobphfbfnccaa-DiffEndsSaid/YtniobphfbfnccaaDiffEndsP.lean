/-
  What both begin with, and end with, counts in full: plain Lean over the printed functions.
-/
import Derived.Test.YtniobphfbfnccaaDiffTellsP
namespace Go.Proofs.Ytniobphfbfnccaa.Ends
open Go.RowKit Go.IntWalk Go.Proofs.Ytniobphfbfnccaa.PRef Go.Proofs.YtniobphfbfnccaaW.PrintWords Go.Proofs.YtniobphfbfnccaaW.PrintLast Go.Proofs.YtniobphfbfnccaaW.PrintMore Go.Proofs.Ytniobphfbfnccaa.Lcs Go.Proofs.Ytniobphfbfnccaa.DiffCommon

theorem key_inj {x y : ByteArray} (h : Runstring.key x = Runstring.key y) : x = y := bytes_ext h
/-- The i-th pair. -/
def At2 (X Y : List ByteArray) (h : Nat) (l : List (Nat × Nat)) (i : Nat) (hi : i < l.length) : Prop :=
  (∃ (hu : l[i].1 < X.length) (hv : l[i].2 < Y.length), X[l[i].1] = Y[l[i].2]) ∧ (i < h → l[i] = (i, i)) ∧ (∀ j (hj : j < l.length), j + 1 = i → l[j].1 < l[i].1 ∧ l[j].2 < l[i].2)
theorem good_get {β : Type} {A B : List β} : ∀ {i j : Nat} {l : List (Nat × Nat)}, Lcs.Good A B i j l → ∀ k (hk : k < l.length), ∃ y, A[l[k].1]? = some y ∧ B[l[k].2]? = some y := by
  intro i j l
  induction l generalizing i j with
  | nil => intro _ k hk; simp at hk
  | cons x r ih =>
    obtain ⟨p, q⟩ := x
    rintro ⟨h1, h2, ⟨y, h3, h4⟩, h5⟩ k hk
    cases k with
    | zero => exact ⟨y, h3, h4⟩
    | succ k => exact ih h5 k (by simpa using hk)
theorem facts (a b hd tl X Y : List ByteArray) (hX : X = hd ++ a ++ tl) (hY : Y = hd ++ b ++ tl) (ha : a.length ≤ 20) (hb : b.length ≤ 20) (hh : hd.length ≤ 20) (ht : tl.length ≤ 20) :
    ∃ (l : List (Nat × Nat)) (n m : Nat) (k1 k2 k3 : Nat), diff_Length_string.f k1 X Y = some (n : Int) ∧ diff_Length_string.f k2 a b = some (m : Int) ∧ diff_Pairs_string.f k3 X Y = some (l.map RefRun.pt) ∧
      n = hd.length + m + tl.length ∧ l.length = n ∧ n ≤ 60 ∧ X.length ≤ 60 ∧ Y.length ≤ 60 ∧ ∀ i (hi : i < l.length), At2 X Y hd.length l i hi := by
  have hXl : X.length ≤ 60 := by rw [hX]; simp; omega
  have hYl : Y.length ≤ 60 := by rw [hY]; simp; omega
  obtain ⟨k1, h1⟩ := (Runstring.length X Y (by omega) (by omega)).rounds
  obtain ⟨k2, h2⟩ := (Runstring.length a b (by omega) (by omega)).rounds
  obtain ⟨k3, h3⟩ := (Runstring.pairs X Y (by omega) (by omega)).rounds
  have hm : L (X.map Runstring.key) (Y.map Runstring.key) = hd.length + L (a.map Runstring.key) (b.map Runstring.key) + tl.length := by
    rw [hX, hY]
    simp only [List.map_append]
    rw [L_tail, L_head]
    simp
  have hpl := pr_length (X.map Runstring.key) (Y.map Runstring.key) 0 0
  have hle := L_le_left (X.map Runstring.key) (Y.map Runstring.key)
  rw [List.length_map] at hle
  have hg : Lcs.Good (X.map Runstring.key) (Y.map Runstring.key) 0 0 (pr (X.map Runstring.key) (Y.map Runstring.key) 0 0) := pr_good (X.map Runstring.key) (Y.map Runstring.key) _ _ 0 0 (List.drop_zero ..) (List.drop_zero ..)
  have hf := Runstring.good_facts hg
  have hpr : pr (X.map Runstring.key) (Y.map Runstring.key) 0 0 = (List.range hd.length).map (fun n => (n, n)) ++ pr ((a ++ tl).map Runstring.key) ((b ++ tl).map Runstring.key) hd.length hd.length := by
    rw [hX, hY]
    simp only [List.append_assoc, List.map_append]
    rw [pr_head]
    simp
  refine ⟨pr (X.map Runstring.key) (Y.map Runstring.key) 0 0, L (X.map Runstring.key) (Y.map Runstring.key), L (a.map Runstring.key) (b.map Runstring.key), k1, k2, k3, h1, h2, h3, hm, hpl, by omega, hXl, hYl, fun i hi => ⟨?_, ?_, ?_⟩⟩
  · obtain ⟨y, e1, e2⟩ := good_get hg i hi
    have hb := hf.1 _ (List.getElem_mem hi)
    simp only [List.length_map] at hb
    refine ⟨hb.1, hb.2, key_inj ?_⟩
    rw [List.getElem?_map, List.getElem?_eq_getElem hb.1] at e1
    rw [List.getElem?_map, List.getElem?_eq_getElem hb.2] at e2
    exact (Option.some.inj e1).trans (Option.some.inj e2).symm
  · intro hlt
    have : (pr (X.map Runstring.key) (Y.map Runstring.key) 0 0)[i]? = some (i, i) := by
      rw [hpr, List.getElem?_append_left (by simpa using hlt)]
      simp [hlt]
    rw [List.getElem?_eq_getElem hi] at this
    exact Option.some.inj this
  · intro j hj e
    exact (List.pairwise_iff_getElem.1 hf.2.1) j i hj hi (by omega)
/-- The i-th pair, as the law wants it. -/
def Pair (X Y : List ByteArray) (h : Nat) (P : List S50) (i : Nat) (hi : i < P.length) : Prop :=
  ∃ u v : Nat, P[i] = ⟨(u : Int), (v : Int)⟩ ∧ (∃ (hu : u < X.length) (hv : v < Y.length), X[u] = Y[v]) ∧ (i < h → u = i ∧ v = i) ∧ (∀ j (hj : j < P.length), j + 1 = i → ∃ u' v' : Nat, P[j] = ⟨(u' : Int), (v' : Int)⟩ ∧ u' < u ∧ v' < v)
theorem facts2 (a b hd tl X Y : List ByteArray) (hX : X = hd ++ a ++ tl) (hY : Y = hd ++ b ++ tl) (ha : a.length ≤ 20) (hb : b.length ≤ 20) (hh : hd.length ≤ 20) (ht : tl.length ≤ 20) :
    ∃ (P : List S50) (m : Nat) (k1 k2 k3 : Nat), diff_Length_string.f k1 X Y = some (P.length : Int) ∧ diff_Length_string.f k2 a b = some (m : Int) ∧ diff_Pairs_string.f k3 X Y = some P ∧
      P.length = hd.length + m + tl.length ∧ P.length ≤ 60 ∧ X.length ≤ 60 ∧ Y.length ≤ 60 ∧ ∀ i (hi : i < P.length), Pair X Y hd.length P i hi := by
  obtain ⟨l, n, m, k1, k2, k3, f1, f2, f3, hn, hln, hn60, hX60, hY60, hat⟩ := facts a b hd tl X Y hX hY ha hb hh ht
  have hpl : (l.map RefRun.pt).length = n := by simpa using hln
  refine ⟨l.map RefRun.pt, m, k1, k2, k3, by rw [hpl]; exact f1, f2, f3, by omega, by omega, hX60, hY60, fun i hi => ?_⟩
  have hil : i < l.length := by simpa using hi
  obtain ⟨h1, h2, h3⟩ := hat i hil
  refine ⟨l[i].1, l[i].2, by simp [RefRun.pt], h1, fun h => ?_, fun j hj e => ?_⟩
  · rw [h2 h]; exact ⟨rfl, rfl⟩
  · have hjl : j < l.length := by simpa using hj
    have := h3 j hjl e
    exact ⟨l[j].1, l[j].2, by simp [RefRun.pt], this⟩
end Go.Proofs.Ytniobphfbfnccaa.Ends
