/- As many lines as are told apart are few, one more are not, whether the last one ends or not: the statement without Go. No condition. -/
import Derived.Test.YtljlibopnfnkeaaLineCommon
import Derived.Lib.IndexAny
namespace Go.Proofs.Ytljlibopnfnkeaa.Pure
open Go.RowKit Go.IntWalk Go.Proofs.Ytljlibopnfnkeaa.PAll Go.Proofs.YtljlibopnfnkeaaW.PrintWords Go.Proofs.YtljlibopnfnkeaaW.PrintLast Go.Proofs.YtljlibopnfnkeaaW.PrintMore Go.Proofs.Ytljlibopnfnkeaa.Rounds Go.Proofs.Ytljlibopnfnkeaa.Lines Go.Proofs.Ytljlibopnfnkeaa.LineCommon

/-- So many lines of one letter. -/
def xs : Nat → List UInt8
  | 0 => []
  | n + 1 => xs n ++ [120, 10]
theorem xs_length (n : Nat) : (xs n).length = 2 * n := by induction n with
  | zero => rfl
  | succ n ih => simp [xs, ih]; omega
theorem xs_zero (n : Nat) : ∀ c ∈ xs n, c = 120 ∨ c = 10 := by induction n with
  | zero => simp [xs]
  | succ n ih =>
    intro c hc
    simp only [xs, List.mem_append, List.mem_cons, List.not_mem_nil, or_false] at hc
    rcases hc with hc | hc | hc
    · exact ih c hc
    · exact .inl hc
    · exact .inr hc
theorem xs_lines (n : Nat) : ∀ r, linesL (xs n ++ r) = List.replicate n [120, 10] ++ linesL r := by
  induction n with
  | zero => intro r; rfl
  | succ n ih =>
    intro r
    rw [xs, List.append_assoc, ih, show ([120, 10] : List UInt8) ++ r = [120] ++ 10 :: r from rfl, linesL_some [120] r (by simp), List.replicate_succ']
    simp
theorem bs_data (l : List UInt8) : (bs l).data.toList = l := by simp [bs]
theorem bs_size (l : List UInt8) : (bs l).size = l.length := by rw [← data_length, bs_data]
theorem lines_bs (l : List UInt8) : (lines (bs l)).length = (linesL l).length := by simp [lines, bs_data]
theorem bs_snoc (l : List UInt8) (c : UInt8) : bs l ++ (⟨#[c]⟩ : ByteArray) = bs (l ++ [c]) := by
  apply ByteArray.ext
  apply Array.ext'
  simp [bs, ByteArray.data_append]
theorem has0 (l : List UInt8) : decide (0 ≤ Go.Lib.indexByte l 0) = l.contains 0 := (Go.Lib.contains_iff_indexByte l 0).symm

/-- What stands behind i rounds. -/
def cont (t : Nat) (e : Bool) (i : Nat) : List UInt8 := if e = true ∨ i < t ∨ t = 0 then xs i else xs (i - 1) ++ [120]
theorem few_end (t : Nat) (e : Bool) (ht : t < 80) : At (fun k => cortegelaw3_LineFew.l0 k (t : Int) e (bs (cont t e t)) (t : Int)) true := by
  have hc : (linesL (cont t e t)).length = t ∧ (cont t e t).length ≤ 160 ∧ (cont t e t).contains 0 = false := by
    have hz : ∀ n, (0 : UInt8) ∉ xs n := fun n h => by rcases xs_zero n 0 h with h | h <;> revert h <;> decide
    unfold cont
    split
    · have := xs_lines t []
      rw [List.append_nil] at this
      rw [this]
      refine ⟨by simp [linesL], by rw [xs_length]; omega, ?_⟩
      have := hz t
      simpa using this
    · rename_i h
      have := xs_lines (t - 1) [120]
      rw [this]
      have h1 : 0 < t := by omega
      refine ⟨by simp [linesL]; omega, by simp [xs_length]; omega, ?_⟩
      have := hz (t - 1)
      simpa using this
  obtain ⟨h1, h2, h3⟩ := hc
  generalize cont t e t = l at h1 h2 h3
  have hs : (bs l).size ≤ 1000000 := by rw [bs_size]; omega
  have e1 : ∀ k, cortegelaw3_LineFew.l0 (k + 1) (t : Int) e (bs l) (t : Int) = (cortegelaw3_awake.f k).bind fun t => some t := by
    intro k
    simp only [cortegelaw3_LineFew.l0]
    rw [if_neg (by omega), few _ hs, Option.bind_some, lines_bs, h1, if_pos (by simp; omega), split _ hs, Option.bind_some, if_pos (by rw [lines_bs, h1]), binary, Option.bind_some, bs_data, has0, h3, if_neg Bool.false_ne_true, if_pos (by rw [bs_size]; omega), binary, Option.bind_some, bs_snoc, bs_data, has0, if_pos (by simp)]
  exact To.step_trans e1 awake_bind
theorem few_loop (t : Nat) (e : Bool) (ht : t < 80) : ∀ (d i : Nat), i + d = t → At (fun k => cortegelaw3_LineFew.l0 k (t : Int) e (bs (cont t e i)) (i : Int)) true := by
  intro d
  induction d with
  | zero =>
    intro i hi
    obtain rfl : i = t := by omega
    exact few_end i e ht
  | succ d ih =>
    intro i hi
    have hx : cont t e i = xs i := by unfold cont; rw [if_pos (.inr (.inl (by omega)))]
    have hsz : (bs (xs i)).size ≤ 160 := by rw [bs_size, xs_length]; omega
    have hsz2 : (bs (xs i ++ [120])).size ≤ 161 := by rw [bs_size, List.length_append, xs_length]; simp; omega
    have next : ∀ l, l = cont t e (i + 1) → (∀ k, cortegelaw3_LineFew.l0 (k + 1) (t : Int) e (bs (xs i)) (i : Int) = cortegelaw3_LineFew.l0 k (t : Int) e (bs l) ((i + 1 : Nat) : Int)) → At (fun k => cortegelaw3_LineFew.l0 k (t : Int) e (bs (cont t e i)) (i : Int)) true := by
      intro l hl h
      rw [hx]
      subst hl
      exact To.step_trans h (ih (i + 1) (by omega))
    have w := w1 (i := i) (by omega)
    cases e with
    | true =>
      refine next (xs (i + 1)) (by unfold cont; rw [if_pos (.inl rfl)]) fun k => ?_
      simp only [cortegelaw3_LineFew.l0]
      rw [if_pos (by omega), if_pos (by omega), if_pos trivial, bs_snoc, if_pos (by omega), bs_snoc, w, List.append_assoc]
      rfl
    | false =>
      by_cases hlt : i + 1 < t
      · refine next (xs (i + 1)) (by unfold cont; rw [if_pos (.inr (.inl hlt))]) fun k => ?_
        simp only [cortegelaw3_LineFew.l0]
        rw [if_pos (by omega), if_pos (by omega), if_neg Bool.false_ne_true, w, if_pos (by omega), bs_snoc, if_pos (by omega), bs_snoc, List.append_assoc]
        rfl
      · refine next (xs i ++ [120]) (by unfold cont; rw [if_neg (by simp; omega)]; simp) fun k => ?_
        simp only [cortegelaw3_LineFew.l0]
        rw [if_pos (by omega), if_pos (by omega), if_neg Bool.false_ne_true, w, if_neg (by omega), bs_snoc]

theorem LineFew : cortegelaw3_LineFew.Pure := by
  intro a0 a1 _
  obtain ⟨r, hr, hlow⟩ := low a0 80 (by omega) (by omega)
  refine At.rounds (g := fun k => cortegelaw3_LineFew.f k a0 a1) ?_
  refine (To.eq fun k => ?_).trans (few_loop r a1 hr r 0 (by omega))
  unfold cortegelaw3_LineFew.f
  rw [show (80 : Int) = ((80 : Nat) : Int) from rfl, hlow, Option.bind_some]
  have : cont r a1 0 = [] := by
    unfold cont
    split
    · rfl
    · rename_i h; omega
  rw [this]
  rfl
end Go.Proofs.Ytljlibopnfnkeaa.Pure
