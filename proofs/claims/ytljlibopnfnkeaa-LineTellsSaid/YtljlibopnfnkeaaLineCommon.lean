/- What the statements on lines share: comparing loops, what every program answers that is one. -/
import Derived.Test.YtljlibopnfnkeaaRounds
import Derived.Test.YtljlibopnfnkeaaPAllx1
namespace Go.Proofs.Ytljlibopnfnkeaa.LineCommon
open Go.RowKit Go.IntWalk Go.Proofs.Ytljlibopnfnkeaa.PAll Go.Proofs.YtljlibopnfnkeaaW.PrintWords Go.Proofs.YtljlibopnfnkeaaW.PrintLast Go.Proofs.YtljlibopnfnkeaaW.PrintMore Go.Proofs.Ytljlibopnfnkeaa.Rounds Go.Proofs.Ytljlibopnfnkeaa.Lines

theorem same_loop (a b : List ByteArray) (hl : a.length = b.length) (hs : a.length ≤ 1000000) : ∀ (d i : Nat), i + d = a.length → At (fun k => cortegelaw0_SameTexts.l0 k a b (i : Int)) (decide (a.drop i = b.drop i)) := by
  intro d
  induction d with
  | zero =>
    intro i hi
    refine To.step fun k => ?_
    simp only [cortegelaw0_SameTexts.l0]
    rw [if_neg (by omega), List.drop_of_length_le (by omega), List.drop_of_length_le (by omega)]
    rfl
  | succ d ih =>
    intro i hi
    have h1 : i < a.length := by omega
    have h2 : i < b.length := by omega
    rw [List.drop_eq_getElem_cons h1, List.drop_eq_getElem_cons h2]
    by_cases he : a[i] = b[i]
    · have e : decide (a[i] :: a.drop (i + 1) = b[i] :: b.drop (i + 1)) = decide (a.drop (i + 1) = b.drop (i + 1)) := decide_eq_decide.2 ⟨fun h => (List.cons.inj h).2, fun h => by rw [h, he]⟩
      rw [e]
      refine To.step_trans (fun k => ?_) (ih (i + 1) (by omega))
      simp only [cortegelaw0_SameTexts.l0]
      rw [if_pos (by omega), if_pos (by omega), if_pos (by omega), rdOf_at _ _ h1, rdOf_at _ _ h2, if_pos (by rw [he]), w1 (by omega)]
    · have e : decide (a[i] :: a.drop (i + 1) = b[i] :: b.drop (i + 1)) = false := decide_eq_false (fun h => he (List.cons.inj h).1)
      rw [e]
      refine To.step fun k => ?_
      simp only [cortegelaw0_SameTexts.l0]
      rw [if_pos (by omega), if_pos (by omega), if_pos (by omega), rdOf_at _ _ h1, rdOf_at _ _ h2, if_neg (fun h => he (bytes_ext h))]
theorem same (a b : List ByteArray) (hs : a.length ≤ 1000000) : At (fun k => cortegelaw0_SameTexts.f k a b) (decide (a = b)) := by
  by_cases hl : a.length = b.length
  · have h := same_loop a b hl hs a.length 0 (by omega)
    rw [List.drop_zero, List.drop_zero] at h
    refine (To.eq fun k => ?_).trans h
    unfold cortegelaw0_SameTexts.f
    rw [if_pos (by omega)]
    rfl
  · have e : decide (a = b) = false := decide_eq_false (fun h => hl (by rw [h]))
    rw [e]
    refine To.eq fun k => ?_
    unfold cortegelaw0_SameTexts.f
    rw [if_neg (by omega)]
theorem split (s : ByteArray) (h : s.size ≤ 1000000) : line_Split.f s = some (lines s) := by unfold line_Split.f; rw [if_pos h]
theorem few (s : ByteArray) (h : s.size ≤ 1000000) : line_Few.f s = some (decide ((lines s).length ≤ 60)) := by unfold line_Few.f; rw [if_pos h]
theorem binary (s : ByteArray) : line_Binary.f s = some (decide (0 ≤ Go.Lib.indexByte s.data.toList 0)) := rfl
theorem join (l : List ByteArray) (h : l.length ≤ 1000000) (h2 : (l.map ByteArray.size).sum ≤ 1000000) : line_Join.f l = some (glue l) := by unfold line_Join.f; rw [if_pos ⟨h, h2⟩]

theorem awake : At (fun k => cortegelaw3_awake.f k) true := by
  have h1 : lines (⟨#[97, 10, 98]⟩ : ByteArray) = [⟨#[97, 10]⟩, ⟨#[98]⟩] := by simp [lines, linesL, bs]
  have h2 : glue [(⟨#[97, 10]⟩ : ByteArray), (⟨#[98]⟩ : ByteArray)] = ⟨#[97, 10, 98]⟩ := by simp [glue]
  have h3 : lines (⟨#[97]⟩ : ByteArray) = [⟨#[97]⟩] := by simp [lines, linesL, bs]
  refine (To.eq fun k => ?_).trans ((same [⟨#[97, 10]⟩, ⟨#[98]⟩] [⟨#[97, 10]⟩, ⟨#[98]⟩] (by simp)).bind_at (F := fun _ t => if t = true then some true else some false) ?_)
  · unfold cortegelaw3_awake.f
    rw [split _ (by decide), h1, Option.bind_some]
    refine congrArg _ (funext fun t => ?_)
    by_cases ht : t = true
    · rw [if_pos ht, if_pos ht, join _ (by decide) (by decide), h2, Option.bind_some, if_pos (by simp [ByteArray.toList_eq]), binary, Option.bind_some, if_pos (by decide), few _ (by decide), h3, Option.bind_some]
      rfl
    · rw [if_neg ht, if_neg ht]
  · simp only [decide_true, if_true]
    exact To.refl _
theorem awake_bind : At (fun k => (cortegelaw3_awake.f k).bind fun t => some t) true := At.bind_at awake (To.refl _)
/-- A number, from 0 to below n. -/
theorem low (a : Int) (n : Nat) (hn : 0 < n) (hn2 : n < 1000000) : ∃ r : Nat, r < n ∧ cortegelaw0_Low.f a (n : Int) = some (r : Int) := by
  have e : IntKind.u64.wrap (n : Int) = (n : Int) := by
    have : (n : Int) % 18446744073709551616 = n := Int.emod_eq_of_lt (by omega) (by omega)
    simpa [IntKind.wrap, IntKind.signed, IntKind.bits] using this
  have h0 : 0 ≤ IntKind.u64.wrap a := by
    have : 0 ≤ a % 18446744073709551616 := Int.emod_nonneg _ (by omega)
    simpa [IntKind.wrap, IntKind.signed, IntKind.bits] using this
  generalize hz : IntKind.u64.wrap a = z at h0
  refine ⟨(Int.tmod z n).toNat, ?_, ?_⟩
  · have h1 := Int.tmod_lt_of_pos z (b := (n : Int)) (by omega)
    have h2 := Int.tmod_nonneg (n : Int) h0
    omega
  · have h1 := Int.tmod_lt_of_pos z (b := (n : Int)) (by omega)
    have h2 := Int.tmod_nonneg (n : Int) h0
    unfold cortegelaw0_Low.f
    rw [e, if_neg (by omega), hz, wrap64_in _ (by omega)]
    congr 1
    omega

end Go.Proofs.Ytljlibopnfnkeaa.LineCommon
