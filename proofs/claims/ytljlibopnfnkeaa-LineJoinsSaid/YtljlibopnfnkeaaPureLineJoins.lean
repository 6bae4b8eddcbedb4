/- Of two texts, the first of which ends with a whole line, the lines are both's; of any two there is one fewer at most: the statement without Go. No condition. -/
import Derived.Test.YtljlibopnfnkeaaLineCommon
import Derived.Test.YtljlibopnfnkeaaLinesMore
import Derived.Test.YtljlibopnfnkeaaPAllx2
import Derived.Lib.IndexAny
namespace Go.Proofs.Ytljlibopnfnkeaa.Pure
open Go.RowKit Go.IntWalk Go.Proofs.Ytljlibopnfnkeaa.PAll Go.Proofs.YtljlibopnfnkeaaW.PrintWords Go.Proofs.YtljlibopnfnkeaaW.PrintLast Go.Proofs.YtljlibopnfnkeaaW.PrintMore Go.Proofs.Ytljlibopnfnkeaa.Rounds Go.Proofs.Ytljlibopnfnkeaa.Lines Go.Proofs.Ytljlibopnfnkeaa.LineCommon

theorem nil_iff (s : ByteArray) : s.toList = ([] : List UInt8) ↔ s.data.toList = [] := by rw [ByteArray.toList_eq]
theorem has0 (l : List UInt8) : decide (0 ≤ Go.Lib.indexByte l 0) = l.contains 0 := (Go.Lib.contains_iff_indexByte l 0).symm
theorem last_bt (a : ByteArray) (h : 0 < a.size) : (bt a ((a.size : Int) - 1) == 10) = decide (a.data.toList.getLast? = some 10) := by
  have hlt : ((a.size : Int) - 1).toNat < a.size := by omega
  unfold bt
  rw [dif_pos hlt]
  have e : a.data.toList.getLast? = some (a[((a.size : Int) - 1).toNat]'hlt) := by
    rw [List.getLast?_eq_getElem?]
    have hl : a.data.toList.length = a.size := by simp
    rw [hl, show a.size - 1 = ((a.size : Int) - 1).toNat by omega, List.getElem?_eq_getElem (by rw [hl]; exact hlt)]
    rfl
  rw [e]
  rw [Bool.eq_iff_iff]
  simp only [beq_iff_eq, decide_eq_true_eq, Option.some.injEq]
  constructor
  · intro h
    apply UInt8.toNat.inj
    show _ = 10
    omega
  · intro h
    rw [h]; rfl

theorem LineJoins : cortegelaw3_LineJoins.Pure := by
  intro a b _ _
  refine At.rounds (g := fun k => cortegelaw3_LineJoins.f k a b) ?_
  have big : At (fun k => cortegelaw3_LineJoins.j0 k a b true) true := by
    refine To.step_trans (fun k => ?_) awake_bind
    simp only [cortegelaw3_LineJoins.j0]
    rw [if_pos trivial]
  by_cases ha : (a.size : Int) > 300
  · refine (To.eq fun k => ?_).trans big
    unfold cortegelaw3_LineJoins.f
    rw [if_pos ha]
  by_cases hb : (b.size : Int) > 300
  · refine (To.eq fun k => ?_).trans big
    unfold cortegelaw3_LineJoins.f
    rw [if_neg ha, decide_eq_true hb]
  have hab : (a ++ b).size = a.size + b.size := ByteArray.size_append
  have la := lines_length a
  have lb := lines_length b
  have lab := lines_length (a ++ b)
  refine To.trans (h := fun k => cortegelaw3_LineJoins.j0 k a b false) (To.eq fun k => ?_) ?_
  · unfold cortegelaw3_LineJoins.f
    rw [if_neg ha, decide_eq_false hb]
  obtain ⟨c, hc⟩ : ∃ c : Bool, c = decide (a.data.toList = [] ∨ a.data.toList.getLast? = some 10) := ⟨_, rfl⟩
  have step0 : ∀ k, cortegelaw3_LineJoins.j0 (k + 1) a b false = cortegelaw3_LineJoins.j1 k a b (lines (a ++ b)) (lines a ++ lines b) c := by
    intro k
    simp only [cortegelaw3_LineJoins.j0]
    rw [if_neg Bool.false_ne_true, split a (by omega), Option.bind_some, split b (by omega), Option.bind_some, if_pos (by omega), split (a ++ b) (by omega), Option.bind_some, if_pos (by simp; omega), Option.bind_some, if_pos (by simp; omega), Option.bind_some, List.nil_append]
    by_cases h0 : a.data.toList = []
    · rw [if_pos ((nil_iff a).2 h0), hc, decide_eq_true (.inl h0)]
    · have hp : 0 < a.size := by
        rcases Nat.eq_zero_or_pos a.size with h | h
        · exact absurd (List.eq_nil_of_length_eq_zero (by simpa using h)) h0
        · exact h
      have hw : wrap64 ((a.size : Int) - 1) = (a.size : Int) - 1 := wrap64_in _ (by omega)
      rw [if_neg (fun h => h0 ((nil_iff a).1 h)), hw, if_pos (by omega), if_pos (by omega), last_bt a hp, hc]
      congr 1
      simp [h0]
  refine To.step_trans step0 ?_
  by_cases hcc : a.data.toList = [] ∨ a.data.toList.getLast? = some 10
  · have e : c = true := by rw [hc]; exact decide_eq_true hcc
    subst e
    have hl := lines_whole a b hcc
    refine To.step_trans (h := fun k => (cortegelaw0_SameTexts.f k (lines (a ++ b)) (lines a ++ lines b)).bind fun t141 => (if t141 = true then ((cortegelaw3_awake.f k).bind fun t142 => (some t142)) else (some false))) (fun k => ?_) ?_
    · simp only [cortegelaw3_LineJoins.j1]
      rw [if_pos trivial]
    · refine (same (lines (a ++ b)) (lines a ++ lines b) (by omega)).bind_at ?_
      rw [hl]
      simp only [decide_true, if_true]
      exact awake_bind
  · have e : c = false := by rw [hc]; exact decide_eq_false hcc
    subst e
    have h1 : a.data.toList ≠ [] := fun h => hcc (.inl h)
    have h2 : a.data.toList.getLast? ≠ some 10 := fun h => hcc (.inr h)
    have hsum : ∀ s : ByteArray, ((lines s).map ByteArray.size).sum = s.size := fun s => by rw [← glue_size, glue_lines]
    have last : ∀ x : Int, ((lines (a ++ b)).length : Int) = ((lines a ++ lines b).length : Int) - x → x ≤ 1 → 0 ≤ x → At (fun k => cortegelaw3_LineJoins.j2 k a b (lines (a ++ b)) (lines a ++ lines b) x) true := by
      intro x hx hx1 hx0
      have hw : wrap64 (((lines a ++ lines b).length : Int) - x) = ((lines a ++ lines b).length : Int) - x := wrap64_in _ (by simp; omega)
      refine To.step_trans (fun k => ?_) awake_bind
      simp only [cortegelaw3_LineJoins.j2]
      rw [hw, if_pos hx, join _ (by omega) (by rw [hsum]; omega), Option.bind_some, join _ (by simp; omega) (by rw [List.map_append, List.sum_append, hsum, hsum]; omega), Option.bind_some, glue_lines, glue_app, glue_lines, glue_lines, if_pos rfl, if_pos (by omega), binary, Option.bind_some, binary, Option.bind_some, has0, has0, lines_app_data]
      by_cases hz : a.data.toList.contains 0 = true
      · rw [if_pos hz, if_pos (by simp at hz ⊢; exact .inl hz)]
      · rw [if_neg hz, binary, Option.bind_some, has0, if_pos]
        have hz' : (0 : UInt8) ∉ a.data.toList := by simpa using hz
        have : (a.data.toList ++ b.data.toList).contains 0 = b.data.toList.contains 0 := by
          rw [Bool.eq_iff_iff]
          simp [hz']
        rw [this]
        exact beq_self_eq_true _
    by_cases hbn : b.data.toList = []
    · have hbl : lines b = [] := by unfold lines; rw [hbn]; rfl
      have hz : (lines (a ++ b)).length = (lines a).length := by
        unfold lines
        rw [lines_app_data, hbn, List.append_nil]
      refine To.step_trans (fun k => ?_) (last 0 (by rw [hz, hbl]; simp) (by omega) (by omega))
      simp only [cortegelaw3_LineJoins.j1]
      rw [if_neg Bool.false_ne_true, if_pos ((nil_iff b).2 hbn)]
    · have hz := lines_part a b h1 h2 hbn
      refine To.step_trans (fun k => ?_) (last 1 (by simp; omega) (by omega) (by omega))
      simp only [cortegelaw3_LineJoins.j1]
      rw [if_neg Bool.false_ne_true, if_neg (fun h => hbn ((nil_iff b).1 h))]
end Go.Proofs.Ytljlibopnfnkeaa.Pure
