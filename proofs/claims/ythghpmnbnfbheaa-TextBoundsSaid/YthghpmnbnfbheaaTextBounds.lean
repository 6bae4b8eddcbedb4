/- The walk of the law TextBounds answers true, whatever the texts. -/
import Derived.Test.YthghpmnbnfbheaaTextAwake
import Derived.Test.YthghpmnbnfbheaaSeqLow
import Derived.WalkSpells
namespace Go.Proofs.Ythghpmnbnfbheaa.SeqS
open Go.RowKit Go.Shelf Go.Proofs.Ythghpmnbnfbheaa.SeqM Go.Proofs.Ythghpmnbnfbheaa.PRef Go.Proofs.YthghpmnbnfbheaaW.PrintWords Go.Proofs.Ythghpmnbnfbheaa.Lines
attribute [local go_sem] Oper.semAt_some
set_option linter.unusedVariables false
set_option linter.unusedSimpArgs false
set_option maxHeartbeats 4000000 in
set_option maxRecDepth 100000 in
theorem tbounds_long1 (o a b : ByteArray) (at_ : Int) (w : World) (h : 500 < o.size) :
    Calls Try.prog 5 #[.string o, .string a, .string b, .int .i64 at_] w fun e w' => e = .returned (.bool true) ∧ Below w.heap.size w w' := by
  have go : decide ((500 : Int) < (o.size : Int)) = true := by simp; omega
  have go' : decide (500 < o.size) = true := by simp; omega
  go_enter Try.func5, Try.ntmps5
  go_wp2_with fail
  refine (awake6 _).mono ?_
  rintro e w1 ⟨rfl, hb⟩
  have HB := Lib.hid hb
  clear hb
  go_wp2
  go_ret
  exact ⟨rfl, HB.out⟩
set_option maxHeartbeats 4000000 in
set_option maxRecDepth 100000 in
theorem tbounds_long2 (o a b : ByteArray) (at_ : Int) (w : World) (h : ¬ 500 < o.size) (h' : 500 < a.size) :
    Calls Try.prog 5 #[.string o, .string a, .string b, .int .i64 at_] w fun e w' => e = .returned (.bool true) ∧ Below w.heap.size w w' := by
  have go : decide ((500 : Int) < (o.size : Int)) = false := by simp; omega
  have go' : decide (500 < o.size) = false := by simp; omega
  have ga : decide ((500 : Int) < (a.size : Int)) = true := by simp; omega
  have ga' : decide (500 < a.size) = true := by simp; omega
  go_enter Try.func5, Try.ntmps5
  go_wp2_with fail
  refine (awake6 _).mono ?_
  rintro e w1 ⟨rfl, hb⟩
  have HB := Lib.hid hb
  clear hb
  go_wp2
  go_ret
  exact ⟨rfl, HB.out⟩
set_option maxHeartbeats 4000000 in
set_option maxRecDepth 100000 in
theorem tbounds_long3 (o a b : ByteArray) (at_ : Int) (w : World) (h : ¬ 500 < o.size) (h' : ¬ 500 < a.size) (h'' : 500 < b.size) :
    Calls Try.prog 5 #[.string o, .string a, .string b, .int .i64 at_] w fun e w' => e = .returned (.bool true) ∧ Below w.heap.size w w' := by
  have go : decide ((500 : Int) < (o.size : Int)) = false := by simp; omega
  have go' : decide (500 < o.size) = false := by simp; omega
  have ga : decide ((500 : Int) < (a.size : Int)) = false := by simp; omega
  have ga' : decide (500 < a.size) = false := by simp; omega
  have gb : decide ((500 : Int) < (b.size : Int)) = true := by simp; omega
  have gb' : decide (500 < b.size) = true := by simp; omega
  go_enter Try.func5, Try.ntmps5
  go_wp2_with fail
  refine (awake6 _).mono ?_
  rintro e w1 ⟨rfl, hb⟩
  have HB := Lib.hid hb
  clear hb
  go_wp2
  go_ret
  exact ⟨rfl, HB.out⟩
theorem drewB (w : World) : Below w.heap.size w w.drew := ⟨rfl, rfl, rfl, Nat.le_refl _, fun _ _ => rfl⟩
theorem index_mem (c : UInt8) : ∀ l : List UInt8, c ∈ l → 0 ≤ Lib.indexByte l c
  | [], h => by cases h
  | b :: l, h => by
    rw [Lib.indexByte]
    by_cases hb : b = c
    · simp [hb]
    · have hm : c ∈ l := by
        rcases List.mem_cons.1 h with h | h
        · exact absurd h.symm hb
        · exact h
      have ih := index_mem c l hm
      rw [if_neg (by simpa using hb), if_neg (by simp; omega)]
      omega
theorem zero_plain (x y : ByteArray) : Text.plainB (x ++ ⟨#[0]⟩ ++ y) = false := by
  unfold Text.plainB
  rw [decide_eq_true (index_mem 0 _ (by simp [lines_app_data]))]
  rfl
theorem zero_none {o z b : ByteArray} (h : Text.plainB z = false) (c1 : ¬ z = b) (c2 : ¬ b = o) (c3 : ¬ z = o) : Text.merge o z b = none ∧ Text.confl o z b = 1 := by
  have hp : Text.plain3 o z b = false := by unfold Text.plain3; rw [h]; cases Text.plainB o <;> rfl
  have hm : Text.merge o z b = none := by
    unfold Text.merge
    rw [if_neg (show ¬ (z = b ∨ b = o) from fun h => h.elim c1 c2), if_neg c3, if_pos hp]
  refine ⟨hm, ?_⟩
  unfold Text.confl
  rw [hm, if_neg (by simp), if_pos hp]
theorem merge_bound {o a b s : ByteArray} (h : Text.merge o a b = some s) : s.size ≤ 400 ∨ s = a ∨ s = b := by
  unfold Text.merge at h
  split at h
  · exact .inr (.inl (Option.some.inj h).symm)
  · split at h
    · exact .inr (.inr (Option.some.inj h).symm)
    · split at h
      · cases h
      · unfold Text.kept at h
        split at h
        · split at h
          · obtain rfl := Option.some.inj h
            exact .inl (by assumption)
          · cases h
        · cases h
set_option maxHeartbeats 8000000 in
set_option maxRecDepth 100000 in
theorem tbounds_none (o a b : ByteArray) (at_ : Int) (w : World) (h9 : (Lit.int .i64 at_).wf = true) (l0 : o.size ≤ 500) (l1 : a.size ≤ 500) (l2 : b.size ≤ 500) (hm : Text.merge o a b = none) :
    Calls Try.prog 5 #[.string o, .string a, .string b, .int .i64 at_] w fun e w' => e = .returned (.bool true) ∧ Below w.heap.size w w' := by
  have go : decide ((500 : Int) < (o.size : Int)) = false := by simp; omega
  have go' : decide (500 < o.size) = false := by simp; omega
  have ga : decide ((500 : Int) < (a.size : Int)) = false := by simp; omega
  have ga' : decide (500 < a.size) = false := by simp; omega
  have gb : decide ((500 : Int) < (b.size : Int)) = false := by simp; omega
  have gb' : decide (500 < b.size) = false := by simp; omega

  have HM := Lib.hid hm
  clear hm
  go_enter Try.func5, Try.ntmps5
  go_wp2_with fail
  refine (tmerge_calls o a b _ (by omega) (by omega) (by omega)).mono ?_
  rintro e w1 ⟨rfl, hb⟩
  rw [HM.out]
  simp only [Option.isSome_some, Option.getD_some, Option.isSome_none, Option.getD_none]
  have HB := Lib.hid hb
  clear hb HM
  go_wp2_with fail
  rw [show ((a.size : Int) + 1) = ((a.size + 1 : Nat) : Int) from by omega]
  refine (SeqI.low_calls at_ (a.size + 1) _ (by omega) (by omega)).mono ?_
  rintro e w2 ⟨⟨r, rfl, hr⟩, rfl⟩
  have hr0 : r ≤ a.size := by omega
  have hr1 : (r : Int) ≤ (a.size : Int) := by omega
  have hr2 : (0 : Int) ≤ (r : Int) := by omega
  go_wp2_with fail
  have hsl1 : ∀ W : World, (Instr.slice 9 (.string a) none (some (.int .i64 (r : Int))) none).run Try.prog W = .ok (.string (a.extract 0 r)) W := fun W => by
    simp [Instr.slice, Instr.sliceBounds, Instr.sliceBound, asIntOf, run_underlying Try.underlying9, hr1, hr2]
    intro hc
    omega
  have hsl2 : ∀ W : World, (Instr.slice 9 (.string a) (some (.int .i64 (r : Int))) none none).run Try.prog W = .ok (.string (a.extract r a.size)) W := fun W => by
    simp [Instr.slice, Instr.sliceBounds, Instr.sliceBound, asIntOf, run_underlying Try.underlying9, hr1, hr2]
    intro hc
    omega
  have e1 : (a.extract 0 r).size ≤ 500 := by rw [ByteArray.size_extract]; omega
  have e2 : (a.extract r a.size).size ≤ 500 := by rw [ByteArray.size_extract]; omega
  have e3 : (a.extract 0 r ++ ⟨#[0]⟩).size ≤ 501 := by rw [ByteArray.size_append]; have : (⟨#[0]⟩ : ByteArray).size = 1 := rfl; omega
  have e4 : (a.extract 0 r ++ ⟨#[0]⟩ ++ a.extract r a.size).size ≤ 1001 := by rw [ByteArray.size_append]; omega
  have hc1 : ∀ W : World, (Op.stringOp .add (a.extract 0 r) ⟨#[0]⟩).run Try.prog W = .ok (.string (a.extract 0 r ++ ⟨#[0]⟩)) W := fun W => run_string_add W _ _ (by omega) (by decide)
  have hc2 : ∀ W : World, (Op.stringOp .add (a.extract 0 r ++ ⟨#[0]⟩) (a.extract r a.size)).run Try.prog W = .ok (.string (a.extract 0 r ++ ⟨#[0]⟩ ++ a.extract r a.size)) W := fun W => run_string_add W _ _ (by omega) (by omega)
  have hp := zero_plain (a.extract 0 r) (a.extract r a.size)
  go_region_held3 (fun _ => True) (exact trivial) (first | fail)
  obtain ⟨z, hz⟩ : ∃ z, z = a.extract 0 r ++ ⟨#[0]⟩ ++ a.extract r a.size := ⟨_, rfl⟩
  rw [← hz] at hp e4 ⊢
  have HB2 := Lib.hid (HB.out.trans ((drewB w2).mono HB.out.size))
  clear hz e1 e2 e3 hc1 hc2 hsl1 hsl2 hr hr0 hr1 hr2 HB
  go_wp2_with fail
  refine (tmerge_calls o z b _ (by omega) (by omega) (by omega)).mono ?_
  rintro e w3 ⟨rfl, hb⟩
  have HB3 := Lib.hid (HB2.out.trans (hb.mono HB2.out.size))
  clear hb HB2
  by_cases c1 : z = b
  · subst c1
    rw [Text.merge_same]
    simp only [Option.isSome_some, Option.getD_some]
    go_wp2_with fail
    refine (awake6 _).mono ?_
    rintro e w5 ⟨rfl, hb⟩
    have HB5 := Lib.hid (HB3.out.trans (hb.mono HB3.out.size))
    clear hb
    go_wp2_with fail
    go_ret
    exact ⟨rfl, HB5.out⟩
  · have t1 := tl_ne c1
    have t1' := tl_beq c1
    have t1'' := tl_dec c1
    by_cases c2 : b = o
    · subst c2
      rw [Text.merge_right]
      simp only [Option.isSome_some, Option.getD_some]
      go_wp2_with fail
      refine (awake6 _).mono ?_
      rintro e w5 ⟨rfl, hb⟩
      have HB5 := Lib.hid (HB3.out.trans (hb.mono HB3.out.size))
      clear hb
      go_wp2_with fail
      go_ret
      exact ⟨rfl, HB5.out⟩
    · have t2 := tl_ne c2
      have t2' := tl_beq c2
      have t2'' := tl_dec c2
      by_cases c3 : z = o
      · subst c3
        rw [Text.merge_left]
        simp only [Option.isSome_some, Option.getD_some]
        go_wp2_with fail
        refine (awake6 _).mono ?_
        rintro e w5 ⟨rfl, hb⟩
        have HB5 := Lib.hid (HB3.out.trans (hb.mono HB3.out.size))
        clear hb
        go_wp2_with fail
        go_ret
        exact ⟨rfl, HB5.out⟩
      · have t3 := tl_ne c3
        have t3' := tl_beq c3
        have t3'' := tl_dec c3
        obtain ⟨q1, q2⟩ := zero_none hp c1 c2 c3
        have Q2 := Lib.hid q2
        rw [q1]
        simp only [Option.isSome_none, Option.getD_none]
        clear q1 q2
        go_wp2_with fail
        refine (confl_calls o z b _ (by omega) (by omega) (by omega)).mono ?_
        rintro e w4 ⟨rfl, hb⟩
        rw [Q2.out]
        replace HB3 := Lib.hid (HB3.out.trans (hb.mono HB3.out.size))
        clear hb
        go_wp2_with fail
        refine (awake6 _).mono ?_
        rintro e w5 ⟨rfl, hb⟩
        have HB5 := Lib.hid (HB3.out.trans (hb.mono HB3.out.size))
        clear hb
        go_wp2_with fail
        go_ret
        exact ⟨rfl, HB5.out⟩
set_option maxHeartbeats 8000000 in
set_option maxRecDepth 100000 in
theorem tbounds_few (o a b s : ByteArray) (at_ : Int) (w : World) (h9 : (Lit.int .i64 at_).wf = true) (l0 : o.size ≤ 500) (l1 : a.size ≤ 500) (l2 : b.size ≤ 500) (hm : Text.merge o a b = some s) (hs : s.size ≤ 400) :
    Calls Try.prog 5 #[.string o, .string a, .string b, .int .i64 at_] w fun e w' => e = .returned (.bool true) ∧ Below w.heap.size w w' := by
  have go : decide ((500 : Int) < (o.size : Int)) = false := by simp; omega
  have go' : decide (500 < o.size) = false := by simp; omega
  have ga : decide ((500 : Int) < (a.size : Int)) = false := by simp; omega
  have ga' : decide (500 < a.size) = false := by simp; omega
  have gb : decide ((500 : Int) < (b.size : Int)) = false := by simp; omega
  have gb' : decide (500 < b.size) = false := by simp; omega
  have g4 : decide ((400 : Int) < (s.size : Int)) = false := by simp; omega
  have g4' : decide (400 < s.size) = false := by simp; omega
  have HM := Lib.hid hm
  clear hm
  go_enter Try.func5, Try.ntmps5
  go_wp2_with fail
  refine (tmerge_calls o a b _ (by omega) (by omega) (by omega)).mono ?_
  rintro e w1 ⟨rfl, hb⟩
  rw [HM.out]
  simp only [Option.isSome_some, Option.getD_some, Option.isSome_none, Option.getD_none]
  have HB := Lib.hid hb
  clear hb HM
  go_wp2_with fail
  rw [show ((a.size : Int) + 1) = ((a.size + 1 : Nat) : Int) from by omega]
  refine (SeqI.low_calls at_ (a.size + 1) _ (by omega) (by omega)).mono ?_
  rintro e w2 ⟨⟨r, rfl, hr⟩, rfl⟩
  have hr0 : r ≤ a.size := by omega
  have hr1 : (r : Int) ≤ (a.size : Int) := by omega
  have hr2 : (0 : Int) ≤ (r : Int) := by omega
  go_wp2_with fail
  have hsl1 : ∀ W : World, (Instr.slice 9 (.string a) none (some (.int .i64 (r : Int))) none).run Try.prog W = .ok (.string (a.extract 0 r)) W := fun W => by
    simp [Instr.slice, Instr.sliceBounds, Instr.sliceBound, asIntOf, run_underlying Try.underlying9, hr1, hr2]
    intro hc
    omega
  have hsl2 : ∀ W : World, (Instr.slice 9 (.string a) (some (.int .i64 (r : Int))) none none).run Try.prog W = .ok (.string (a.extract r a.size)) W := fun W => by
    simp [Instr.slice, Instr.sliceBounds, Instr.sliceBound, asIntOf, run_underlying Try.underlying9, hr1, hr2]
    intro hc
    omega
  have e1 : (a.extract 0 r).size ≤ 500 := by rw [ByteArray.size_extract]; omega
  have e2 : (a.extract r a.size).size ≤ 500 := by rw [ByteArray.size_extract]; omega
  have e3 : (a.extract 0 r ++ ⟨#[0]⟩).size ≤ 501 := by rw [ByteArray.size_append]; have : (⟨#[0]⟩ : ByteArray).size = 1 := rfl; omega
  have e4 : (a.extract 0 r ++ ⟨#[0]⟩ ++ a.extract r a.size).size ≤ 1001 := by rw [ByteArray.size_append]; omega
  have hc1 : ∀ W : World, (Op.stringOp .add (a.extract 0 r) ⟨#[0]⟩).run Try.prog W = .ok (.string (a.extract 0 r ++ ⟨#[0]⟩)) W := fun W => run_string_add W _ _ (by omega) (by decide)
  have hc2 : ∀ W : World, (Op.stringOp .add (a.extract 0 r ++ ⟨#[0]⟩) (a.extract r a.size)).run Try.prog W = .ok (.string (a.extract 0 r ++ ⟨#[0]⟩ ++ a.extract r a.size)) W := fun W => run_string_add W _ _ (by omega) (by omega)
  have hp := zero_plain (a.extract 0 r) (a.extract r a.size)
  go_region_held3 (fun _ => True) (exact trivial) (first | fail)
  obtain ⟨z, hz⟩ : ∃ z, z = a.extract 0 r ++ ⟨#[0]⟩ ++ a.extract r a.size := ⟨_, rfl⟩
  rw [← hz] at hp e4 ⊢
  have HB2 := Lib.hid (HB.out.trans ((drewB w2).mono HB.out.size))
  clear hz e1 e2 e3 hc1 hc2 hsl1 hsl2 hr hr0 hr1 hr2 HB
  go_wp2_with fail
  refine (tmerge_calls o z b _ (by omega) (by omega) (by omega)).mono ?_
  rintro e w3 ⟨rfl, hb⟩
  have HB3 := Lib.hid (HB2.out.trans (hb.mono HB2.out.size))
  clear hb HB2
  by_cases c1 : z = b
  · subst c1
    rw [Text.merge_same]
    simp only [Option.isSome_some, Option.getD_some]
    go_wp2_with fail
    refine (awake6 _).mono ?_
    rintro e w5 ⟨rfl, hb⟩
    have HB5 := Lib.hid (HB3.out.trans (hb.mono HB3.out.size))
    clear hb
    go_wp2_with fail
    go_ret
    exact ⟨rfl, HB5.out⟩
  · have t1 := tl_ne c1
    have t1' := tl_beq c1
    have t1'' := tl_dec c1
    by_cases c2 : b = o
    · subst c2
      rw [Text.merge_right]
      simp only [Option.isSome_some, Option.getD_some]
      go_wp2_with fail
      refine (awake6 _).mono ?_
      rintro e w5 ⟨rfl, hb⟩
      have HB5 := Lib.hid (HB3.out.trans (hb.mono HB3.out.size))
      clear hb
      go_wp2_with fail
      go_ret
      exact ⟨rfl, HB5.out⟩
    · have t2 := tl_ne c2
      have t2' := tl_beq c2
      have t2'' := tl_dec c2
      by_cases c3 : z = o
      · subst c3
        rw [Text.merge_left]
        simp only [Option.isSome_some, Option.getD_some]
        go_wp2_with fail
        refine (awake6 _).mono ?_
        rintro e w5 ⟨rfl, hb⟩
        have HB5 := Lib.hid (HB3.out.trans (hb.mono HB3.out.size))
        clear hb
        go_wp2_with fail
        go_ret
        exact ⟨rfl, HB5.out⟩
      · have t3 := tl_ne c3
        have t3' := tl_beq c3
        have t3'' := tl_dec c3
        obtain ⟨q1, q2⟩ := zero_none hp c1 c2 c3
        have Q2 := Lib.hid q2
        rw [q1]
        simp only [Option.isSome_none, Option.getD_none]
        clear q1 q2
        go_wp2_with fail
        refine (confl_calls o z b _ (by omega) (by omega) (by omega)).mono ?_
        rintro e w4 ⟨rfl, hb⟩
        rw [Q2.out]
        replace HB3 := Lib.hid (HB3.out.trans (hb.mono HB3.out.size))
        clear hb
        go_wp2_with fail
        refine (awake6 _).mono ?_
        rintro e w5 ⟨rfl, hb⟩
        have HB5 := Lib.hid (HB3.out.trans (hb.mono HB3.out.size))
        clear hb
        go_wp2_with fail
        go_ret
        exact ⟨rfl, HB5.out⟩
set_option maxHeartbeats 8000000 in
set_option maxRecDepth 100000 in
theorem tbounds_a (o a b s : ByteArray) (at_ : Int) (w : World) (h9 : (Lit.int .i64 at_).wf = true) (l0 : o.size ≤ 500) (l1 : a.size ≤ 500) (l2 : b.size ≤ 500) (hm : Text.merge o a b = some s) (hs : ¬ s.size ≤ 400) (hq : s = a) :
    Calls Try.prog 5 #[.string o, .string a, .string b, .int .i64 at_] w fun e w' => e = .returned (.bool true) ∧ Below w.heap.size w w' := by
  have go : decide ((500 : Int) < (o.size : Int)) = false := by simp; omega
  have go' : decide (500 < o.size) = false := by simp; omega
  have ga : decide ((500 : Int) < (a.size : Int)) = false := by simp; omega
  have ga' : decide (500 < a.size) = false := by simp; omega
  have gb : decide ((500 : Int) < (b.size : Int)) = false := by simp; omega
  have gb' : decide (500 < b.size) = false := by simp; omega
  have t4 : decide ((400 : Int) < (s.size : Int)) = true := by simp; omega
  have t4' : decide (400 < s.size) = true := by simp; omega
  obtain rfl : a = s := hq.symm
  have HM := Lib.hid hm
  clear hm
  go_enter Try.func5, Try.ntmps5
  go_wp2_with fail
  refine (tmerge_calls o a b _ (by omega) (by omega) (by omega)).mono ?_
  rintro e w1 ⟨rfl, hb⟩
  rw [HM.out]
  simp only [Option.isSome_some, Option.getD_some, Option.isSome_none, Option.getD_none]
  have HB := Lib.hid hb
  clear hb HM
  go_wp2_with fail
  rw [show ((a.size : Int) + 1) = ((a.size + 1 : Nat) : Int) from by omega]
  refine (SeqI.low_calls at_ (a.size + 1) _ (by omega) (by omega)).mono ?_
  rintro e w2 ⟨⟨r, rfl, hr⟩, rfl⟩
  have hr0 : r ≤ a.size := by omega
  have hr1 : (r : Int) ≤ (a.size : Int) := by omega
  have hr2 : (0 : Int) ≤ (r : Int) := by omega
  go_wp2_with fail
  have hsl1 : ∀ W : World, (Instr.slice 9 (.string a) none (some (.int .i64 (r : Int))) none).run Try.prog W = .ok (.string (a.extract 0 r)) W := fun W => by
    simp [Instr.slice, Instr.sliceBounds, Instr.sliceBound, asIntOf, run_underlying Try.underlying9, hr1, hr2]
    intro hc
    omega
  have hsl2 : ∀ W : World, (Instr.slice 9 (.string a) (some (.int .i64 (r : Int))) none none).run Try.prog W = .ok (.string (a.extract r a.size)) W := fun W => by
    simp [Instr.slice, Instr.sliceBounds, Instr.sliceBound, asIntOf, run_underlying Try.underlying9, hr1, hr2]
    intro hc
    omega
  have e1 : (a.extract 0 r).size ≤ 500 := by rw [ByteArray.size_extract]; omega
  have e2 : (a.extract r a.size).size ≤ 500 := by rw [ByteArray.size_extract]; omega
  have e3 : (a.extract 0 r ++ ⟨#[0]⟩).size ≤ 501 := by rw [ByteArray.size_append]; have : (⟨#[0]⟩ : ByteArray).size = 1 := rfl; omega
  have e4 : (a.extract 0 r ++ ⟨#[0]⟩ ++ a.extract r a.size).size ≤ 1001 := by rw [ByteArray.size_append]; omega
  have hc1 : ∀ W : World, (Op.stringOp .add (a.extract 0 r) ⟨#[0]⟩).run Try.prog W = .ok (.string (a.extract 0 r ++ ⟨#[0]⟩)) W := fun W => run_string_add W _ _ (by omega) (by decide)
  have hc2 : ∀ W : World, (Op.stringOp .add (a.extract 0 r ++ ⟨#[0]⟩) (a.extract r a.size)).run Try.prog W = .ok (.string (a.extract 0 r ++ ⟨#[0]⟩ ++ a.extract r a.size)) W := fun W => run_string_add W _ _ (by omega) (by omega)
  have hp := zero_plain (a.extract 0 r) (a.extract r a.size)
  go_region_held3 (fun _ => True) (exact trivial) (first | fail)
  obtain ⟨z, hz⟩ : ∃ z, z = a.extract 0 r ++ ⟨#[0]⟩ ++ a.extract r a.size := ⟨_, rfl⟩
  rw [← hz] at hp e4 ⊢
  have HB2 := Lib.hid (HB.out.trans ((drewB w2).mono HB.out.size))
  clear hz e1 e2 e3 hc1 hc2 hsl1 hsl2 hr hr0 hr1 hr2 HB
  go_wp2_with fail
  refine (tmerge_calls o z b _ (by omega) (by omega) (by omega)).mono ?_
  rintro e w3 ⟨rfl, hb⟩
  have HB3 := Lib.hid (HB2.out.trans (hb.mono HB2.out.size))
  clear hb HB2
  by_cases c1 : z = b
  · subst c1
    rw [Text.merge_same]
    simp only [Option.isSome_some, Option.getD_some]
    go_wp2_with fail
    refine (awake6 _).mono ?_
    rintro e w5 ⟨rfl, hb⟩
    have HB5 := Lib.hid (HB3.out.trans (hb.mono HB3.out.size))
    clear hb
    go_wp2_with fail
    go_ret
    exact ⟨rfl, HB5.out⟩
  · have t1 := tl_ne c1
    have t1' := tl_beq c1
    have t1'' := tl_dec c1
    by_cases c2 : b = o
    · subst c2
      rw [Text.merge_right]
      simp only [Option.isSome_some, Option.getD_some]
      go_wp2_with fail
      refine (awake6 _).mono ?_
      rintro e w5 ⟨rfl, hb⟩
      have HB5 := Lib.hid (HB3.out.trans (hb.mono HB3.out.size))
      clear hb
      go_wp2_with fail
      go_ret
      exact ⟨rfl, HB5.out⟩
    · have t2 := tl_ne c2
      have t2' := tl_beq c2
      have t2'' := tl_dec c2
      by_cases c3 : z = o
      · subst c3
        rw [Text.merge_left]
        simp only [Option.isSome_some, Option.getD_some]
        go_wp2_with fail
        refine (awake6 _).mono ?_
        rintro e w5 ⟨rfl, hb⟩
        have HB5 := Lib.hid (HB3.out.trans (hb.mono HB3.out.size))
        clear hb
        go_wp2_with fail
        go_ret
        exact ⟨rfl, HB5.out⟩
      · have t3 := tl_ne c3
        have t3' := tl_beq c3
        have t3'' := tl_dec c3
        obtain ⟨q1, q2⟩ := zero_none hp c1 c2 c3
        have Q2 := Lib.hid q2
        rw [q1]
        simp only [Option.isSome_none, Option.getD_none]
        clear q1 q2
        go_wp2_with fail
        refine (confl_calls o z b _ (by omega) (by omega) (by omega)).mono ?_
        rintro e w4 ⟨rfl, hb⟩
        rw [Q2.out]
        replace HB3 := Lib.hid (HB3.out.trans (hb.mono HB3.out.size))
        clear hb
        go_wp2_with fail
        refine (awake6 _).mono ?_
        rintro e w5 ⟨rfl, hb⟩
        have HB5 := Lib.hid (HB3.out.trans (hb.mono HB3.out.size))
        clear hb
        go_wp2_with fail
        go_ret
        exact ⟨rfl, HB5.out⟩
set_option maxHeartbeats 8000000 in
set_option maxRecDepth 100000 in
theorem tbounds_b (o a b s : ByteArray) (at_ : Int) (w : World) (h9 : (Lit.int .i64 at_).wf = true) (l0 : o.size ≤ 500) (l1 : a.size ≤ 500) (l2 : b.size ≤ 500) (hm : Text.merge o a b = some s) (hs : ¬ s.size ≤ 400) (hq' : ¬ s = a) (hq : s = b) :
    Calls Try.prog 5 #[.string o, .string a, .string b, .int .i64 at_] w fun e w' => e = .returned (.bool true) ∧ Below w.heap.size w w' := by
  have go : decide ((500 : Int) < (o.size : Int)) = false := by simp; omega
  have go' : decide (500 < o.size) = false := by simp; omega
  have ga : decide ((500 : Int) < (a.size : Int)) = false := by simp; omega
  have ga' : decide (500 < a.size) = false := by simp; omega
  have gb : decide ((500 : Int) < (b.size : Int)) = false := by simp; omega
  have gb' : decide (500 < b.size) = false := by simp; omega
  have t4 : decide ((400 : Int) < (s.size : Int)) = true := by simp; omega
  have t4' : decide (400 < s.size) = true := by simp; omega
  have t5 := tl_ne hq'
  have t5' := tl_beq hq'
  have t5'' := tl_dec hq'
  obtain rfl : b = s := hq.symm
  have HM := Lib.hid hm
  clear hm
  go_enter Try.func5, Try.ntmps5
  go_wp2_with fail
  refine (tmerge_calls o a b _ (by omega) (by omega) (by omega)).mono ?_
  rintro e w1 ⟨rfl, hb⟩
  rw [HM.out]
  simp only [Option.isSome_some, Option.getD_some, Option.isSome_none, Option.getD_none]
  have HB := Lib.hid hb
  clear hb HM
  go_wp2_with fail
  rw [show ((a.size : Int) + 1) = ((a.size + 1 : Nat) : Int) from by omega]
  refine (SeqI.low_calls at_ (a.size + 1) _ (by omega) (by omega)).mono ?_
  rintro e w2 ⟨⟨r, rfl, hr⟩, rfl⟩
  have hr0 : r ≤ a.size := by omega
  have hr1 : (r : Int) ≤ (a.size : Int) := by omega
  have hr2 : (0 : Int) ≤ (r : Int) := by omega
  go_wp2_with fail
  have hsl1 : ∀ W : World, (Instr.slice 9 (.string a) none (some (.int .i64 (r : Int))) none).run Try.prog W = .ok (.string (a.extract 0 r)) W := fun W => by
    simp [Instr.slice, Instr.sliceBounds, Instr.sliceBound, asIntOf, run_underlying Try.underlying9, hr1, hr2]
    intro hc
    omega
  have hsl2 : ∀ W : World, (Instr.slice 9 (.string a) (some (.int .i64 (r : Int))) none none).run Try.prog W = .ok (.string (a.extract r a.size)) W := fun W => by
    simp [Instr.slice, Instr.sliceBounds, Instr.sliceBound, asIntOf, run_underlying Try.underlying9, hr1, hr2]
    intro hc
    omega
  have e1 : (a.extract 0 r).size ≤ 500 := by rw [ByteArray.size_extract]; omega
  have e2 : (a.extract r a.size).size ≤ 500 := by rw [ByteArray.size_extract]; omega
  have e3 : (a.extract 0 r ++ ⟨#[0]⟩).size ≤ 501 := by rw [ByteArray.size_append]; have : (⟨#[0]⟩ : ByteArray).size = 1 := rfl; omega
  have e4 : (a.extract 0 r ++ ⟨#[0]⟩ ++ a.extract r a.size).size ≤ 1001 := by rw [ByteArray.size_append]; omega
  have hc1 : ∀ W : World, (Op.stringOp .add (a.extract 0 r) ⟨#[0]⟩).run Try.prog W = .ok (.string (a.extract 0 r ++ ⟨#[0]⟩)) W := fun W => run_string_add W _ _ (by omega) (by decide)
  have hc2 : ∀ W : World, (Op.stringOp .add (a.extract 0 r ++ ⟨#[0]⟩) (a.extract r a.size)).run Try.prog W = .ok (.string (a.extract 0 r ++ ⟨#[0]⟩ ++ a.extract r a.size)) W := fun W => run_string_add W _ _ (by omega) (by omega)
  have hp := zero_plain (a.extract 0 r) (a.extract r a.size)
  go_region_held3 (fun _ => True) (exact trivial) (first | fail)
  obtain ⟨z, hz⟩ : ∃ z, z = a.extract 0 r ++ ⟨#[0]⟩ ++ a.extract r a.size := ⟨_, rfl⟩
  rw [← hz] at hp e4 ⊢
  have HB2 := Lib.hid (HB.out.trans ((drewB w2).mono HB.out.size))
  clear hz e1 e2 e3 hc1 hc2 hsl1 hsl2 hr hr0 hr1 hr2 HB
  go_wp2_with fail
  refine (tmerge_calls o z b _ (by omega) (by omega) (by omega)).mono ?_
  rintro e w3 ⟨rfl, hb⟩
  have HB3 := Lib.hid (HB2.out.trans (hb.mono HB2.out.size))
  clear hb HB2
  by_cases c1 : z = b
  · subst c1
    rw [Text.merge_same]
    simp only [Option.isSome_some, Option.getD_some]
    go_wp2_with fail
    refine (awake6 _).mono ?_
    rintro e w5 ⟨rfl, hb⟩
    have HB5 := Lib.hid (HB3.out.trans (hb.mono HB3.out.size))
    clear hb
    go_wp2_with fail
    go_ret
    exact ⟨rfl, HB5.out⟩
  · have t1 := tl_ne c1
    have t1' := tl_beq c1
    have t1'' := tl_dec c1
    by_cases c2 : b = o
    · subst c2
      rw [Text.merge_right]
      simp only [Option.isSome_some, Option.getD_some]
      go_wp2_with fail
      refine (awake6 _).mono ?_
      rintro e w5 ⟨rfl, hb⟩
      have HB5 := Lib.hid (HB3.out.trans (hb.mono HB3.out.size))
      clear hb
      go_wp2_with fail
      go_ret
      exact ⟨rfl, HB5.out⟩
    · have t2 := tl_ne c2
      have t2' := tl_beq c2
      have t2'' := tl_dec c2
      by_cases c3 : z = o
      · subst c3
        rw [Text.merge_left]
        simp only [Option.isSome_some, Option.getD_some]
        go_wp2_with fail
        refine (awake6 _).mono ?_
        rintro e w5 ⟨rfl, hb⟩
        have HB5 := Lib.hid (HB3.out.trans (hb.mono HB3.out.size))
        clear hb
        go_wp2_with fail
        go_ret
        exact ⟨rfl, HB5.out⟩
      · have t3 := tl_ne c3
        have t3' := tl_beq c3
        have t3'' := tl_dec c3
        obtain ⟨q1, q2⟩ := zero_none hp c1 c2 c3
        have Q2 := Lib.hid q2
        rw [q1]
        simp only [Option.isSome_none, Option.getD_none]
        clear q1 q2
        go_wp2_with fail
        refine (confl_calls o z b _ (by omega) (by omega) (by omega)).mono ?_
        rintro e w4 ⟨rfl, hb⟩
        rw [Q2.out]
        replace HB3 := Lib.hid (HB3.out.trans (hb.mono HB3.out.size))
        clear hb
        go_wp2_with fail
        refine (awake6 _).mono ?_
        rintro e w5 ⟨rfl, hb⟩
        have HB5 := Lib.hid (HB3.out.trans (hb.mono HB3.out.size))
        clear hb
        go_wp2_with fail
        go_ret
        exact ⟨rfl, HB5.out⟩
theorem tbounds_law (o a b : ByteArray) (at_ : Int) (w : World) (_ : o.size ≤ 140737488351232) (_ : a.size ≤ 140737488351232) (_ : b.size ≤ 140737488351232) (h9 : (Lit.int .i64 at_).wf = true) :
    Calls Try.prog 5 #[.string o, .string a, .string b, .int .i64 at_] w fun e w' => e = .returned (.bool true) ∧ Below w.heap.size w w' := by
  by_cases h1 : 500 < o.size
  · exact tbounds_long1 o a b at_ w h1
  · by_cases h2 : 500 < a.size
    · exact tbounds_long2 o a b at_ w h1 h2
    · by_cases h3 : 500 < b.size
      · exact tbounds_long3 o a b at_ w h1 h2 h3
      · rcases hm : Text.merge o a b with _ | s
        · exact tbounds_none o a b at_ w h9 (by omega) (by omega) (by omega) hm
        · by_cases hs : s.size ≤ 400
          · exact tbounds_few o a b s at_ w h9 (by omega) (by omega) (by omega) hm hs
          · by_cases hq : s = a
            · exact tbounds_a o a b s at_ w h9 (by omega) (by omega) (by omega) hm hs hq
            · rcases merge_bound hm with h | h | h
              · exact absurd h hs
              · exact absurd h hq
              · exact tbounds_b o a b s at_ w h9 (by omega) (by omega) (by omega) hm hs hq h
end Go.Proofs.Ythghpmnbnfbheaa.SeqS
