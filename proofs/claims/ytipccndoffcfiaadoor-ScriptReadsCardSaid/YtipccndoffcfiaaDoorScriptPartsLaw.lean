/- ScriptParts' law, as it is called. -/
import Derived.Test.YtipccndoffcfiaaDoorScriptHexLaw
import Derived.Test.YtipccndoffcfiaaDoorScriptPartsP
namespace Go.Proofs.YtipccndoffcfiaaDoor.Script
open Go.RowKit Go.Proofs.YtipccndoffcfiaaDoor.PRef Go.Proofs.YtipccndoffcfiaaDoorW.PrintWords Go.Proofs.YtipccndoffcfiaaDoorW.PrintLast Go.Proofs.YtipccndoffcfiaaDoor.Rounds
attribute [local go_sem] Oper.semAt_some
set_option linter.unusedVariables false
set_option linter.unusedSimpArgs false
theorem wordsP_cs {cs : List Int} {es : List S47} {l : List ByteArray} {cs' : List Int} {es' : List S47} (hc : cs.length = 5) (h : wordsP cs es l = some (cs', es')) : cs'.length = 5 := by
  match l with
  | [] => cases h
  | a :: t =>
    rw [wordsP_cons] at h
    split at h
    · obtain ⟨ns, h1, h⟩ := Option.map_eq_some_iff.1 h
      cases h
      rw [List.length_map]
      exact len5 h1.symm rfl
    · split at h
      · obtain ⟨_, _, h⟩ := Option.map_eq_some_iff.1 h
        cases h
        exact hc
      · split at h
        · obtain ⟨_, _, h⟩ := Option.map_eq_some_iff.1 h
          cases h
          exact hc
        · cases h
theorem runP_cs (k : Nat) : ∀ (cs : List Int) (es : List S47) (n : Nat) (s : ByteArray), cs.length = 5 → (runP k cs es n s).1.length = 5 := by
  induction k with
  | zero => intro cs es n s _; rfl
  | succ k ih =>
    intro cs es n s hc
    by_cases hs : s = ⟨#[]⟩
    · subst hs; rw [runP_nil]; exact hc
    · cases hw : wordsP cs es (words (one s)) with
      | none => rw [runP_bad hs hw]; rfl
      | some r => rw [runP_good hs hw]; exact ih _ _ _ _ (wordsP_cs hc hw)
theorem parseP_cs (s : ByteArray) : (parseP s).1.length = 5 := by
  unfold parseP
  split
  · rfl
  · exact runP_cs _ _ _ _ _ rfl
/-- A text that is read. -/
theorem parse_good (s : ByteArray) (w : World) (hs : s.size ≤ 100000000) (he : Env w) {cs : List Int} {es : List S47} (hp : parseP s = (cs, es, 0, 0)) : Calls Tryd.prog 14 #[.string s] w fun e w' =>
    ∃ (a0 a1 a2 a3 a4 : Int) (esv : Value), cs = [a0, a1, a2, a3, a4] ∧ e = .returned (.tuple #[.agg #[.int .i64 a0, .int .i64 a1, .int .i64 a2, .int .i64 a3, .int .i64 a4], esv, .int .i64 0, .int .i64 0]) ∧ (∃ base, w.heap.size ≤ base ∧ Kd.R k47 47 w' base (fun _ => True) esv es) ∧ Below w.heap.size w w' := by
  have hl := parseP_cs s
  refine (parse_calls s w hs he).mono ?_
  rw [hp] at hl ⊢
  rintro e w' ⟨esv, rfl, hr, hb⟩
  obtain ⟨a0, a1, a2, a3, a4, rfl⟩ := five cs hl
  exact ⟨a0, a1, a2, a3, a4, esv, rfl, rfl, hr, hb⟩
/-- A text that is refused. -/
theorem parse_bad (s : ByteArray) (w : World) (hs : s.size ≤ 100000000) (he : Env w) {m : Nat} {c : Int} (hp : parseP s = ([0, 0, 0, 0, 0], [], m, c)) : Calls Tryd.prog 14 #[.string s] w fun e w' =>
    ∃ (A : Option Addr) (cp : Nat), e = .returned (.tuple #[.agg #[.int .i64 0, .int .i64 0, .int .i64 0, .int .i64 0, .int .i64 0], .slice A 0 cp, .int .i64 (m : Int), .int .i64 c]) ∧ Below w.heap.size w w' := by
  refine (parse_calls s w hs he).mono ?_
  rw [hp]
  rintro e w' ⟨esv, rfl, ⟨base, hb0, hr⟩, hb⟩
  obtain ⟨A, cp, rfl⟩ := Kd.R_slice hr
  exact ⟨A, cp, rfl, hb⟩
theorem parts_below {w w1 w2 w3 : World} {o1 o2 : Obj} (h1 : Below w.heap.size w w1) (h2 : Below (w1.alloc o1).heap.size (w1.alloc o1) w2) (h3 : Below (w2.alloc o2).heap.size (w2.alloc o2) w3) : Below w.heap.size w w3 := by
  have p1 := then_below h1 (below_push w1 o1)
  have p2 := then_below p1 h2
  have p3 := then_below p2 (below_push w2 o2)
  exact then_below p3 h3
set_option maxHeartbeats 4000000 in
set_option maxRecDepth 100000 in
theorem parts_law (s t : ByteArray) (w : World) (he : Env w) : Calls Tryd.prog 5 #[.string s, .string t] w fun e w' => e = .returned (.bool true) ∧ Below w.heap.size w w' := by
  by_cases h1 : (10000 : Int) < (s.size : Int)
  · have d1 : decide ((10000 : Int) < (s.size : Int)) = true := decide_eq_true h1
    go_enter Tryd.func5, Tryd.ntmps5
    go_wp2_with fail
    refine (awake_calls _ he).mono ?_
    rintro e w1 ⟨rfl, hb⟩
    go_wp2_with fail
    go_ret
    exact ⟨rfl, hb⟩
  · have d1 : decide ((10000 : Int) < (s.size : Int)) = false := decide_eq_false h1
    by_cases h2 : (10000 : Int) < (t.size : Int)
    · have d2 : decide ((10000 : Int) < (t.size : Int)) = true := decide_eq_true h2
      go_enter Tryd.func5, Tryd.ntmps5
      go_wp2_with fail
      refine (awake_calls _ he).mono ?_
      rintro e w1 ⟨rfl, hb⟩
      go_wp2_with fail
      go_ret
      exact ⟨rfl, hb⟩
    · have d2 : decide ((10000 : Int) < (t.size : Int)) = false := decide_eq_false h2
      have hs1 : s.size ≤ 10000 := by omega
      have hs2 : t.size ≤ 10000 := by omega
      have hzz : (s ++ ⟨#[10]⟩ ++ t).size ≤ 100000000 := by
        rw [ByteArray.size_append, ByteArray.size_append]
        show s.size + 1 + t.size ≤ _
        omega
      rcases parts_plain s t hs1 hs2 with ⟨cs, es, hp1, hp2⟩ | ⟨m, hm1, hm2, hp1, hp2⟩
      · have G1 := parse_good s w (by omega) he hp1
        go_enter Tryd.func5, Tryd.ntmps5
        go_wp2_with fail
        refine G1.mono ?_
        rintro e w1 ⟨a0, a1, a2, a3, a4, esv, rfl, rfl, hr, hb1⟩
        have HB1 := Lib.hid hb1
        have HE1 := Lib.hid (he.below hb1)
        clear hb1 hr G1
        rcases hp2 with ⟨cs', es', hp2⟩ | ⟨m, hm1, hm2, hp2⟩
        · have G2 := fun w he => parse_good (s ++ ⟨#[10]⟩ ++ t) w hzz he hp2
          have HG2 := Lib.hid G2
          clear G2 hp1 hp2 he
          go_wp2_with fail
          refine (HG2.out _ (HE1.out.below (below_push w1 _))).mono ?_
          rintro e w2 ⟨b0, b1, b2, b3, b4, esv2, rfl, rfl, hr2, hb2⟩
          have HB2 := Lib.hid hb2
          have HE2 := Lib.hid ((HE1.out.below (below_push w1 _)).below hb2)
          clear hb2 hr2
          go_wp2_with fail
          refine (awake_calls _ (HE2.out.below (below_push w2 _))).mono ?_
          rintro e w3 ⟨rfl, hb3⟩
          have HB3 := Lib.hid hb3
          clear hb3
          go_wp2_with fail
          go_ret
          exact ⟨rfl, parts_below HB1.out HB2.out HB3.out⟩
        · have G2 := fun w he => parse_bad (s ++ ⟨#[10]⟩ ++ t) w hzz he hp2
          have HG2 := Lib.hid G2
          clear G2 hp1 hp2 he
          go_wp2_with fail
          refine (HG2.out _ (HE1.out.below (below_push w1 _))).mono ?_
          rintro e w2 ⟨A2, c2, rfl, hb2⟩
          have HB2 := Lib.hid hb2
          have HE2 := Lib.hid ((HE1.out.below (below_push w1 _)).below hb2)
          clear hb2
          have hblk := ptrs_alloc w2 0 28 [.int .i64 0, .int .i64 0, .int .i64 0, .int .i64 0, .int .i64 0]
          have k0 := hblk.cell 0 (by simp)
          have k1 := hblk.cell 1 (by simp)
          have k2 := hblk.cell 2 (by simp)
          have k3 := hblk.cell 3 (by simp)
          have k4 := hblk.cell 4 (by simp)
          simp only [List.getElem_cons_zero, List.getElem_cons_succ] at k0 k1 k2 k3 k4
          clear hblk
          have dm : decide ((0 : Int) < (m : Int)) = true := decide_eq_true (by omega)
          go_wp2_with fail
          refine (awake_calls _ (HE2.out.below (below_push w2 _))).mono ?_
          rintro e w3 ⟨rfl, hb3⟩
          have HB3 := Lib.hid hb3
          clear hb3
          go_wp2_with fail
          go_ret
          exact ⟨rfl, parts_below HB1.out HB2.out HB3.out⟩
      · have G1 := parse_bad s w (by omega) he hp1
        have hse : ¬ s = ⟨#[]⟩ := fun e => by
          rw [e] at hp1
          have h := (show parseP ⟨#[]⟩ = ([0, 0, 0, 0, 0], [], 0, 0) from rfl).symm.trans hp1
          have := congrArg (fun x => x.2.2.2) h
          simp at this
        have hsz : 0 < s.size := by
          rcases Nat.eq_zero_or_pos s.size with h0 | h0
          · exact absurd (ByteArray.ext (Array.eq_empty_of_size_eq_zero h0)) hse
          · exact h0
        have t1 : (s.toList == []) = false := tl_lit hse
        have t1d : ¬ s.toList = [] := fun e => by rw [e] at t1; exact absurd t1 (by decide)
        go_enter Tryd.func5, Tryd.ntmps5
        go_wp2_with fail
        refine G1.mono ?_
        rintro e w1 ⟨A1, c1, rfl, hb1⟩
        have HB1 := Lib.hid hb1
        have HE1 := Lib.hid (he.below hb1)
        clear hb1 G1
        have G2 := fun w he => parse_bad (s ++ ⟨#[10]⟩ ++ t) w hzz he hp2
        have HG2 := Lib.hid G2
        clear G2 hp1 hp2 he
        go_wp2_with fail
        refine (HG2.out _ (HE1.out.below (below_push w1 _))).mono ?_
        rintro e w2 ⟨A2, c2, rfl, hb2⟩
        have HB2 := Lib.hid hb2
        have HE2 := Lib.hid ((HE1.out.below (below_push w1 _)).below hb2)
        clear hb2
        go_wp2_with fail
        all_goals refine (awake_calls _ (HE2.out.below (below_push w2 _))).mono ?_
        all_goals rintro e w3 ⟨rfl, hb3⟩
        all_goals have HB3 := Lib.hid hb3
        all_goals clear hb3
        all_goals go_wp2_with fail
        all_goals go_ret
        all_goals exact ⟨rfl, parts_below HB1.out HB2.out HB3.out⟩
theorem parts_row (s t : ByteArray) (w : World) (_ : s.size ≤ 140737488351232) (_ : t.size ≤ 140737488351232) (he : Env w) : Calls Tryd.prog 5 #[.string s, .string t] w fun e w' => e = .returned (.bool true) ∧ Below w.heap.size w w' := parts_law s t w he
end Go.Proofs.YtipccndoffcfiaaDoor.Script
