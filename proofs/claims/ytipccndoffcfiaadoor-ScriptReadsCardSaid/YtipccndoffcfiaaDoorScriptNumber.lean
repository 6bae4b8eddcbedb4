/- script.number, as it is called. -/
import Derived.Test.YtipccndoffcfiaaDoorScriptEnv
namespace Go.Proofs.YtipccndoffcfiaaDoor.Script
open Go.RowKit
attribute [local go_sem] Oper.semAt_some
set_option linter.unusedVariables false
set_option linter.unusedSimpArgs false
theorem tl_inj {a b : ByteArray} (h : a.toList = b.toList) : a = b := by
  rw [ByteArray.toList_eq, ByteArray.toList_eq] at h
  cases a
  cases b
  simp at h
  rw [h]
theorem tl_ne {a b : ByteArray} (h : ¬ a = b) : ¬ a.toList = b.toList := fun e => h (tl_inj e)
theorem tl_beq {a b : ByteArray} (h : ¬ a = b) : (a.toList == b.toList) = false := by simpa using tl_ne h
theorem tl_dec {a b : ByteArray} (h : ¬ a = b) : decide (a.toList = b.toList) = false := decide_eq_false (tl_ne h)
/-- The number that a text spells. -/
def numB (s : ByteArray) : Option Nat := numL s.data.toList
theorem itoaB_eq (v : Int) (s : ByteArray) : itoaB v = s ↔ Lib.itoa v = s.data.toList := by
  unfold itoaB
  constructor
  · intro h; subst h; rfl
  · intro h
    rw [h]
def NumPost (s : ByteArray) (w : World) (e : Ending) (w' : World) : Prop := e = .returned (.tuple #[.int .i64 (((numB s).getD 0 : Nat) : Int), .bool (numB s).isSome]) ∧ Below w.heap.size w w'
theorem num_none {s : ByteArray} (h : numB s = none) (w w' : World) (hb : Below w.heap.size w w') : NumPost s w (.returned (.tuple #[.int .i64 0, .bool false])) w' := by
  refine ⟨?_, hb⟩
  rw [h]
  rfl
set_option maxHeartbeats 4000000 in
set_option maxRecDepth 100000 in
theorem number_calls (s : ByteArray) (w : World) (hs : s.size ≤ 1000000) (h : Env w) : Calls Tryd.prog 64 #[.string s] w (NumPost s w) := by
  have HE := Lib.hid h
  clear h
  go_enter Tryd.func64, Tryd.ntmps64
  go_wp2_with fail
  refine (atoi_calls s _ hs HE.out).mono ?_
  rintro e w1 ⟨v, x, rfl, hx, hb⟩
  have HB := Lib.hid hb
  clear hb
  rcases hx with ⟨rfl, ha⟩ | ⟨⟨N, rfl⟩, hn⟩
  · have hbd := Lib.atoiAll_bounds ha
    have hdef : numB s = if 0 ≤ v ∧ v ≤ (most : Int) ∧ Lib.itoa v = s.data.toList then some v.toNat else none := by
      unfold numB numL
      rw [ha]
    have HD := Lib.hid hdef
    clear ha hdef
    by_cases h0 : v < 0
    · have d0 : decide (v < 0) = true := decide_eq_true h0
      go_wp2_with fail
      go_ret2
      exact num_none (by rw [HD.out, if_neg (by rintro ⟨a, _⟩; omega)]) _ _ HB.out
    · have d0 : decide (v < 0) = false := decide_eq_false h0
      by_cases h1 : 1099511627776 < v
      · have d1 : decide (1099511627776 < v) = true := decide_eq_true h1
        go_wp2_with fail
        go_ret2
        exact num_none (by rw [HD.out, if_neg (by rintro ⟨_, a, _⟩; unfold most at a; omega)]) _ _ HB.out
      · have d1 : decide (1099511627776 < v) = false := decide_eq_false h1
        go_wp2_with fail
        refine (itoa_calls v _ hbd (HE.out.below HB.out)).mono ?_
        rintro e w2 ⟨rfl, hb⟩
        replace HB := Lib.hid (HB.out.trans (hb.mono HB.out.size))
        clear hb
        by_cases he : itoaB v = s
        · have hv : numB s = some v.toNat := by rw [HD.out, if_pos ⟨by omega, by unfold most; omega, (itoaB_eq v s).1 he⟩]
          have HV := Lib.hid hv
          rw [he]
          clear hv he HD
          go_wp2_with fail
          go_ret2
          refine ⟨?_, HB.out⟩
          rw [HV.out]
          simp only [Option.getD_some, Option.isSome_some]
          rw [Int.toNat_of_nonneg (by omega)]
          rfl
        · have hv : numB s = none := by rw [HD.out, if_neg (by rintro ⟨_, _, a⟩; exact he ((itoaB_eq v s).2 a))]
          have HV := Lib.hid hv
          generalize itoaB v = t at he ⊢
          have t1 := tl_ne he
          have t1' := tl_beq he
          have t1'' := tl_dec he
          clear hv HD
          go_wp2_with fail
          go_ret2
          exact num_none HV.out _ _ HB.out
  · have hv : numB s = none := by
      unfold numB numL
      split
      · rename_i u hu
        exact absurd hu (hn u)
      · rfl
    have HV := Lib.hid hv
    clear hv hn
    go_wp2_with fail
    go_ret2
    exact num_none HV.out _ _ HB.out
end Go.Proofs.YtipccndoffcfiaaDoor.Script
