/- ScriptHex's law, as it is called. -/
import Derived.Test.YtipccndoffcfiaaDoorScriptAwake
namespace Go.Proofs.YtipccndoffcfiaaDoor.Script
open Go.RowKit Go.Proofs.YtipccndoffcfiaaDoor.PRef Go.Proofs.YtipccndoffcfiaaDoorW.PrintWords Go.Proofs.YtipccndoffcfiaaDoorW.PrintLast Go.Proofs.YtipccndoffcfiaaDoor.Rounds
attribute [local go_sem] Oper.semAt_some
set_option linter.unusedVariables false
set_option linter.unusedSimpArgs false
theorem refbytes_calls (s : ByteArray) (hs : s.size ≤ 1000000) (w : World) : Calls Tryd.prog 12 #[.string s] w fun e w' => e = .returned (.tuple #[.string ((bytesP s).getD ⟨#[]⟩), .bool (bytesP s).isSome]) ∧ Below w.heap.size w w' := by
  obtain ⟨k, m, hk⟩ := ref_bytes s hs
  exact cortegeref27_Bytes.calls (m + k) s _ _ w (hk m (Nat.le_refl m))
theorem hexP_size (s : ByteArray) : (hexP s).size ≤ 2 * s.size + 1 := by
  unfold hexP
  split
  · show 1 ≤ _
    omega
  · show ((hexL s.data.toList).toArray).size ≤ _
    have := hexL_len s.data.toList
    have h2 := size_toList s
    simp only [List.size_toArray]
    omega
theorem then_below {w w1 w2 : World} (h1 : Below w.heap.size w w1) (h2 : Below w1.heap.size w1 w2) : Below w.heap.size w w2 := h1.trans (h2.mono h1.size)
set_option maxHeartbeats 4000000 in
set_option maxRecDepth 100000 in
theorem hex_law (b s : ByteArray) (w : World) (he : Env w) : Calls Tryd.prog 3 #[.string b, .string s] w fun e w' => e = .returned (.bool true) ∧ Below w.heap.size w w' := by
  by_cases h1 : (500 : Int) < (b.size : Int)
  · have d1 : decide ((500 : Int) < (b.size : Int)) = true := decide_eq_true h1
    go_enter Tryd.func3, Tryd.ntmps3
    go_wp2_with fail
    refine (awake_calls _ he).mono ?_
    rintro e w1 ⟨rfl, hb⟩
    go_wp2_with fail
    go_ret
    exact ⟨rfl, hb⟩
  · have d1 : decide ((500 : Int) < (b.size : Int)) = false := decide_eq_false h1
    by_cases h2 : (500 : Int) < (s.size : Int)
    · have d2 : decide ((500 : Int) < (s.size : Int)) = true := decide_eq_true h2
      go_enter Tryd.func3, Tryd.ntmps3
      go_wp2_with fail
      refine (awake_calls _ he).mono ?_
      rintro e w1 ⟨rfl, hb⟩
      go_wp2_with fail
      go_ret
      exact ⟨rfl, hb⟩
    · have d2 : decide ((500 : Int) < (s.size : Int)) = false := decide_eq_false h2
      have hs1 : b.size ≤ 1000000 := by omega
      have hs2 : s.size ≤ 1000000 := by omega
      have hs3 : (hexP b).size ≤ 1000000 := by have := hexP_size b; omega
      have hbh := bytes_hex b
      have HXC := hex_calls b hs1
      have RXC := refhex_calls b hs1
      have BHC := bytes_calls (hexP b) hs3
      have BSC := bytes_calls s hs2
      have RSC := refbytes_calls s hs2
      rw [hbh] at BHC
      simp only [Option.getD_some, Option.isSome_some] at BHC
      generalize hexP b = hx at HXC RXC BHC
      generalize bytesP s = bs at BSC RSC
      have HC1 := Lib.hid HXC
      have HC2 := Lib.hid RXC
      have HC3 := Lib.hid BHC
      have HC4 := Lib.hid BSC
      have HC5 := Lib.hid RSC
      clear HXC RXC BHC BSC RSC hbh hs3
      go_enter Tryd.func3, Tryd.ntmps3
      go_wp2_with fail
      refine (HC1.out _).mono ?_
      rintro e w1 ⟨rfl, hb1⟩
      go_wp2_with fail
      refine (HC3.out _).mono ?_
      rintro e w2 ⟨rfl, hb2⟩
      replace hb2 := then_below hb1 hb2
      clear hb1
      go_wp2_with fail
      refine (HC4.out _).mono ?_
      rintro e w3 ⟨rfl, hb3⟩
      replace hb3 := then_below hb2 hb3
      clear hb2
      go_wp2_with fail
      refine (HC5.out _).mono ?_
      rintro e w4 ⟨rfl, hb4⟩
      replace hb4 := then_below hb3 hb4
      clear hb3
      go_wp2_with fail
      refine (HC2.out _).mono ?_
      rintro e w5 ⟨rfl, hb5⟩
      replace hb5 := then_below hb4 hb5
      clear hb4
      go_wp2_with fail
      refine (awake_calls _ (he.below hb5)).mono ?_
      rintro e w6 ⟨rfl, hb6⟩
      replace hb6 := then_below hb5 hb6
      clear hb5
      go_wp2_with fail
      go_ret
      exact ⟨rfl, hb6⟩
theorem hex_row (b s : ByteArray) (w : World) (_ : b.size ≤ 140737488351232) (_ : s.size ≤ 140737488351232) (he : Env w) : Calls Tryd.prog 3 #[.string b, .string s] w fun e w' => e = .returned (.bool true) ∧ Below w.heap.size w w' := hex_law b s w he
end Go.Proofs.YtipccndoffcfiaaDoor.Script
