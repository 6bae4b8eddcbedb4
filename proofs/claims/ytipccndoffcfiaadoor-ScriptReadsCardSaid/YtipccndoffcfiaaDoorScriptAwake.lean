/- script's awake, as it is called. -/
import Derived.Test.YtipccndoffcfiaaDoorScriptAwakeP
import Derived.Test.YtipccndoffcfiaaDoorPRefx2
namespace Go.Proofs.YtipccndoffcfiaaDoor.Script
open Go.RowKit Go.Proofs.YtipccndoffcfiaaDoor.PRef Go.Proofs.YtipccndoffcfiaaDoorW.PrintWords Go.Proofs.YtipccndoffcfiaaDoorW.PrintLast Go.Proofs.YtipccndoffcfiaaDoor.Rounds
attribute [local go_sem] Oper.semAt_some
set_option linter.unusedVariables false
set_option linter.unusedSimpArgs false
def text1 : ByteArray := ⟨#[115, 101, 116, 32, 49, 32, 50, 32, 51, 32, 52, 32, 53, 10, 101, 118, 32, 50, 32, 57, 10, 97, 115, 107, 32, 48, 102, 10]⟩
def text2 : ByteArray := ⟨#[101, 118, 32, 50, 32, 49, 10, 101, 118, 32, 49, 32, 48]⟩
def evs : List S47 := [⟨2, 9, ⟨#[]⟩⟩, ⟨1, 0, ⟨#[15]⟩⟩]
theorem awake_first (w : World) (he : Env w) : Calls Tryd.prog 14 #[.string text1] w fun e w' =>
    ∃ (A : Option Addr) (c : Nat), e = .returned (.tuple #[.agg #[.int .i64 1, .int .i64 2, .int .i64 3, .int .i64 4, .int .i64 5], .slice A 2 c, .int .i64 0, .int .i64 0]) ∧ 2 ≤ c ∧ Kd.C k47 w' A 2 evs ∧ Below w.heap.size w w' := by
  refine (parse_calls text1 w (by decide) he).mono ?_
  rw [show parseP text1 = _ from awake_one]
  rintro e w' ⟨esv, rfl, ⟨base, hb0, hr⟩, hb⟩
  obtain ⟨A, c, rfl⟩ := Kd.R_slice hr
  have h := Kd.R_reads' hr
  exact ⟨A, c, rfl, h.2.1, h.2.2, hb⟩
theorem awake_second (w : World) (he : Env w) : Calls Tryd.prog 14 #[.string text2] w fun e w' =>
    ∃ (v : Value), e = .returned (.tuple #[.agg #[.int .i64 0, .int .i64 0, .int .i64 0, .int .i64 0, .int .i64 0], v, .int .i64 2, .int .i64 10]) ∧ Below w.heap.size w w' := by
  refine (parse_calls text2 w (by decide) he).mono ?_
  rw [show parseP text2 = _ from awake_two]
  rintro e w' ⟨esv, rfl, _, hb⟩
  exact ⟨esv, rfl, hb⟩
theorem same_evs : cortegelaw0_SameEvents.f 10 evs evs = some true := by kernel_rfl
theorem evs_alloc (w : World) : Kd.C k47 (w.alloc (.cells #[.int .i64 2, .int .i64 9, .string ⟨#[]⟩, .int .i64 1, .int .i64 0, .string ⟨#[15]⟩] 47)) (some ⟨w.heap.size, 0, none⟩) 2 evs := by
  have hb := ptrs_alloc w 0 47 [.int .i64 2, .int .i64 9, .string ⟨#[]⟩, .int .i64 1, .int .i64 0, .string ⟨#[15]⟩]
  have c0 := hb.cell 0 (by simp)
  have c1 := hb.cell 1 (by simp)
  have c2 := hb.cell 2 (by simp)
  have c3 := hb.cell 3 (by simp)
  have c4 := hb.cell 4 (by simp)
  have c5 := hb.cell 5 (by simp)
  refine ⟨rfl, by omega, fun _ => ⟨_, rfl, fun j p hj => ?_⟩⟩
  match j, hj with
  | 0, hj =>
    cases hj
    refine ⟨_, rfl, k47_mk _ ⟨2, 9, ⟨#[]⟩⟩, fun i u hu => ?_⟩
    match i, hu with
    | 0, hu => cases hu; exact c0
    | 1, hu => cases hu; exact c1
    | 2, hu => cases hu; exact c2
    | i + 3, hu => simp at hu
  | 1, hj =>
    cases hj
    refine ⟨_, rfl, k47_mk _ ⟨1, 0, ⟨#[15]⟩⟩, fun i u hu => ?_⟩
    match i, hu with
    | 0, hu => cases hu; exact c3
    | 1, hu => cases hu; exact c4
    | 2, hu => cases hu; exact c5
    | i + 3, hu => simp at hu
  | j + 2, hj => simp [evs] at hj
theorem awake_hexc (w : World) : Calls Tryd.prog 10 #[.string ⟨#[15, 122]⟩] w fun e w' => e = .returned (.string ⟨#[48, 102, 55, 97]⟩) ∧ Below w.heap.size w w' := by
  have := hex_calls ⟨#[15, 122]⟩ (by decide) w
  rwa [awake_hex] at this
theorem awake_below {w w3 w5 : World} {o : Obj} {nd : Nat} (h3 : Below w.heap.size w w3) (h5 : Below ((w3.alloc o).drewN nd).heap.size ((w3.alloc o).drewN nd) w5) : Below w.heap.size w w5 := by
  have h4 : Below w3.heap.size w3 ((w3.alloc o).drewN nd) := (below_push w3 o).trans ⟨rfl, rfl, rfl, Nat.le_refl _, fun _ _ => rfl⟩
  have hs := h3.size
  have hs4 := h4.size
  exact h3.trans ((h4.mono hs).trans (h5.mono (by omega)))
def W1 (w : World) : World := w.alloc (.cells #[.int .i64 1, .int .i64 2, .int .i64 3, .int .i64 4, .int .i64 5] 28)
set_option maxHeartbeats 4000000 in
set_option maxRecDepth 100000 in
theorem awake_calls (w : World) (he : Env w) : Calls Tryd.prog 9 #[] w fun e w' => e = .returned (.bool true) ∧ Below w.heap.size w w' := by
  go_enter Tryd.func9, Tryd.ntmps9
  go_wp2_with fail
  refine (awake_first _ he).mono ?_
  rintro e w1 ⟨A, c, rfl, hc, hC, hb1⟩
  have he1 := he.below hb1
  have HC := Lib.hid hC
  have HB1 := Lib.hid hb1
  clear hC hb1 he
  go_wp2_with fail
  refine (awake_second _ (he1.below (below_push w1 _))).mono ?_
  rintro e w2 ⟨v, rfl, hb2⟩
  have hblk := ((ptrs_alloc w1 0 28 [.int .i64 1, .int .i64 2, .int .i64 3, .int .i64 4, .int .i64 5]).below hb2).below (below_push w2 (.cells #[.int .i64 0, .int .i64 0, .int .i64 0, .int .i64 0, .int .i64 0] 28))
  have k0 := hblk.cell 0 (by simp)
  have k1 := hblk.cell 1 (by simp)
  have k2 := hblk.cell 2 (by simp)
  have k3 := hblk.cell 3 (by simp)
  have k4 := hblk.cell 4 (by simp)
  simp only [List.getElem_cons_zero, List.getElem_cons_succ] at k0 k1 k2 k3 k4
  have hb12 : Below w1.heap.size w1 (w2.alloc (.cells #[.int .i64 0, .int .i64 0, .int .i64 0, .int .i64 0, .int .i64 0] 28)) := (below_push w1 _).trans ((hb2.mono (by simp)).trans ((below_push w2 _).mono (by have := hb2.size; simp at this; omega)))
  have HB3 := Lib.hid (HB1.out.trans (hb12.mono (by have := HB1.out.size; omega)))
  have HC3 := Lib.hid (Kd.C_below HC.out hb12)
  clear hb2 hblk hb12 he1 HC HB1
  have hE := evs_alloc (w2.alloc (.cells #[.int .i64 0, .int .i64 0, .int .i64 0, .int .i64 0, .int .i64 0] 28))
  rw [show (w2.alloc (.cells #[.int .i64 0, .int .i64 0, .int .i64 0, .int .i64 0, .int .i64 0] 28)).heap.size = w2.heap.size + 1 by simp] at hE
  have HE := Lib.hid hE
  clear hE
  go_wp2_with fail
  refine (cortegelaw0_SameEvents.calls 10 A c evs (some ⟨w2.heap.size + 1, 0, none⟩) 2 evs true _ (Kd.C_below HC3.out (below_push _ _)) hc HE.out (Nat.le_refl _) same_evs).mono ?_
  rintro e w4 ⟨rfl, ⟨nd, rfl⟩⟩
  go_wp2_with fail
  refine (awake_hexc _).mono ?_
  rintro e w5 ⟨rfl, hb5⟩
  have HB5 := Lib.hid hb5
  clear hb5
  go_wp2_with fail
  go_ret
  exact ⟨rfl, awake_below HB3.out HB5.out⟩
end Go.Proofs.YtipccndoffcfiaaDoor.Script
