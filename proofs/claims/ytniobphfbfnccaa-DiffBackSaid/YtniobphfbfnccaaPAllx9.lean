-- Printed by wip/xprint.py (a program of this repo, round the kit's print.py)
import Derived.Test.YtniobphfbfnccaaPAllx0
import Derived.Test.YtniobphfbfnccaaPAllx3
import Derived.Test.YtniobphfbfnccaaPAllx6
import Derived.Test.YtniobphfbfnccaaPAllx7
import Derived.Test.YtniobphfbfnccaaPAllx8
namespace Go.Proofs.Ytniobphfbfnccaa.PAll
open Go.RowKit Go.Proofs.YtniobphfbfnccaaW.PrintWords Go.Proofs.YtniobphfbfnccaaW.PrintLast Go.Proofs.YtniobphfbfnccaaW.PrintMore
attribute [local go_sem] max2_int min2_int max_two min_two max_three min_three max_four min_four   -- for this text's walks alone
set_option linter.unusedVariables false
set_option linter.unusedSimpArgs false

/-! ### cortegelaw4_DiffBack: function 4 -/
mutual
def cortegelaw4_DiffBack.j0 : Nat → List ByteArray → List ByteArray → Bool → Option (Bool)
 | 0, _, _, _ => none
 | k + 1, x0, x1, x18 => if x18 = true then ((cortegelaw4_awake.f k).bind fun t208 => (some t208)) else ((diff_Steps_string.f k x0 x1).bind fun t209 => ((diff_Apply_string.f k x0 x1 t209).bind fun bt212 => (cortegelaw4_DiffBack.l0 k x0 x1 t209 bt212.1 bt212.2 0 0 0 0)))
def cortegelaw4_DiffBack.l0 : Nat → List ByteArray → List ByteArray → List (S40) → List ByteArray → Bool → Int → Int → Int → Int → Option (Bool)
 | 0, _, _, _, _, _, _, _, _, _ => none
 | k + 1, x0, x1, x5, x6, x7, x8, x9, x10, x11 => if x11 < (x5.length : Int) then (if 0 ≤ x11 then (if ((rd_T40 x5 x11).f0) < 0 then (some false) else (if ((rd_T40 x5 x11).f1) < 0 then (some false) else (if ((rd_T40 x5 x11).f2) < 0 then (some false) else (if x11 > 0 then (if ((rd_T40 x5 x11).f0) = 0 then (some false) else (if (wrap64 (x11 + 1)) < (x5.length : Int) then (if (wrap64 (((rd_T40 x5 x11).f1) + ((rd_T40 x5 x11).f2))) = 0 then (some false) else (cortegelaw4_DiffBack.l0 k x0 x1 x5 x6 x7 (wrap64 (x8 + ((rd_T40 x5 x11).f0))) (wrap64 (x9 + ((rd_T40 x5 x11).f1))) (wrap64 (x10 + ((rd_T40 x5 x11).f2))) (wrap64 (x11 + 1)))) else (cortegelaw4_DiffBack.l0 k x0 x1 x5 x6 x7 (wrap64 (x8 + ((rd_T40 x5 x11).f0))) (wrap64 (x9 + ((rd_T40 x5 x11).f1))) (wrap64 (x10 + ((rd_T40 x5 x11).f2))) (wrap64 (x11 + 1))))) else (if (wrap64 (x11 + 1)) < (x5.length : Int) then (if (wrap64 (((rd_T40 x5 x11).f1) + ((rd_T40 x5 x11).f2))) = 0 then (some false) else (cortegelaw4_DiffBack.l0 k x0 x1 x5 x6 x7 (wrap64 (x8 + ((rd_T40 x5 x11).f0))) (wrap64 (x9 + ((rd_T40 x5 x11).f1))) (wrap64 (x10 + ((rd_T40 x5 x11).f2))) (wrap64 (x11 + 1)))) else (cortegelaw4_DiffBack.l0 k x0 x1 x5 x6 x7 (wrap64 (x8 + ((rd_T40 x5 x11).f0))) (wrap64 (x9 + ((rd_T40 x5 x11).f1))) (wrap64 (x10 + ((rd_T40 x5 x11).f2))) (wrap64 (x11 + 1)))))))) else (none)) else (if x7 = true then ((cortegelaw0_SameTexts.f k x6 x1).bind fun t236 => (if t236 = true then ((diff_Length_string.f k x0 x1).bind fun t237 => (if x8 = t237 then (if (wrap64 (x8 + x9)) = (x0.length : Int) then (cortegelaw4_DiffBack.j2 k x0 ((wrap64 (x8 + x10)) != (x1.length : Int))) else (cortegelaw4_DiffBack.j2 k x0 true)) else (cortegelaw4_DiffBack.j2 k x0 true))) else (cortegelaw4_DiffBack.j2 k x0 true))) else (cortegelaw4_DiffBack.j2 k x0 true))
def cortegelaw4_DiffBack.j2 : Nat → List ByteArray → Bool → Option (Bool)
 | 0, _, _ => none
 | k + 1, x0, x142 => if x142 = true then (some false) else ((diff_Steps_string.f k x0 x0).bind fun t238 => (if (x0.length : Int) = 0 then (if (t238.length : Int) = 0 then ((cortegelaw4_awake.f k).bind fun t241 => (some t241)) else (some false)) else ((cortegelaw0_SameSteps.f k t238 (([(⟨(x0.length : Int), 0, 0⟩ : S40)] : List (S40)))).bind fun t245 => (if t245 = true then ((cortegelaw4_awake.f k).bind fun t246 => (some t246)) else (some false)))))
end
def cortegelaw4_DiffBack.f (k : Nat) (l0 : List ByteArray) (l1 : List ByteArray) : Option (Bool) := (cortegelaw0_GreatTexts.f k l0 40 20).bind fun t206 => (if t206 = true then (cortegelaw4_DiffBack.j0 k l0 l1 true) else ((cortegelaw0_GreatTexts.f k l1 40 20).bind fun t207 => (cortegelaw4_DiffBack.j0 k l0 l1 t207)))
theorem cortegelaw4_DiffBack.mono_l : ∀ k, (∀ y0 y1 y2, LeO (cortegelaw4_DiffBack.j0 k y0 y1 y2) (cortegelaw4_DiffBack.j0 (k + 1) y0 y1 y2)) ∧ (∀ y0 y1 y2 y3 y4 y5 y6 y7 y8, LeO (cortegelaw4_DiffBack.l0 k y0 y1 y2 y3 y4 y5 y6 y7 y8) (cortegelaw4_DiffBack.l0 (k + 1) y0 y1 y2 y3 y4 y5 y6 y7 y8)) ∧ (∀ y0 y1, LeO (cortegelaw4_DiffBack.j2 k y0 y1) (cortegelaw4_DiffBack.j2 (k + 1) y0 y1))
 | 0 => ⟨fun _ _ _ r h => by simp [cortegelaw4_DiffBack.j0] at h, fun _ _ _ _ _ _ _ _ _ r h => by simp [cortegelaw4_DiffBack.l0] at h, fun _ _ r h => by simp [cortegelaw4_DiffBack.j2] at h⟩
 | k + 1 => by
  obtain ⟨ih0, ih1, ih2⟩ := cortegelaw4_DiffBack.mono_l k
  refine ⟨?_, ?_, ?_⟩
  ·intro y0 y1 y2
   unfold cortegelaw4_DiffBack.j0
   repeat' first
   | (with_reducible exact ih0 _ _ _)
   | (with_reducible exact ih1 _ _ _ _ _ _ _ _ _)
   | (with_reducible exact ih2 _ _)
   | (with_reducible exact cortegelaw0_GreatTexts.mono _ _ _ _)
   | (with_reducible exact cortegelaw0_SameSteps.mono _ _ _)
   | (with_reducible exact cortegelaw0_SameTexts.mono _ _ _)
   | (with_reducible exact cortegelaw4_awake.mono _)
   | (with_reducible exact diff_Apply_string.mono _ _ _ _)
   | (with_reducible exact diff_Length_string.mono _ _ _)
   | (with_reducible exact diff_Steps_string.mono _ _ _)
   | (with_reducible exact LeO.refl _)
   | (with_reducible exact LeO.none _)
   | (with_reducible refine LeO.ite ?_ ?_)
   | (with_reducible refine LeO.bind ?_ (fun _ => ?_))
   | exact ih0 _ _ _
   | exact ih1 _ _ _ _ _ _ _ _ _
   | exact ih2 _ _
   | exact cortegelaw0_GreatTexts.mono _ _ _ _
   | exact cortegelaw0_SameSteps.mono _ _ _
   | exact cortegelaw0_SameTexts.mono _ _ _
   | exact cortegelaw4_awake.mono _
   | exact diff_Apply_string.mono _ _ _ _
   | exact diff_Length_string.mono _ _ _
   | exact diff_Steps_string.mono _ _ _
   | exact LeO.none _
   | refine LeO.ite ?_ ?_
   | refine LeO.bind ?_ (fun _ => ?_)
  ·intro y0 y1 y2 y3 y4 y5 y6 y7 y8
   unfold cortegelaw4_DiffBack.l0
   repeat' first
   | (with_reducible exact ih0 _ _ _)
   | (with_reducible exact ih1 _ _ _ _ _ _ _ _ _)
   | (with_reducible exact ih2 _ _)
   | (with_reducible exact cortegelaw0_GreatTexts.mono _ _ _ _)
   | (with_reducible exact cortegelaw0_SameSteps.mono _ _ _)
   | (with_reducible exact cortegelaw0_SameTexts.mono _ _ _)
   | (with_reducible exact cortegelaw4_awake.mono _)
   | (with_reducible exact diff_Apply_string.mono _ _ _ _)
   | (with_reducible exact diff_Length_string.mono _ _ _)
   | (with_reducible exact diff_Steps_string.mono _ _ _)
   | (with_reducible exact LeO.refl _)
   | (with_reducible exact LeO.none _)
   | (with_reducible refine LeO.ite ?_ ?_)
   | (with_reducible refine LeO.bind ?_ (fun _ => ?_))
   | exact ih0 _ _ _
   | exact ih1 _ _ _ _ _ _ _ _ _
   | exact ih2 _ _
   | exact cortegelaw0_GreatTexts.mono _ _ _ _
   | exact cortegelaw0_SameSteps.mono _ _ _
   | exact cortegelaw0_SameTexts.mono _ _ _
   | exact cortegelaw4_awake.mono _
   | exact diff_Apply_string.mono _ _ _ _
   | exact diff_Length_string.mono _ _ _
   | exact diff_Steps_string.mono _ _ _
   | exact LeO.none _
   | refine LeO.ite ?_ ?_
   | refine LeO.bind ?_ (fun _ => ?_)
  ·intro y0 y1
   unfold cortegelaw4_DiffBack.j2
   repeat' first
   | (with_reducible exact ih0 _ _ _)
   | (with_reducible exact ih1 _ _ _ _ _ _ _ _ _)
   | (with_reducible exact ih2 _ _)
   | (with_reducible exact cortegelaw0_GreatTexts.mono _ _ _ _)
   | (with_reducible exact cortegelaw0_SameSteps.mono _ _ _)
   | (with_reducible exact cortegelaw0_SameTexts.mono _ _ _)
   | (with_reducible exact cortegelaw4_awake.mono _)
   | (with_reducible exact diff_Apply_string.mono _ _ _ _)
   | (with_reducible exact diff_Length_string.mono _ _ _)
   | (with_reducible exact diff_Steps_string.mono _ _ _)
   | (with_reducible exact LeO.refl _)
   | (with_reducible exact LeO.none _)
   | (with_reducible refine LeO.ite ?_ ?_)
   | (with_reducible refine LeO.bind ?_ (fun _ => ?_))
   | exact ih0 _ _ _
   | exact ih1 _ _ _ _ _ _ _ _ _
   | exact ih2 _ _
   | exact cortegelaw0_GreatTexts.mono _ _ _ _
   | exact cortegelaw0_SameSteps.mono _ _ _
   | exact cortegelaw0_SameTexts.mono _ _ _
   | exact cortegelaw4_awake.mono _
   | exact diff_Apply_string.mono _ _ _ _
   | exact diff_Length_string.mono _ _ _
   | exact diff_Steps_string.mono _ _ _
   | exact LeO.none _
   | refine LeO.ite ?_ ?_
   | refine LeO.bind ?_ (fun _ => ?_)
theorem cortegelaw4_DiffBack.mono : ∀ a0 a1 k, LeO (cortegelaw4_DiffBack.f k a0 a1) (cortegelaw4_DiffBack.f (k + 1) a0 a1) := by
 intro a0 a1 k
 obtain ⟨ih0, ih1, ih2⟩ := cortegelaw4_DiffBack.mono_l k
 unfold cortegelaw4_DiffBack.f
 repeat' first
  | (with_reducible exact ih0 _ _ _)
  | (with_reducible exact ih1 _ _ _ _ _ _ _ _ _)
  | (with_reducible exact ih2 _ _)
  | (with_reducible exact cortegelaw0_GreatTexts.mono _ _ _ _)
  | (with_reducible exact cortegelaw0_SameSteps.mono _ _ _)
  | (with_reducible exact cortegelaw0_SameTexts.mono _ _ _)
  | (with_reducible exact cortegelaw4_awake.mono _)
  | (with_reducible exact diff_Apply_string.mono _ _ _ _)
  | (with_reducible exact diff_Length_string.mono _ _ _)
  | (with_reducible exact diff_Steps_string.mono _ _ _)
  | (with_reducible exact LeO.refl _)
  | (with_reducible exact LeO.none _)
  | (with_reducible refine LeO.ite ?_ ?_)
  | (with_reducible refine LeO.bind ?_ (fun _ => ?_))
  | exact ih0 _ _ _
  | exact ih1 _ _ _ _ _ _ _ _ _
  | exact ih2 _ _
  | exact cortegelaw0_GreatTexts.mono _ _ _ _
  | exact cortegelaw0_SameSteps.mono _ _ _
  | exact cortegelaw0_SameTexts.mono _ _ _
  | exact cortegelaw4_awake.mono _
  | exact diff_Apply_string.mono _ _ _ _
  | exact diff_Length_string.mono _ _ _
  | exact diff_Steps_string.mono _ _ _
  | exact LeO.none _
  | refine LeO.ite ?_ ?_
  | refine LeO.bind ?_ (fun _ => ?_)
set_option maxHeartbeats 8000000 in
set_option maxRecDepth 100000 in
theorem cortegelaw4_DiffBack.calls (k : Nat) (A0 : Option Addr) (c0 : Nat) (l0 : List ByteArray) (A1 : Option Addr) (c1 : Nat) (l1 : List ByteArray) (r : Bool) (w : World) (hr0 : Kd.C Kd.string w A0 l0.length l0) (hc0 : l0.length ≤ c0) (hr1 : Kd.C Kd.string w A1 l1.length l1) (hc1 : l1.length ≤ c1) (h : cortegelaw4_DiffBack.f k l0 l1 = some r) :
 Calls Try.prog 4 #[.slice A0 l0.length c0, .slice A1 l1.length c1] w fun e w' => e = .returned (.bool r) ∧ Below w.heap.size w w' := by
 have hu40 := Try.underlying40
 have HR0 := Aside0.mk hr0
 have HC0 := Aside0.mk hc0
 clear hr0 hc0
 have HR1 := Aside0.mk hr1
 have HC1 := Aside0.mk hc1
 clear hr1 hc1
 have HB := Aside0.mk (Below.refl w.heap.size w)
 have H : ((cortegelaw0_GreatTexts.f k l0 40 20).bind fun t206 => (if t206 = true then (cortegelaw4_DiffBack.j0 k l0 l1 true) else ((cortegelaw0_GreatTexts.f k l1 40 20).bind fun t207 => (cortegelaw4_DiffBack.j0 k l0 l1 t207)))) = some r := h
 clear h
 have HC3 := Aside0.mk H
 clear H
 go_enter Try.func4, Try.ntmps4
 go_upto_region 1 with (fail)
 repeat (go_quiet (fail); go_upto_region 1 with (fail))
 go_cut [18] (fun v18 wc => ∃ (kq : Nat) (x18_2 : Bool), v18 = .bool x18_2 ∧ Aside0 (cortegelaw4_DiffBack.j0 kq l0 l1 x18_2 = some r) ∧ Aside0 (kq ≤ k) ∧ Aside0 (Below w.heap.size w wc))
 case first =>
  have H := HC3.out
  clear HC3
  replace H := Option.bind_eq_some_iff.mp H
  obtain ⟨t206, A40, H⟩ := H
  replace H : (if t206 = true then (cortegelaw4_DiffBack.j0 k l0 l1 true) else ((cortegelaw0_GreatTexts.f k l1 40 20).bind fun t207 => (cortegelaw4_DiffBack.j0 k l0 l1 t207))) = some r := H
  have A4 := Aside0.mk A40
  clear A40
  by_cases c5 : t206 = true
  ·subst c5
   have H1 : (cortegelaw4_DiffBack.j0 k l0 l1 true) = some r := by rw [if_pos rfl] at H; exact H
   clear H
   have H := H1
   clear H1
   have H' := Aside0.mk H
   clear H
   go_wp2_with (first | (go_at_call 8; (with_reducible refine (cortegelaw0_GreatTexts.calls k _ _ l0 40 20 true _ ?side1 ?side2 A4.out).mono ?_); (case side1 => repeat (first | exact (Kd.C_below HR0.out HB.out) | (with_reducible refine Kd.C_alloc ?_ _) | (with_reducible refine Kd.C_drewN ?_ _) | (with_reducible refine Kd.C_drew ?_))); (case side2 => exact HC0.out); rintro e w' ⟨rfl, ⟨nd, rfl⟩⟩; (try first | exact ⟨rfl, _, World.drewN_drewN _ _ _⟩ | exact ⟨rfl, _, Eq.trans (World.drewN_drewN _ _ _) (congrArg (World.drewN _) (Nat.add_assoc _ _ _))⟩)))
   go_meet
   case rel => exact ⟨_, (true), (by first | rfl | (simp; done) | (simp [*]; done)), H', ⟨by first | omega | exact Nat.le_refl _⟩, ⟨by repeat first | exact HB.out | apply below_alloc | apply pw_below_drewN | apply below_drew1⟩⟩
  ·replace c5 := Bool.eq_false_iff.mpr c5
   subst c5
   have H1 : ((cortegelaw0_GreatTexts.f k l1 40 20).bind fun t207 => (cortegelaw4_DiffBack.j0 k l0 l1 t207)) = some r := by rw [if_neg (show ¬ (false = true) by decide)] at H; exact H
   clear H
   have H := H1
   clear H1
   replace H := Option.bind_eq_some_iff.mp H
   obtain ⟨t207, A60, H⟩ := H
   replace H : (cortegelaw4_DiffBack.j0 k l0 l1 t207) = some r := H
   have A6 := Aside0.mk A60
   clear A60
   have H' := Aside0.mk H
   clear H
   go_wp2_with (first | (go_at_call 8; (with_reducible refine (cortegelaw0_GreatTexts.calls k _ _ l0 40 20 false _ ?side1 ?side2 A4.out).mono ?_); (case side1 => repeat (first | exact (Kd.C_below HR0.out HB.out) | (with_reducible refine Kd.C_alloc ?_ _) | (with_reducible refine Kd.C_drewN ?_ _) | (with_reducible refine Kd.C_drew ?_))); (case side2 => exact HC0.out); rintro e w' ⟨rfl, ⟨nd, rfl⟩⟩; (try first | exact ⟨rfl, _, World.drewN_drewN _ _ _⟩ | exact ⟨rfl, _, Eq.trans (World.drewN_drewN _ _ _) (congrArg (World.drewN _) (Nat.add_assoc _ _ _))⟩)) | (go_at_call 8; (with_reducible refine (cortegelaw0_GreatTexts.calls k _ _ l1 40 20 t207 _ ?side1 ?side2 A6.out).mono ?_); (case side1 => repeat (first | exact (Kd.C_below HR1.out (by repeat first | exact HB.out | apply below_alloc | apply pw_below_drewN | apply below_drew1)) | (with_reducible refine Kd.C_alloc ?_ _) | (with_reducible refine Kd.C_drewN ?_ _) | (with_reducible refine Kd.C_drew ?_))); (case side2 => exact HC1.out); rintro e w' ⟨rfl, ⟨nd, rfl⟩⟩; (try first | exact ⟨rfl, _, World.drewN_drewN _ _ _⟩ | exact ⟨rfl, _, Eq.trans (World.drewN_drewN _ _ _) (congrArg (World.drewN _) (Nat.add_assoc _ _ _))⟩)))
   go_meet
   case rel => exact ⟨_, (t207), (by first | rfl | (simp; done) | (simp [*]; done)), H', ⟨by first | omega | exact Nat.le_refl _⟩, ⟨by repeat first | exact HB.out | apply below_alloc | apply pw_below_drewN | apply below_drew1⟩⟩
 case rest =>
  clear HC3
  try clear c1
  try clear p2
  try clear c4
  try clear c5
  obtain ⟨kq, x18_2, rfl, HA, HJ2, HB⟩ := hcut
  cases kq with
  | zero => exact absurd HA.out (by simp [cortegelaw4_DiffBack.j0])
  | succ kj2 =>
   have H := HA.out
   clear HA
   simp only [cortegelaw4_DiffBack.j0] at H
   by_cases c7 : x18_2 = true
   ·subst c7
    have H1 : ((cortegelaw4_awake.f kj2).bind fun t208 => (some t208)) = some r := by rw [if_pos rfl] at H; exact H
    clear H
    have H := H1
    clear H1
    replace H := Option.bind_eq_some_iff.mp H
    obtain ⟨t208, A80, H⟩ := H
    replace H : (some t208) = some r := H
    have A8 := Aside0.mk A80
    clear A80
    obtain rfl := Option.some.inj H
    go_wp2_with (first | (go_at_call 9; (with_reducible refine (cortegelaw4_awake.calls kj2  t208 _ A8.out).mono ?_); rintro e w9 ⟨rfl, hb⟩; have n0_ := Aside0.mk (below_step (by repeat first | exact HB.out | apply below_alloc | apply pw_below_drewN | apply below_drew1) hb); clear HB; have HB := n0_; clear n0_; (try clear hb); (try clear hb2); (try clear hk); (try clear hi)))
    go_ret
    exact ⟨by first | rfl | (simp [errW_none, errW_some] <;> rfl) | (simp [*, errW_none, errW_some] <;> rfl), by repeat first | exact HB.out | apply below_alloc | apply pw_below_drewN | apply below_drew1⟩
   ·replace c7 := Bool.eq_false_iff.mpr c7
    subst c7
    have H1 : ((diff_Steps_string.f kj2 l0 l1).bind fun t209 => ((diff_Apply_string.f kj2 l0 l1 t209).bind fun bt212 => (cortegelaw4_DiffBack.l0 kj2 l0 l1 t209 bt212.1 bt212.2 0 0 0 0))) = some r := by rw [if_neg (show ¬ (false = true) by decide)] at H; exact H
    clear H
    have H := H1
    clear H1
    replace H := Option.bind_eq_some_iff.mp H
    obtain ⟨t209, A100, H⟩ := H
    replace H : ((diff_Apply_string.f kj2 l0 l1 t209).bind fun bt212 => (cortegelaw4_DiffBack.l0 kj2 l0 l1 t209 bt212.1 bt212.2 0 0 0 0)) = some r := H
    have A10 := Aside0.mk A100
    clear A100
    replace H := Option.bind_eq_some_iff.mp H
    obtain ⟨⟨t212, t213⟩, A110, H⟩ := H
    replace H : (cortegelaw4_DiffBack.l0 kj2 l0 l1 t209 t212 t213 0 0 0 0) = some r := H
    have A11 := Aside0.mk A110
    clear A110
    have H' := Aside0.mk H
    clear H
    go_wp2_with (first | (go_at_call 11; (with_reducible refine (diff_Steps_string.calls kj2 _ _ l0 _ _ l1 t209 _ ?side1 ?side2 ?side3 ?side4 A10.out).mono ?_); (case side1 => repeat (first | exact (Kd.C_below HR0.out HB.out) | (with_reducible refine Kd.C_alloc ?_ _) | (with_reducible refine Kd.C_drewN ?_ _) | (with_reducible refine Kd.C_drew ?_))); (case side2 => exact HC0.out); (case side3 => repeat (first | exact (Kd.C_below HR1.out HB.out) | (with_reducible refine Kd.C_alloc ?_ _) | (with_reducible refine Kd.C_drewN ?_ _) | (with_reducible refine Kd.C_drew ?_))); (case side4 => exact HC1.out); rintro e w12 ⟨v210, rfl, ho0, hb⟩; have n0_ := Aside0.mk (Kd.R_lower ho0 (below_size (by repeat first | exact HB.out | apply below_alloc | apply pw_below_drewN | apply below_drew1))); have n1_ := Aside0.mk (below_step (by repeat first | exact HB.out | apply below_alloc | apply pw_below_drewN | apply below_drew1) hb); clear HB; have HO211 := n0_; have HB := n1_; clear n0_ n1_; (try clear hb); (try clear hb2); (try clear hk); (try clear hi); (try clear ho0); obtain ⟨Ao13, co13, eo13⟩ := Kd.R_slice HO211.out; subst eo13) | (go_at_call 12; (with_reducible refine (diff_Apply_string.calls kj2 _ _ l0 _ _ l1 _ _ t209 t212 t213 _ ?side1 ?side2 ?side3 ?side4 ?side5 ?side6 A11.out).mono ?_); (case side1 => repeat (first | exact (Kd.C_below HR0.out HB.out) | (with_reducible refine Kd.C_alloc ?_ _) | (with_reducible refine Kd.C_drewN ?_ _) | (with_reducible refine Kd.C_drew ?_))); (case side2 => exact HC0.out); (case side3 => repeat (first | exact (Kd.C_below HR1.out HB.out) | (with_reducible refine Kd.C_alloc ?_ _) | (with_reducible refine Kd.C_drewN ?_ _) | (with_reducible refine Kd.C_drew ?_))); (case side4 => exact HC1.out); (case side5 => repeat (first | exact (Kd.R_reads' HO211.out).2.2 | (with_reducible refine Kd.C_alloc ?_ _) | (with_reducible refine Kd.C_drewN ?_ _) | (with_reducible refine Kd.C_drew ?_))); (case side6 => exact (Kd.R_reads' HO211.out).2.1); rintro e w14 ⟨v214, rfl, ho0, hb⟩; have n0_ := Aside0.mk (Kd.R_below (by (with_reducible repeat (first | apply Kd.R_alloc | apply Kd.R_drewN | apply Kd.R_drew)); exact HO211.out) hb); have n1_ := Aside0.mk (Kd.R_lower ho0 (below_size (by repeat first | exact HB.out | apply below_alloc | apply pw_below_drewN | apply below_drew1))); have n2_ := Aside0.mk (below_step (by repeat first | exact HB.out | apply below_alloc | apply pw_below_drewN | apply below_drew1) hb); clear HO211; clear HB; have HO211 := n0_; have HO215 := n1_; have HB := n2_; clear n0_ n1_ n2_; (try clear hb); (try clear hb2); (try clear hk); (try clear hi); (try clear ho0)))
    go_loopg [8, 9, 10, 11] kj2 (fun kq v8 v9 v10 v11 w' => ∃ (x8_2 : Int) (x9_2 : Int) (x10_2 : Int) (x11_2 : Int), v8 = .int .i64 x8_2 ∧ v9 = .int .i64 x9_2 ∧ v10 = .int .i64 x10_2 ∧ v11 = .int .i64 x11_2 ∧ Aside0 (cortegelaw4_DiffBack.l0 kq l0 l1 t209 t212 t213 x8_2 x9_2 x10_2 x11_2 = some r) ∧ Aside0 (kq ≤ kj2) ∧ Aside0 (Kd.R k40 40 w' w.heap.size (fun _ => True) (.slice Ao13 t209.length co13) t209) ∧ Aside0 (Kd.R Kd.string 9 w' w.heap.size (fun _ => True) v214 t212) ∧ Aside0 (Below w.heap.size w w'))
    case atStart => exact ⟨(0), (0), (0), (0), (by first | rfl | (simp; done) | (simp [*]; done)), (by first | rfl | (simp; done) | (simp [*]; done)), (by first | rfl | (simp; done) | (simp [*]; done)), (by first | rfl | (simp; done) | (simp [*]; done)), H', ⟨Nat.le_refl _⟩, ⟨by (with_reducible repeat (first | apply Kd.R_alloc | apply Kd.R_drewN | apply Kd.R_drew)); exact HO211.out⟩, ⟨by (with_reducible repeat (first | apply Kd.R_alloc | apply Kd.R_drewN | apply Kd.R_drew)); exact HO215.out⟩, ⟨by repeat first | exact HB.out | apply below_alloc | apply pw_below_drewN | apply below_drew1⟩⟩
    case round =>
     clear H'
     try clear c1
     try clear p2
     try clear c4
     try clear c5
     try clear c7
     try clear p2
     obtain ⟨x8_2, x9_2, x10_2, x11_2, rfl, rfl, rfl, rfl, HA, HK2, HO_5, HO_6, HB⟩ := hrel
     cases gk with
     | zero => exact absurd HA.out (by simp [cortegelaw4_DiffBack.l0])
     | succ k2 =>
      have H := HA.out
      clear HA
      simp only [cortegelaw4_DiffBack.l0] at H
      by_cases c15 : x11_2 < (t209.length : Int)
      ·rw [if_pos c15] at H
       have c15b0 : decide (x11_2 < (t209.length : Int)) = true := decide_eq_true c15
       clear c15
       by_cases c16 : 0 ≤ x11_2
       ·rw [if_pos c16] at H
        have c16b0 : decide (0 ≤ x11_2) = true := decide_eq_true c16
        clear c16
        by_cases c17 : ((rd_T40 t209 x11_2).f0) < 0
        ·rw [if_pos c17] at H
         have c17b0 : decide (((rd_T40 t209 x11_2).f0) < 0) = true := decide_eq_true c17
         clear c17
         obtain rfl := Option.some.inj H
         have p216 : 0 ≤ (x11_2 : Int) := of_decide_eq_true (by assumption)
         have q216 : x11_2 < (t209.length : Int) := of_decide_eq_true (by assumption)
         obtain ⟨ad216, e216, hx216_0, hx216_1, hx216_2⟩ := at_T40 (Kd.R_reads' HO_5.out).2.2 x11_2 p216 q216
         cases e216
         replace p216 := eq_true p216
         replace q216 := eq_true q216
         go_wp2
         repeat (go_quiet (fail); try go_wp2)
         go_ret
         exact ⟨by first | rfl | (simp [errW_none, errW_some] <;> rfl) | (simp [*, errW_none, errW_some] <;> rfl), by repeat first | exact HB.out | apply below_alloc | apply pw_below_drewN | apply below_drew1⟩
        ·rw [if_neg c17] at H
         have c17b0 : decide (((rd_T40 t209 x11_2).f0) < 0) = false := decide_eq_false c17
         clear c17
         by_cases c18 : ((rd_T40 t209 x11_2).f1) < 0
         ·rw [if_pos c18] at H
          have c18b0 : decide (((rd_T40 t209 x11_2).f1) < 0) = true := decide_eq_true c18
          clear c18
          obtain rfl := Option.some.inj H
          have p216 : 0 ≤ (x11_2 : Int) := of_decide_eq_true (by assumption)
          have q216 : x11_2 < (t209.length : Int) := of_decide_eq_true (by assumption)
          obtain ⟨ad216, e216, hx216_0, hx216_1, hx216_2⟩ := at_T40 (Kd.R_reads' HO_5.out).2.2 x11_2 p216 q216
          cases e216
          replace p216 := eq_true p216
          replace q216 := eq_true q216
          have p217 : 0 ≤ (x11_2 : Int) := of_decide_eq_true (by assumption)
          have q217 : x11_2 < (t209.length : Int) := of_decide_eq_true (by assumption)
          obtain ⟨ad217, e217, hx217_0, hx217_1, hx217_2⟩ := at_T40 (Kd.R_reads' HO_5.out).2.2 x11_2 p217 q217
          obtain rfl : ad216 = ad217 := (by injection e217)
          replace p217 := eq_true p217
          replace q217 := eq_true q217
          go_wp2
          repeat (go_quiet (fail); try go_wp2)
          go_ret
          exact ⟨by first | rfl | (simp [errW_none, errW_some] <;> rfl) | (simp [*, errW_none, errW_some] <;> rfl), by repeat first | exact HB.out | apply below_alloc | apply pw_below_drewN | apply below_drew1⟩
         ·rw [if_neg c18] at H
          have c18b0 : decide (((rd_T40 t209 x11_2).f1) < 0) = false := decide_eq_false c18
          clear c18
          by_cases c19 : ((rd_T40 t209 x11_2).f2) < 0
          ·rw [if_pos c19] at H
           have c19b0 : decide (((rd_T40 t209 x11_2).f2) < 0) = true := decide_eq_true c19
           clear c19
           obtain rfl := Option.some.inj H
           have p216 : 0 ≤ (x11_2 : Int) := of_decide_eq_true (by assumption)
           have q216 : x11_2 < (t209.length : Int) := of_decide_eq_true (by assumption)
           obtain ⟨ad216, e216, hx216_0, hx216_1, hx216_2⟩ := at_T40 (Kd.R_reads' HO_5.out).2.2 x11_2 p216 q216
           cases e216
           replace p216 := eq_true p216
           replace q216 := eq_true q216
           have p217 : 0 ≤ (x11_2 : Int) := of_decide_eq_true (by assumption)
           have q217 : x11_2 < (t209.length : Int) := of_decide_eq_true (by assumption)
           obtain ⟨ad217, e217, hx217_0, hx217_1, hx217_2⟩ := at_T40 (Kd.R_reads' HO_5.out).2.2 x11_2 p217 q217
           obtain rfl : ad216 = ad217 := (by injection e217)
           replace p217 := eq_true p217
           replace q217 := eq_true q217
           have p218 : 0 ≤ (x11_2 : Int) := of_decide_eq_true (by assumption)
           have q218 : x11_2 < (t209.length : Int) := of_decide_eq_true (by assumption)
           obtain ⟨ad218, e218, hx218_0, hx218_1, hx218_2⟩ := at_T40 (Kd.R_reads' HO_5.out).2.2 x11_2 p218 q218
           obtain rfl : ad216 = ad218 := (by injection e218)
           replace p218 := eq_true p218
           replace q218 := eq_true q218
           go_wp2
           repeat (go_quiet (fail); try go_wp2)
           go_ret
           exact ⟨by first | rfl | (simp [errW_none, errW_some] <;> rfl) | (simp [*, errW_none, errW_some] <;> rfl), by repeat first | exact HB.out | apply below_alloc | apply pw_below_drewN | apply below_drew1⟩
          ·rw [if_neg c19] at H
           have c19b0 : decide (((rd_T40 t209 x11_2).f2) < 0) = false := decide_eq_false c19
           clear c19
           by_cases c20 : x11_2 > 0
           ·rw [if_pos c20] at H
            have c20b0 : decide (0 < x11_2) = true := decide_eq_true c20
            clear c20
            by_cases c21 : ((rd_T40 t209 x11_2).f0) = 0
            ·rw [if_pos c21] at H
             have c21b0 : (((rd_T40 t209 x11_2).f0) == 0) = true := beq_iff_eq.mpr c21
             have c21b1 : (((rd_T40 t209 x11_2).f0) != 0) = false := bne_eq_false_iff_eq.mpr c21
             clear c21
             obtain rfl := Option.some.inj H
             have p216 : 0 ≤ (x11_2 : Int) := of_decide_eq_true (by assumption)
             have q216 : x11_2 < (t209.length : Int) := of_decide_eq_true (by assumption)
             obtain ⟨ad216, e216, hx216_0, hx216_1, hx216_2⟩ := at_T40 (Kd.R_reads' HO_5.out).2.2 x11_2 p216 q216
             cases e216
             replace p216 := eq_true p216
             replace q216 := eq_true q216
             have p217 : 0 ≤ (x11_2 : Int) := of_decide_eq_true (by assumption)
             have q217 : x11_2 < (t209.length : Int) := of_decide_eq_true (by assumption)
             obtain ⟨ad217, e217, hx217_0, hx217_1, hx217_2⟩ := at_T40 (Kd.R_reads' HO_5.out).2.2 x11_2 p217 q217
             obtain rfl : ad216 = ad217 := (by injection e217)
             replace p217 := eq_true p217
             replace q217 := eq_true q217
             have p218 : 0 ≤ (x11_2 : Int) := of_decide_eq_true (by assumption)
             have q218 : x11_2 < (t209.length : Int) := of_decide_eq_true (by assumption)
             obtain ⟨ad218, e218, hx218_0, hx218_1, hx218_2⟩ := at_T40 (Kd.R_reads' HO_5.out).2.2 x11_2 p218 q218
             obtain rfl : ad216 = ad218 := (by injection e218)
             replace p218 := eq_true p218
             replace q218 := eq_true q218
             have p219 : 0 ≤ (x11_2 : Int) := of_decide_eq_true (by assumption)
             have q219 : x11_2 < (t209.length : Int) := of_decide_eq_true (by assumption)
             obtain ⟨ad219, e219, hx219_0, hx219_1, hx219_2⟩ := at_T40 (Kd.R_reads' HO_5.out).2.2 x11_2 p219 q219
             obtain rfl : ad216 = ad219 := (by injection e219)
             replace p219 := eq_true p219
             replace q219 := eq_true q219
             go_wp2
             repeat (go_quiet (fail); try go_wp2)
             go_ret
             exact ⟨by first | rfl | (simp [errW_none, errW_some] <;> rfl) | (simp [*, errW_none, errW_some] <;> rfl), by repeat first | exact HB.out | apply below_alloc | apply pw_below_drewN | apply below_drew1⟩
            ·rw [if_neg c21] at H
             have c21b0 : (((rd_T40 t209 x11_2).f0) == 0) = false := beq_eq_false_iff_ne.mpr c21
             have c21b1 : (((rd_T40 t209 x11_2).f0) != 0) = true := bne_iff_ne.mpr c21
             by_cases c22 : (wrap64 (x11_2 + 1)) < (t209.length : Int)
             ·rw [if_pos c22] at H
              have c22b0 : decide ((wrap64 (x11_2 + 1)) < (t209.length : Int)) = true := decide_eq_true c22
              clear c22
              by_cases c23 : (wrap64 (((rd_T40 t209 x11_2).f1) + ((rd_T40 t209 x11_2).f2))) = 0
              ·rw [if_pos c23] at H
               have c23b0 : ((wrap64 (((rd_T40 t209 x11_2).f1) + ((rd_T40 t209 x11_2).f2))) == 0) = true := beq_iff_eq.mpr c23
               have c23b1 : ((wrap64 (((rd_T40 t209 x11_2).f1) + ((rd_T40 t209 x11_2).f2))) != 0) = false := bne_eq_false_iff_eq.mpr c23
               clear c23
               obtain rfl := Option.some.inj H
               have p216 : 0 ≤ (x11_2 : Int) := of_decide_eq_true (by assumption)
               have q216 : x11_2 < (t209.length : Int) := of_decide_eq_true (by assumption)
               obtain ⟨ad216, e216, hx216_0, hx216_1, hx216_2⟩ := at_T40 (Kd.R_reads' HO_5.out).2.2 x11_2 p216 q216
               cases e216
               replace p216 := eq_true p216
               replace q216 := eq_true q216
               have p217 : 0 ≤ (x11_2 : Int) := of_decide_eq_true (by assumption)
               have q217 : x11_2 < (t209.length : Int) := of_decide_eq_true (by assumption)
               obtain ⟨ad217, e217, hx217_0, hx217_1, hx217_2⟩ := at_T40 (Kd.R_reads' HO_5.out).2.2 x11_2 p217 q217
               obtain rfl : ad216 = ad217 := (by injection e217)
               replace p217 := eq_true p217
               replace q217 := eq_true q217
               have p218 : 0 ≤ (x11_2 : Int) := of_decide_eq_true (by assumption)
               have q218 : x11_2 < (t209.length : Int) := of_decide_eq_true (by assumption)
               obtain ⟨ad218, e218, hx218_0, hx218_1, hx218_2⟩ := at_T40 (Kd.R_reads' HO_5.out).2.2 x11_2 p218 q218
               obtain rfl : ad216 = ad218 := (by injection e218)
               replace p218 := eq_true p218
               replace q218 := eq_true q218
               have p219 : 0 ≤ (x11_2 : Int) := of_decide_eq_true (by assumption)
               have q219 : x11_2 < (t209.length : Int) := of_decide_eq_true (by assumption)
               obtain ⟨ad219, e219, hx219_0, hx219_1, hx219_2⟩ := at_T40 (Kd.R_reads' HO_5.out).2.2 x11_2 p219 q219
               obtain rfl : ad216 = ad219 := (by injection e219)
               replace p219 := eq_true p219
               replace q219 := eq_true q219
               have p220 : 0 ≤ (x11_2 : Int) := of_decide_eq_true (by assumption)
               have q220 : x11_2 < (t209.length : Int) := of_decide_eq_true (by assumption)
               obtain ⟨ad220, e220, hx220_0, hx220_1, hx220_2⟩ := at_T40 (Kd.R_reads' HO_5.out).2.2 x11_2 p220 q220
               obtain rfl : ad216 = ad220 := (by injection e220)
               replace p220 := eq_true p220
               replace q220 := eq_true q220
               have p221 : 0 ≤ (x11_2 : Int) := of_decide_eq_true (by assumption)
               have q221 : x11_2 < (t209.length : Int) := of_decide_eq_true (by assumption)
               obtain ⟨ad221, e221, hx221_0, hx221_1, hx221_2⟩ := at_T40 (Kd.R_reads' HO_5.out).2.2 x11_2 p221 q221
               obtain rfl : ad216 = ad221 := (by injection e221)
               replace p221 := eq_true p221
               replace q221 := eq_true q221
               go_wp2
               repeat (go_quiet (fail); try go_wp2)
               go_ret
               exact ⟨by first | rfl | (simp [errW_none, errW_some] <;> rfl) | (simp [*, errW_none, errW_some] <;> rfl), by repeat first | exact HB.out | apply below_alloc | apply pw_below_drewN | apply below_drew1⟩
              ·rw [if_neg c23] at H
               have c23b0 : ((wrap64 (((rd_T40 t209 x11_2).f1) + ((rd_T40 t209 x11_2).f2))) == 0) = false := beq_eq_false_iff_ne.mpr c23
               have c23b1 : ((wrap64 (((rd_T40 t209 x11_2).f1) + ((rd_T40 t209 x11_2).f2))) != 0) = true := bne_iff_ne.mpr c23
               have H' := Aside0.mk H
               clear H
               have p216 : 0 ≤ (x11_2 : Int) := of_decide_eq_true (by assumption)
               have q216 : x11_2 < (t209.length : Int) := of_decide_eq_true (by assumption)
               obtain ⟨ad216, e216, hx216_0, hx216_1, hx216_2⟩ := at_T40 (Kd.R_reads' HO_5.out).2.2 x11_2 p216 q216
               cases e216
               replace p216 := eq_true p216
               replace q216 := eq_true q216
               have p217 : 0 ≤ (x11_2 : Int) := of_decide_eq_true (by assumption)
               have q217 : x11_2 < (t209.length : Int) := of_decide_eq_true (by assumption)
               obtain ⟨ad217, e217, hx217_0, hx217_1, hx217_2⟩ := at_T40 (Kd.R_reads' HO_5.out).2.2 x11_2 p217 q217
               obtain rfl : ad216 = ad217 := (by injection e217)
               replace p217 := eq_true p217
               replace q217 := eq_true q217
               have p218 : 0 ≤ (x11_2 : Int) := of_decide_eq_true (by assumption)
               have q218 : x11_2 < (t209.length : Int) := of_decide_eq_true (by assumption)
               obtain ⟨ad218, e218, hx218_0, hx218_1, hx218_2⟩ := at_T40 (Kd.R_reads' HO_5.out).2.2 x11_2 p218 q218
               obtain rfl : ad216 = ad218 := (by injection e218)
               replace p218 := eq_true p218
               replace q218 := eq_true q218
               have p219 : 0 ≤ (x11_2 : Int) := of_decide_eq_true (by assumption)
               have q219 : x11_2 < (t209.length : Int) := of_decide_eq_true (by assumption)
               obtain ⟨ad219, e219, hx219_0, hx219_1, hx219_2⟩ := at_T40 (Kd.R_reads' HO_5.out).2.2 x11_2 p219 q219
               obtain rfl : ad216 = ad219 := (by injection e219)
               replace p219 := eq_true p219
               replace q219 := eq_true q219
               have p220 : 0 ≤ (x11_2 : Int) := of_decide_eq_true (by assumption)
               have q220 : x11_2 < (t209.length : Int) := of_decide_eq_true (by assumption)
               obtain ⟨ad220, e220, hx220_0, hx220_1, hx220_2⟩ := at_T40 (Kd.R_reads' HO_5.out).2.2 x11_2 p220 q220
               obtain rfl : ad216 = ad220 := (by injection e220)
               replace p220 := eq_true p220
               replace q220 := eq_true q220
               have p221 : 0 ≤ (x11_2 : Int) := of_decide_eq_true (by assumption)
               have q221 : x11_2 < (t209.length : Int) := of_decide_eq_true (by assumption)
               obtain ⟨ad221, e221, hx221_0, hx221_1, hx221_2⟩ := at_T40 (Kd.R_reads' HO_5.out).2.2 x11_2 p221 q221
               obtain rfl : ad216 = ad221 := (by injection e221)
               replace p221 := eq_true p221
               replace q221 := eq_true q221
               have p222 : 0 ≤ (x11_2 : Int) := of_decide_eq_true (by assumption)
               have q222 : x11_2 < (t209.length : Int) := of_decide_eq_true (by assumption)
               obtain ⟨ad222, e222, hx222_0, hx222_1, hx222_2⟩ := at_T40 (Kd.R_reads' HO_5.out).2.2 x11_2 p222 q222
               obtain rfl : ad216 = ad222 := (by injection e222)
               replace p222 := eq_true p222
               replace q222 := eq_true q222
               have p223 : 0 ≤ (x11_2 : Int) := of_decide_eq_true (by assumption)
               have q223 : x11_2 < (t209.length : Int) := of_decide_eq_true (by assumption)
               obtain ⟨ad223, e223, hx223_0, hx223_1, hx223_2⟩ := at_T40 (Kd.R_reads' HO_5.out).2.2 x11_2 p223 q223
               obtain rfl : ad216 = ad223 := (by injection e223)
               replace p223 := eq_true p223
               replace q223 := eq_true q223
               have p224 : 0 ≤ (x11_2 : Int) := of_decide_eq_true (by assumption)
               have q224 : x11_2 < (t209.length : Int) := of_decide_eq_true (by assumption)
               obtain ⟨ad224, e224, hx224_0, hx224_1, hx224_2⟩ := at_T40 (Kd.R_reads' HO_5.out).2.2 x11_2 p224 q224
               obtain rfl : ad216 = ad224 := (by injection e224)
               replace p224 := eq_true p224
               replace q224 := eq_true q224
               go_wp2
               repeat (go_quiet (fail); try go_wp2)
               go_roundg k2
               case measure => have := HJ2.out; have := HK2.out; omega
               case rel => exact ⟨(wrap64 (x8_2 + ((rd_T40 t209 x11_2).f0))), (wrap64 (x9_2 + ((rd_T40 t209 x11_2).f1))), (wrap64 (x10_2 + ((rd_T40 t209 x11_2).f2))), (wrap64 (x11_2 + 1)), (by first | rfl | (simp; done) | (simp [*]; done)), (by first | rfl | (simp; done) | (simp [*]; done)), (by first | rfl | (simp; done) | (simp [*]; done)), (by first | rfl | (simp; done) | (simp [*]; done)), H', ⟨by have := HJ2.out; have := HK2.out; omega⟩, ⟨by (with_reducible repeat (first | apply Kd.R_alloc | apply Kd.R_drewN | apply Kd.R_drew)); exact HO_5.out⟩, ⟨by (with_reducible repeat (first | apply Kd.R_alloc | apply Kd.R_drewN | apply Kd.R_drew)); exact HO_6.out⟩, ⟨by repeat first | exact HB.out | apply below_alloc | apply pw_below_drewN | apply below_drew1⟩⟩
             ·rw [if_neg c22] at H
              have c22b0 : decide ((wrap64 (x11_2 + 1)) < (t209.length : Int)) = false := decide_eq_false c22
              clear c22
              have H' := Aside0.mk H
              clear H
              have p216 : 0 ≤ (x11_2 : Int) := of_decide_eq_true (by assumption)
              have q216 : x11_2 < (t209.length : Int) := of_decide_eq_true (by assumption)
              obtain ⟨ad216, e216, hx216_0, hx216_1, hx216_2⟩ := at_T40 (Kd.R_reads' HO_5.out).2.2 x11_2 p216 q216
              cases e216
              replace p216 := eq_true p216
              replace q216 := eq_true q216
              have p217 : 0 ≤ (x11_2 : Int) := of_decide_eq_true (by assumption)
              have q217 : x11_2 < (t209.length : Int) := of_decide_eq_true (by assumption)
              obtain ⟨ad217, e217, hx217_0, hx217_1, hx217_2⟩ := at_T40 (Kd.R_reads' HO_5.out).2.2 x11_2 p217 q217
              obtain rfl : ad216 = ad217 := (by injection e217)
              replace p217 := eq_true p217
              replace q217 := eq_true q217
              have p218 : 0 ≤ (x11_2 : Int) := of_decide_eq_true (by assumption)
              have q218 : x11_2 < (t209.length : Int) := of_decide_eq_true (by assumption)
              obtain ⟨ad218, e218, hx218_0, hx218_1, hx218_2⟩ := at_T40 (Kd.R_reads' HO_5.out).2.2 x11_2 p218 q218
              obtain rfl : ad216 = ad218 := (by injection e218)
              replace p218 := eq_true p218
              replace q218 := eq_true q218
              have p219 : 0 ≤ (x11_2 : Int) := of_decide_eq_true (by assumption)
              have q219 : x11_2 < (t209.length : Int) := of_decide_eq_true (by assumption)
              obtain ⟨ad219, e219, hx219_0, hx219_1, hx219_2⟩ := at_T40 (Kd.R_reads' HO_5.out).2.2 x11_2 p219 q219
              obtain rfl : ad216 = ad219 := (by injection e219)
              replace p219 := eq_true p219
              replace q219 := eq_true q219
              have p225 : 0 ≤ (x11_2 : Int) := of_decide_eq_true (by assumption)
              have q225 : x11_2 < (t209.length : Int) := of_decide_eq_true (by assumption)
              obtain ⟨ad225, e225, hx225_0, hx225_1, hx225_2⟩ := at_T40 (Kd.R_reads' HO_5.out).2.2 x11_2 p225 q225
              obtain rfl : ad216 = ad225 := (by injection e225)
              replace p225 := eq_true p225
              replace q225 := eq_true q225
              have p226 : 0 ≤ (x11_2 : Int) := of_decide_eq_true (by assumption)
              have q226 : x11_2 < (t209.length : Int) := of_decide_eq_true (by assumption)
              obtain ⟨ad226, e226, hx226_0, hx226_1, hx226_2⟩ := at_T40 (Kd.R_reads' HO_5.out).2.2 x11_2 p226 q226
              obtain rfl : ad216 = ad226 := (by injection e226)
              replace p226 := eq_true p226
              replace q226 := eq_true q226
              have p227 : 0 ≤ (x11_2 : Int) := of_decide_eq_true (by assumption)
              have q227 : x11_2 < (t209.length : Int) := of_decide_eq_true (by assumption)
              obtain ⟨ad227, e227, hx227_0, hx227_1, hx227_2⟩ := at_T40 (Kd.R_reads' HO_5.out).2.2 x11_2 p227 q227
              obtain rfl : ad216 = ad227 := (by injection e227)
              replace p227 := eq_true p227
              replace q227 := eq_true q227
              go_wp2
              repeat (go_quiet (fail); try go_wp2)
              go_roundg k2
              case measure => have := HJ2.out; have := HK2.out; omega
              case rel => exact ⟨(wrap64 (x8_2 + ((rd_T40 t209 x11_2).f0))), (wrap64 (x9_2 + ((rd_T40 t209 x11_2).f1))), (wrap64 (x10_2 + ((rd_T40 t209 x11_2).f2))), (wrap64 (x11_2 + 1)), (by first | rfl | (simp; done) | (simp [*]; done)), (by first | rfl | (simp; done) | (simp [*]; done)), (by first | rfl | (simp; done) | (simp [*]; done)), (by first | rfl | (simp; done) | (simp [*]; done)), H', ⟨by have := HJ2.out; have := HK2.out; omega⟩, ⟨by (with_reducible repeat (first | apply Kd.R_alloc | apply Kd.R_drewN | apply Kd.R_drew)); exact HO_5.out⟩, ⟨by (with_reducible repeat (first | apply Kd.R_alloc | apply Kd.R_drewN | apply Kd.R_drew)); exact HO_6.out⟩, ⟨by repeat first | exact HB.out | apply below_alloc | apply pw_below_drewN | apply below_drew1⟩⟩
           ·rw [if_neg c20] at H
            have c20b0 : decide (0 < x11_2) = false := decide_eq_false c20
            clear c20
            by_cases c24 : (wrap64 (x11_2 + 1)) < (t209.length : Int)
            ·rw [if_pos c24] at H
             have c24b0 : decide ((wrap64 (x11_2 + 1)) < (t209.length : Int)) = true := decide_eq_true c24
             clear c24
             by_cases c25 : (wrap64 (((rd_T40 t209 x11_2).f1) + ((rd_T40 t209 x11_2).f2))) = 0
             ·rw [if_pos c25] at H
              have c25b0 : ((wrap64 (((rd_T40 t209 x11_2).f1) + ((rd_T40 t209 x11_2).f2))) == 0) = true := beq_iff_eq.mpr c25
              have c25b1 : ((wrap64 (((rd_T40 t209 x11_2).f1) + ((rd_T40 t209 x11_2).f2))) != 0) = false := bne_eq_false_iff_eq.mpr c25
              clear c25
              obtain rfl := Option.some.inj H
              have p216 : 0 ≤ (x11_2 : Int) := of_decide_eq_true (by assumption)
              have q216 : x11_2 < (t209.length : Int) := of_decide_eq_true (by assumption)
              obtain ⟨ad216, e216, hx216_0, hx216_1, hx216_2⟩ := at_T40 (Kd.R_reads' HO_5.out).2.2 x11_2 p216 q216
              cases e216
              replace p216 := eq_true p216
              replace q216 := eq_true q216
              have p217 : 0 ≤ (x11_2 : Int) := of_decide_eq_true (by assumption)
              have q217 : x11_2 < (t209.length : Int) := of_decide_eq_true (by assumption)
              obtain ⟨ad217, e217, hx217_0, hx217_1, hx217_2⟩ := at_T40 (Kd.R_reads' HO_5.out).2.2 x11_2 p217 q217
              obtain rfl : ad216 = ad217 := (by injection e217)
              replace p217 := eq_true p217
              replace q217 := eq_true q217
              have p218 : 0 ≤ (x11_2 : Int) := of_decide_eq_true (by assumption)
              have q218 : x11_2 < (t209.length : Int) := of_decide_eq_true (by assumption)
              obtain ⟨ad218, e218, hx218_0, hx218_1, hx218_2⟩ := at_T40 (Kd.R_reads' HO_5.out).2.2 x11_2 p218 q218
              obtain rfl : ad216 = ad218 := (by injection e218)
              replace p218 := eq_true p218
              replace q218 := eq_true q218
              have p228 : 0 ≤ (x11_2 : Int) := of_decide_eq_true (by assumption)
              have q228 : x11_2 < (t209.length : Int) := of_decide_eq_true (by assumption)
              obtain ⟨ad228, e228, hx228_0, hx228_1, hx228_2⟩ := at_T40 (Kd.R_reads' HO_5.out).2.2 x11_2 p228 q228
              obtain rfl : ad216 = ad228 := (by injection e228)
              replace p228 := eq_true p228
              replace q228 := eq_true q228
              have p229 : 0 ≤ (x11_2 : Int) := of_decide_eq_true (by assumption)
              have q229 : x11_2 < (t209.length : Int) := of_decide_eq_true (by assumption)
              obtain ⟨ad229, e229, hx229_0, hx229_1, hx229_2⟩ := at_T40 (Kd.R_reads' HO_5.out).2.2 x11_2 p229 q229
              obtain rfl : ad216 = ad229 := (by injection e229)
              replace p229 := eq_true p229
              replace q229 := eq_true q229
              go_wp2
              repeat (go_quiet (fail); try go_wp2)
              go_ret
              exact ⟨by first | rfl | (simp [errW_none, errW_some] <;> rfl) | (simp [*, errW_none, errW_some] <;> rfl), by repeat first | exact HB.out | apply below_alloc | apply pw_below_drewN | apply below_drew1⟩
             ·rw [if_neg c25] at H
              have c25b0 : ((wrap64 (((rd_T40 t209 x11_2).f1) + ((rd_T40 t209 x11_2).f2))) == 0) = false := beq_eq_false_iff_ne.mpr c25
              have c25b1 : ((wrap64 (((rd_T40 t209 x11_2).f1) + ((rd_T40 t209 x11_2).f2))) != 0) = true := bne_iff_ne.mpr c25
              have H' := Aside0.mk H
              clear H
              have p216 : 0 ≤ (x11_2 : Int) := of_decide_eq_true (by assumption)
              have q216 : x11_2 < (t209.length : Int) := of_decide_eq_true (by assumption)
              obtain ⟨ad216, e216, hx216_0, hx216_1, hx216_2⟩ := at_T40 (Kd.R_reads' HO_5.out).2.2 x11_2 p216 q216
              cases e216
              replace p216 := eq_true p216
              replace q216 := eq_true q216
              have p217 : 0 ≤ (x11_2 : Int) := of_decide_eq_true (by assumption)
              have q217 : x11_2 < (t209.length : Int) := of_decide_eq_true (by assumption)
              obtain ⟨ad217, e217, hx217_0, hx217_1, hx217_2⟩ := at_T40 (Kd.R_reads' HO_5.out).2.2 x11_2 p217 q217
              obtain rfl : ad216 = ad217 := (by injection e217)
              replace p217 := eq_true p217
              replace q217 := eq_true q217
              have p218 : 0 ≤ (x11_2 : Int) := of_decide_eq_true (by assumption)
              have q218 : x11_2 < (t209.length : Int) := of_decide_eq_true (by assumption)
              obtain ⟨ad218, e218, hx218_0, hx218_1, hx218_2⟩ := at_T40 (Kd.R_reads' HO_5.out).2.2 x11_2 p218 q218
              obtain rfl : ad216 = ad218 := (by injection e218)
              replace p218 := eq_true p218
              replace q218 := eq_true q218
              have p228 : 0 ≤ (x11_2 : Int) := of_decide_eq_true (by assumption)
              have q228 : x11_2 < (t209.length : Int) := of_decide_eq_true (by assumption)
              obtain ⟨ad228, e228, hx228_0, hx228_1, hx228_2⟩ := at_T40 (Kd.R_reads' HO_5.out).2.2 x11_2 p228 q228
              obtain rfl : ad216 = ad228 := (by injection e228)
              replace p228 := eq_true p228
              replace q228 := eq_true q228
              have p229 : 0 ≤ (x11_2 : Int) := of_decide_eq_true (by assumption)
              have q229 : x11_2 < (t209.length : Int) := of_decide_eq_true (by assumption)
              obtain ⟨ad229, e229, hx229_0, hx229_1, hx229_2⟩ := at_T40 (Kd.R_reads' HO_5.out).2.2 x11_2 p229 q229
              obtain rfl : ad216 = ad229 := (by injection e229)
              replace p229 := eq_true p229
              replace q229 := eq_true q229
              have p230 : 0 ≤ (x11_2 : Int) := of_decide_eq_true (by assumption)
              have q230 : x11_2 < (t209.length : Int) := of_decide_eq_true (by assumption)
              obtain ⟨ad230, e230, hx230_0, hx230_1, hx230_2⟩ := at_T40 (Kd.R_reads' HO_5.out).2.2 x11_2 p230 q230
              obtain rfl : ad216 = ad230 := (by injection e230)
              replace p230 := eq_true p230
              replace q230 := eq_true q230
              have p231 : 0 ≤ (x11_2 : Int) := of_decide_eq_true (by assumption)
              have q231 : x11_2 < (t209.length : Int) := of_decide_eq_true (by assumption)
              obtain ⟨ad231, e231, hx231_0, hx231_1, hx231_2⟩ := at_T40 (Kd.R_reads' HO_5.out).2.2 x11_2 p231 q231
              obtain rfl : ad216 = ad231 := (by injection e231)
              replace p231 := eq_true p231
              replace q231 := eq_true q231
              have p232 : 0 ≤ (x11_2 : Int) := of_decide_eq_true (by assumption)
              have q232 : x11_2 < (t209.length : Int) := of_decide_eq_true (by assumption)
              obtain ⟨ad232, e232, hx232_0, hx232_1, hx232_2⟩ := at_T40 (Kd.R_reads' HO_5.out).2.2 x11_2 p232 q232
              obtain rfl : ad216 = ad232 := (by injection e232)
              replace p232 := eq_true p232
              replace q232 := eq_true q232
              go_wp2
              repeat (go_quiet (fail); try go_wp2)
              go_roundg k2
              case measure => have := HJ2.out; have := HK2.out; omega
              case rel => exact ⟨(wrap64 (x8_2 + ((rd_T40 t209 x11_2).f0))), (wrap64 (x9_2 + ((rd_T40 t209 x11_2).f1))), (wrap64 (x10_2 + ((rd_T40 t209 x11_2).f2))), (wrap64 (x11_2 + 1)), (by first | rfl | (simp; done) | (simp [*]; done)), (by first | rfl | (simp; done) | (simp [*]; done)), (by first | rfl | (simp; done) | (simp [*]; done)), (by first | rfl | (simp; done) | (simp [*]; done)), H', ⟨by have := HJ2.out; have := HK2.out; omega⟩, ⟨by (with_reducible repeat (first | apply Kd.R_alloc | apply Kd.R_drewN | apply Kd.R_drew)); exact HO_5.out⟩, ⟨by (with_reducible repeat (first | apply Kd.R_alloc | apply Kd.R_drewN | apply Kd.R_drew)); exact HO_6.out⟩, ⟨by repeat first | exact HB.out | apply below_alloc | apply pw_below_drewN | apply below_drew1⟩⟩
            ·rw [if_neg c24] at H
             have c24b0 : decide ((wrap64 (x11_2 + 1)) < (t209.length : Int)) = false := decide_eq_false c24
             clear c24
             have H' := Aside0.mk H
             clear H
             have p216 : 0 ≤ (x11_2 : Int) := of_decide_eq_true (by assumption)
             have q216 : x11_2 < (t209.length : Int) := of_decide_eq_true (by assumption)
             obtain ⟨ad216, e216, hx216_0, hx216_1, hx216_2⟩ := at_T40 (Kd.R_reads' HO_5.out).2.2 x11_2 p216 q216
             cases e216
             replace p216 := eq_true p216
             replace q216 := eq_true q216
             have p217 : 0 ≤ (x11_2 : Int) := of_decide_eq_true (by assumption)
             have q217 : x11_2 < (t209.length : Int) := of_decide_eq_true (by assumption)
             obtain ⟨ad217, e217, hx217_0, hx217_1, hx217_2⟩ := at_T40 (Kd.R_reads' HO_5.out).2.2 x11_2 p217 q217
             obtain rfl : ad216 = ad217 := (by injection e217)
             replace p217 := eq_true p217
             replace q217 := eq_true q217
             have p218 : 0 ≤ (x11_2 : Int) := of_decide_eq_true (by assumption)
             have q218 : x11_2 < (t209.length : Int) := of_decide_eq_true (by assumption)
             obtain ⟨ad218, e218, hx218_0, hx218_1, hx218_2⟩ := at_T40 (Kd.R_reads' HO_5.out).2.2 x11_2 p218 q218
             obtain rfl : ad216 = ad218 := (by injection e218)
             replace p218 := eq_true p218
             replace q218 := eq_true q218
             have p233 : 0 ≤ (x11_2 : Int) := of_decide_eq_true (by assumption)
             have q233 : x11_2 < (t209.length : Int) := of_decide_eq_true (by assumption)
             obtain ⟨ad233, e233, hx233_0, hx233_1, hx233_2⟩ := at_T40 (Kd.R_reads' HO_5.out).2.2 x11_2 p233 q233
             obtain rfl : ad216 = ad233 := (by injection e233)
             replace p233 := eq_true p233
             replace q233 := eq_true q233
             have p234 : 0 ≤ (x11_2 : Int) := of_decide_eq_true (by assumption)
             have q234 : x11_2 < (t209.length : Int) := of_decide_eq_true (by assumption)
             obtain ⟨ad234, e234, hx234_0, hx234_1, hx234_2⟩ := at_T40 (Kd.R_reads' HO_5.out).2.2 x11_2 p234 q234
             obtain rfl : ad216 = ad234 := (by injection e234)
             replace p234 := eq_true p234
             replace q234 := eq_true q234
             have p235 : 0 ≤ (x11_2 : Int) := of_decide_eq_true (by assumption)
             have q235 : x11_2 < (t209.length : Int) := of_decide_eq_true (by assumption)
             obtain ⟨ad235, e235, hx235_0, hx235_1, hx235_2⟩ := at_T40 (Kd.R_reads' HO_5.out).2.2 x11_2 p235 q235
             obtain rfl : ad216 = ad235 := (by injection e235)
             replace p235 := eq_true p235
             replace q235 := eq_true q235
             go_wp2
             repeat (go_quiet (fail); try go_wp2)
             go_roundg k2
             case measure => have := HJ2.out; have := HK2.out; omega
             case rel => exact ⟨(wrap64 (x8_2 + ((rd_T40 t209 x11_2).f0))), (wrap64 (x9_2 + ((rd_T40 t209 x11_2).f1))), (wrap64 (x10_2 + ((rd_T40 t209 x11_2).f2))), (wrap64 (x11_2 + 1)), (by first | rfl | (simp; done) | (simp [*]; done)), (by first | rfl | (simp; done) | (simp [*]; done)), (by first | rfl | (simp; done) | (simp [*]; done)), (by first | rfl | (simp; done) | (simp [*]; done)), H', ⟨by have := HJ2.out; have := HK2.out; omega⟩, ⟨by (with_reducible repeat (first | apply Kd.R_alloc | apply Kd.R_drewN | apply Kd.R_drew)); exact HO_5.out⟩, ⟨by (with_reducible repeat (first | apply Kd.R_alloc | apply Kd.R_drewN | apply Kd.R_drew)); exact HO_6.out⟩, ⟨by repeat first | exact HB.out | apply below_alloc | apply pw_below_drewN | apply below_drew1⟩⟩
       ·rw [if_neg c16] at H
        exact absurd H (by simp)
      ·rw [if_neg c15] at H
       have c15b0 : decide (x11_2 < (t209.length : Int)) = false := decide_eq_false c15
       clear c15
       have HC26 := Aside0.mk H
       clear H
       go_upto_region 12 with (fail)
       repeat (go_quiet (fail); go_upto_region 12 with (fail))
       go_cut [142] (fun v142 wc => ∃ (kq : Nat) (x142_25 : Bool), v142 = .bool x142_25 ∧ Aside0 (cortegelaw4_DiffBack.j2 kq l0 x142_25 = some r) ∧ Aside0 (kq ≤ k2) ∧ Aside0 (Below w.heap.size w wc))
       case first =>
        have H := HC26.out
        clear HC26
        by_cases c27 : t213 = true
        ·subst c27
         have H1 : ((cortegelaw0_SameTexts.f k2 t212 l1).bind fun t236 => (if t236 = true then ((diff_Length_string.f k2 l0 l1).bind fun t237 => (if x8_2 = t237 then (if (wrap64 (x8_2 + x9_2)) = (l0.length : Int) then (cortegelaw4_DiffBack.j2 k2 l0 ((wrap64 (x8_2 + x10_2)) != (l1.length : Int))) else (cortegelaw4_DiffBack.j2 k2 l0 true)) else (cortegelaw4_DiffBack.j2 k2 l0 true))) else (cortegelaw4_DiffBack.j2 k2 l0 true))) = some r := by rw [if_pos rfl] at H; exact H
         clear H
         have H := H1
         clear H1
         replace H := Option.bind_eq_some_iff.mp H
         obtain ⟨t236, A280, H⟩ := H
         replace H : (if t236 = true then ((diff_Length_string.f k2 l0 l1).bind fun t237 => (if x8_2 = t237 then (if (wrap64 (x8_2 + x9_2)) = (l0.length : Int) then (cortegelaw4_DiffBack.j2 k2 l0 ((wrap64 (x8_2 + x10_2)) != (l1.length : Int))) else (cortegelaw4_DiffBack.j2 k2 l0 true)) else (cortegelaw4_DiffBack.j2 k2 l0 true))) else (cortegelaw4_DiffBack.j2 k2 l0 true)) = some r := H
         have A28 := Aside0.mk A280
         clear A280
         by_cases c29 : t236 = true
         ·subst c29
          have H1 : ((diff_Length_string.f k2 l0 l1).bind fun t237 => (if x8_2 = t237 then (if (wrap64 (x8_2 + x9_2)) = (l0.length : Int) then (cortegelaw4_DiffBack.j2 k2 l0 ((wrap64 (x8_2 + x10_2)) != (l1.length : Int))) else (cortegelaw4_DiffBack.j2 k2 l0 true)) else (cortegelaw4_DiffBack.j2 k2 l0 true))) = some r := by rw [if_pos rfl] at H; exact H
          clear H
          have H := H1
          clear H1
          replace H := Option.bind_eq_some_iff.mp H
          obtain ⟨t237, A300, H⟩ := H
          replace H : (if x8_2 = t237 then (if (wrap64 (x8_2 + x9_2)) = (l0.length : Int) then (cortegelaw4_DiffBack.j2 k2 l0 ((wrap64 (x8_2 + x10_2)) != (l1.length : Int))) else (cortegelaw4_DiffBack.j2 k2 l0 true)) else (cortegelaw4_DiffBack.j2 k2 l0 true)) = some r := H
          have A30 := Aside0.mk A300
          clear A300
          by_cases c31 : x8_2 = t237
          ·rw [if_pos c31] at H
           have c31b0 : (x8_2 == t237) = true := beq_iff_eq.mpr c31
           have c31b1 : (x8_2 != t237) = false := bne_eq_false_iff_eq.mpr c31
           clear c31
           (first | rw [c31b0] | (simp only [i64_w, i32_w]; rw [c31b0]) | skip)
           by_cases c32 : (wrap64 (x8_2 + x9_2)) = (l0.length : Int)
           ·rw [if_pos c32] at H
            have c32b0 : ((wrap64 (x8_2 + x9_2)) == (l0.length : Int)) = true := beq_iff_eq.mpr c32
            have c32b1 : ((wrap64 (x8_2 + x9_2)) != (l0.length : Int)) = false := bne_eq_false_iff_eq.mpr c32
            clear c32
            have H' := Aside0.mk H
            clear H
            obtain ⟨Ao33, co33, eo33⟩ := Kd.R_slice HO_6.out
            subst eo33
            go_wp2_with (first | (go_at_call 21; (with_reducible refine (cortegelaw0_SameTexts.calls k2 _ _ t212 _ _ l1 true _ ?side1 ?side2 ?side3 ?side4 A28.out).mono ?_); (case side1 => repeat (first | exact (Kd.R_reads' HO_6.out).2.2 | (with_reducible refine Kd.C_alloc ?_ _) | (with_reducible refine Kd.C_drewN ?_ _) | (with_reducible refine Kd.C_drew ?_))); (case side2 => exact (Kd.R_reads' HO_6.out).2.1); (case side3 => repeat (first | exact (Kd.C_below HR1.out HB.out) | (with_reducible refine Kd.C_alloc ?_ _) | (with_reducible refine Kd.C_drewN ?_ _) | (with_reducible refine Kd.C_drew ?_))); (case side4 => exact HC1.out); rintro e w' ⟨rfl, ⟨nd, rfl⟩⟩; (try first | exact ⟨rfl, _, World.drewN_drewN _ _ _⟩ | exact ⟨rfl, _, Eq.trans (World.drewN_drewN _ _ _) (congrArg (World.drewN _) (Nat.add_assoc _ _ _))⟩)) | (go_at_call 14; (with_reducible refine (diff_Length_string.calls k2 _ _ l0 _ _ l1 t237 _ ?side1 ?side2 ?side3 ?side4 A30.out).mono ?_); (case side1 => repeat (first | exact (Kd.C_below HR0.out (by repeat first | exact HB.out | apply below_alloc | apply pw_below_drewN | apply below_drew1)) | (with_reducible refine Kd.C_alloc ?_ _) | (with_reducible refine Kd.C_drewN ?_ _) | (with_reducible refine Kd.C_drew ?_))); (case side2 => exact HC0.out); (case side3 => repeat (first | exact (Kd.C_below HR1.out (by repeat first | exact HB.out | apply below_alloc | apply pw_below_drewN | apply below_drew1)) | (with_reducible refine Kd.C_alloc ?_ _) | (with_reducible refine Kd.C_drewN ?_ _) | (with_reducible refine Kd.C_drew ?_))); (case side4 => exact HC1.out); rintro e w34 ⟨rfl, hb⟩; have n0_ := Aside0.mk (Kd.R_below (by (with_reducible repeat (first | apply Kd.R_alloc | apply Kd.R_drewN | apply Kd.R_drew)); exact HO_5.out) hb); have n1_ := Aside0.mk (Kd.R_below (by (with_reducible repeat (first | apply Kd.R_alloc | apply Kd.R_drewN | apply Kd.R_drew)); exact HO_6.out) hb); have n2_ := Aside0.mk (below_step (by repeat first | exact HB.out | apply below_alloc | apply pw_below_drewN | apply below_drew1) hb); clear HO_5; clear HO_6; clear HB; have HO_5 := n0_; have HO_6 := n1_; have HB := n2_; clear n0_ n1_ n2_; (try clear hb); (try clear hb2); (try clear hk); (try clear hi)))
            go_meet
            case rel => exact ⟨_, (((wrap64 (x8_2 + x10_2)) != (l1.length : Int))), (by first | rfl | (simp; done) | (simp [*]; done)), H', ⟨by have := HJ2.out; have := HK2.out; first | omega | exact Nat.le_refl _⟩, ⟨by repeat first | exact HB.out | apply below_alloc | apply pw_below_drewN | apply below_drew1⟩⟩
           ·rw [if_neg c32] at H
            have c32b0 : ((wrap64 (x8_2 + x9_2)) == (l0.length : Int)) = false := beq_eq_false_iff_ne.mpr c32
            have c32b1 : ((wrap64 (x8_2 + x9_2)) != (l0.length : Int)) = true := bne_iff_ne.mpr c32
            have H' := Aside0.mk H
            clear H
            obtain ⟨Ao35, co35, eo35⟩ := Kd.R_slice HO_6.out
            subst eo35
            go_wp2_with (first | (go_at_call 21; (with_reducible refine (cortegelaw0_SameTexts.calls k2 _ _ t212 _ _ l1 true _ ?side1 ?side2 ?side3 ?side4 A28.out).mono ?_); (case side1 => repeat (first | exact (Kd.R_reads' HO_6.out).2.2 | (with_reducible refine Kd.C_alloc ?_ _) | (with_reducible refine Kd.C_drewN ?_ _) | (with_reducible refine Kd.C_drew ?_))); (case side2 => exact (Kd.R_reads' HO_6.out).2.1); (case side3 => repeat (first | exact (Kd.C_below HR1.out HB.out) | (with_reducible refine Kd.C_alloc ?_ _) | (with_reducible refine Kd.C_drewN ?_ _) | (with_reducible refine Kd.C_drew ?_))); (case side4 => exact HC1.out); rintro e w' ⟨rfl, ⟨nd, rfl⟩⟩; (try first | exact ⟨rfl, _, World.drewN_drewN _ _ _⟩ | exact ⟨rfl, _, Eq.trans (World.drewN_drewN _ _ _) (congrArg (World.drewN _) (Nat.add_assoc _ _ _))⟩)) | (go_at_call 14; (with_reducible refine (diff_Length_string.calls k2 _ _ l0 _ _ l1 t237 _ ?side1 ?side2 ?side3 ?side4 A30.out).mono ?_); (case side1 => repeat (first | exact (Kd.C_below HR0.out (by repeat first | exact HB.out | apply below_alloc | apply pw_below_drewN | apply below_drew1)) | (with_reducible refine Kd.C_alloc ?_ _) | (with_reducible refine Kd.C_drewN ?_ _) | (with_reducible refine Kd.C_drew ?_))); (case side2 => exact HC0.out); (case side3 => repeat (first | exact (Kd.C_below HR1.out (by repeat first | exact HB.out | apply below_alloc | apply pw_below_drewN | apply below_drew1)) | (with_reducible refine Kd.C_alloc ?_ _) | (with_reducible refine Kd.C_drewN ?_ _) | (with_reducible refine Kd.C_drew ?_))); (case side4 => exact HC1.out); rintro e w36 ⟨rfl, hb⟩; have n0_ := Aside0.mk (Kd.R_below (by (with_reducible repeat (first | apply Kd.R_alloc | apply Kd.R_drewN | apply Kd.R_drew)); exact HO_5.out) hb); have n1_ := Aside0.mk (Kd.R_below (by (with_reducible repeat (first | apply Kd.R_alloc | apply Kd.R_drewN | apply Kd.R_drew)); exact HO_6.out) hb); have n2_ := Aside0.mk (below_step (by repeat first | exact HB.out | apply below_alloc | apply pw_below_drewN | apply below_drew1) hb); clear HO_5; clear HO_6; clear HB; have HO_5 := n0_; have HO_6 := n1_; have HB := n2_; clear n0_ n1_ n2_; (try clear hb); (try clear hb2); (try clear hk); (try clear hi)))
            go_meet
            case rel => exact ⟨_, (true), (by first | rfl | (simp; done) | (simp [*]; done)), H', ⟨by have := HJ2.out; have := HK2.out; first | omega | exact Nat.le_refl _⟩, ⟨by repeat first | exact HB.out | apply below_alloc | apply pw_below_drewN | apply below_drew1⟩⟩
          ·rw [if_neg c31] at H
           have c31b0 : (x8_2 == t237) = false := beq_eq_false_iff_ne.mpr c31
           have c31b1 : (x8_2 != t237) = true := bne_iff_ne.mpr c31
           (first | rw [c31b0] | (simp only [i64_w, i32_w]; rw [c31b0]) | skip)
           have H' := Aside0.mk H
           clear H
           obtain ⟨Ao37, co37, eo37⟩ := Kd.R_slice HO_6.out
           subst eo37
           go_wp2_with (first | (go_at_call 21; (with_reducible refine (cortegelaw0_SameTexts.calls k2 _ _ t212 _ _ l1 true _ ?side1 ?side2 ?side3 ?side4 A28.out).mono ?_); (case side1 => repeat (first | exact (Kd.R_reads' HO_6.out).2.2 | (with_reducible refine Kd.C_alloc ?_ _) | (with_reducible refine Kd.C_drewN ?_ _) | (with_reducible refine Kd.C_drew ?_))); (case side2 => exact (Kd.R_reads' HO_6.out).2.1); (case side3 => repeat (first | exact (Kd.C_below HR1.out HB.out) | (with_reducible refine Kd.C_alloc ?_ _) | (with_reducible refine Kd.C_drewN ?_ _) | (with_reducible refine Kd.C_drew ?_))); (case side4 => exact HC1.out); rintro e w' ⟨rfl, ⟨nd, rfl⟩⟩; (try first | exact ⟨rfl, _, World.drewN_drewN _ _ _⟩ | exact ⟨rfl, _, Eq.trans (World.drewN_drewN _ _ _) (congrArg (World.drewN _) (Nat.add_assoc _ _ _))⟩)) | (go_at_call 14; (with_reducible refine (diff_Length_string.calls k2 _ _ l0 _ _ l1 t237 _ ?side1 ?side2 ?side3 ?side4 A30.out).mono ?_); (case side1 => repeat (first | exact (Kd.C_below HR0.out (by repeat first | exact HB.out | apply below_alloc | apply pw_below_drewN | apply below_drew1)) | (with_reducible refine Kd.C_alloc ?_ _) | (with_reducible refine Kd.C_drewN ?_ _) | (with_reducible refine Kd.C_drew ?_))); (case side2 => exact HC0.out); (case side3 => repeat (first | exact (Kd.C_below HR1.out (by repeat first | exact HB.out | apply below_alloc | apply pw_below_drewN | apply below_drew1)) | (with_reducible refine Kd.C_alloc ?_ _) | (with_reducible refine Kd.C_drewN ?_ _) | (with_reducible refine Kd.C_drew ?_))); (case side4 => exact HC1.out); rintro e w38 ⟨rfl, hb⟩; have n0_ := Aside0.mk (Kd.R_below (by (with_reducible repeat (first | apply Kd.R_alloc | apply Kd.R_drewN | apply Kd.R_drew)); exact HO_5.out) hb); have n1_ := Aside0.mk (Kd.R_below (by (with_reducible repeat (first | apply Kd.R_alloc | apply Kd.R_drewN | apply Kd.R_drew)); exact HO_6.out) hb); have n2_ := Aside0.mk (below_step (by repeat first | exact HB.out | apply below_alloc | apply pw_below_drewN | apply below_drew1) hb); clear HO_5; clear HO_6; clear HB; have HO_5 := n0_; have HO_6 := n1_; have HB := n2_; clear n0_ n1_ n2_; (try clear hb); (try clear hb2); (try clear hk); (try clear hi)))
           go_meet
           case rel => exact ⟨_, (true), (by first | rfl | (simp; done) | (simp [*]; done)), H', ⟨by have := HJ2.out; have := HK2.out; first | omega | exact Nat.le_refl _⟩, ⟨by repeat first | exact HB.out | apply below_alloc | apply pw_below_drewN | apply below_drew1⟩⟩
         ·replace c29 := Bool.eq_false_iff.mpr c29
          subst c29
          have H1 : (cortegelaw4_DiffBack.j2 k2 l0 true) = some r := by rw [if_neg (show ¬ (false = true) by decide)] at H; exact H
          clear H
          have H := H1
          clear H1
          have H' := Aside0.mk H
          clear H
          obtain ⟨Ao39, co39, eo39⟩ := Kd.R_slice HO_6.out
          subst eo39
          go_wp2_with (first | (go_at_call 21; (with_reducible refine (cortegelaw0_SameTexts.calls k2 _ _ t212 _ _ l1 false _ ?side1 ?side2 ?side3 ?side4 A28.out).mono ?_); (case side1 => repeat (first | exact (Kd.R_reads' HO_6.out).2.2 | (with_reducible refine Kd.C_alloc ?_ _) | (with_reducible refine Kd.C_drewN ?_ _) | (with_reducible refine Kd.C_drew ?_))); (case side2 => exact (Kd.R_reads' HO_6.out).2.1); (case side3 => repeat (first | exact (Kd.C_below HR1.out HB.out) | (with_reducible refine Kd.C_alloc ?_ _) | (with_reducible refine Kd.C_drewN ?_ _) | (with_reducible refine Kd.C_drew ?_))); (case side4 => exact HC1.out); rintro e w' ⟨rfl, ⟨nd, rfl⟩⟩; (try first | exact ⟨rfl, _, World.drewN_drewN _ _ _⟩ | exact ⟨rfl, _, Eq.trans (World.drewN_drewN _ _ _) (congrArg (World.drewN _) (Nat.add_assoc _ _ _))⟩)))
          go_meet
          case rel => exact ⟨_, (true), (by first | rfl | (simp; done) | (simp [*]; done)), H', ⟨by have := HJ2.out; have := HK2.out; first | omega | exact Nat.le_refl _⟩, ⟨by repeat first | exact HB.out | apply below_alloc | apply pw_below_drewN | apply below_drew1⟩⟩
        ·replace c27 := Bool.eq_false_iff.mpr c27
         subst c27
         have H1 : (cortegelaw4_DiffBack.j2 k2 l0 true) = some r := by rw [if_neg (show ¬ (false = true) by decide)] at H; exact H
         clear H
         have H := H1
         clear H1
         have H' := Aside0.mk H
         clear H
         go_wp2
         repeat (go_quiet (fail); try go_wp2)
         go_meet
         case rel => exact ⟨_, (true), (by first | rfl | (simp; done) | (simp [*]; done)), H', ⟨by have := HJ2.out; have := HK2.out; first | omega | exact Nat.le_refl _⟩, ⟨by repeat first | exact HB.out | apply below_alloc | apply pw_below_drewN | apply below_drew1⟩⟩
       case rest =>
        clear HC26
        try clear c1
        try clear c2
        try clear p2
        try clear q2
        try clear hx2
        try clear c3
        try clear c4
        try clear c5
        try clear p6
        try clear c7
        try clear c15
        try clear c15b0
        try clear c16
        try clear c16b0
        try clear c17
        try clear c17b0
        try clear c18
        try clear c18b0
        try clear c19
        try clear c19b0
        try clear c20
        try clear c20b0
        try clear c21
        try clear c21b0
        try clear c21b1
        try clear p21
        try clear q21
        try clear hx21
        try clear c22
        try clear c22b0
        try clear p22
        try clear q22
        try clear hx22
        try clear c23
        try clear c23b0
        try clear c23b1
        try clear p23
        try clear q23
        try clear hx23
        try clear c24
        try clear c24b0
        try clear c25
        try clear c25b0
        try clear c25b1
        try clear c27
        try clear c29
        try clear c31
        try clear c31b0
        try clear c31b1
        try clear c32
        try clear c32b0
        try clear c32b1
        try clear hx216_0
        try clear hx216_1
        try clear hx216_2
        try clear hx217_0
        try clear hx217_1
        try clear hx217_2
        try clear hx218_0
        try clear hx218_1
        try clear hx218_2
        try clear hx219_0
        try clear hx219_1
        try clear hx219_2
        try clear hx220_0
        try clear hx220_1
        try clear hx220_2
        try clear hx221_0
        try clear hx221_1
        try clear hx221_2
        try clear hx222_0
        try clear hx222_1
        try clear hx222_2
        try clear hx223_0
        try clear hx223_1
        try clear hx223_2
        try clear hx224_0
        try clear hx224_1
        try clear hx224_2
        try clear hx225_0
        try clear hx225_1
        try clear hx225_2
        try clear hx226_0
        try clear hx226_1
        try clear hx226_2
        try clear hx227_0
        try clear hx227_1
        try clear hx227_2
        try clear hx228_0
        try clear hx228_1
        try clear hx228_2
        try clear hx229_0
        try clear hx229_1
        try clear hx229_2
        try clear hx230_0
        try clear hx230_1
        try clear hx230_2
        try clear hx231_0
        try clear hx231_1
        try clear hx231_2
        try clear hx232_0
        try clear hx232_1
        try clear hx232_2
        try clear hx233_0
        try clear hx233_1
        try clear hx233_2
        try clear hx234_0
        try clear hx234_1
        try clear hx234_2
        try clear hx235_0
        try clear hx235_1
        try clear hx235_2
        try clear p2
        try clear p216
        try clear p217
        try clear p218
        try clear p219
        try clear p220
        try clear p221
        try clear p222
        try clear p223
        try clear p224
        try clear p225
        try clear p226
        try clear p227
        try clear p228
        try clear p229
        try clear p230
        try clear p231
        try clear p232
        try clear p233
        try clear p234
        try clear p235
        try clear q216
        try clear q217
        try clear q218
        try clear q219
        try clear q220
        try clear q221
        try clear q222
        try clear q223
        try clear q224
        try clear q225
        try clear q226
        try clear q227
        try clear q228
        try clear q229
        try clear q230
        try clear q231
        try clear q232
        try clear q233
        try clear q234
        try clear q235
        obtain ⟨kq, x142_25, rfl, HA, HJ25, HB⟩ := hcut
        cases kq with
        | zero => exact absurd HA.out (by simp [cortegelaw4_DiffBack.j2])
        | succ kj25 =>
         have H := HA.out
         clear HA
         simp only [cortegelaw4_DiffBack.j2] at H
         by_cases c40 : x142_25 = true
         ·subst c40
          have H1 : (some false) = some r := by rw [if_pos rfl] at H; exact H
          clear H
          have H := H1
          clear H1
          obtain rfl := Option.some.inj H
          go_wp2
          repeat (go_quiet (fail); try go_wp2)
          go_ret
          exact ⟨by first | rfl | (simp [errW_none, errW_some] <;> rfl) | (simp [*, errW_none, errW_some] <;> rfl), by repeat first | exact HB.out | apply below_alloc | apply pw_below_drewN | apply below_drew1⟩
         ·replace c40 := Bool.eq_false_iff.mpr c40
          subst c40
          have H1 : ((diff_Steps_string.f kj25 l0 l0).bind fun t238 => (if (l0.length : Int) = 0 then (if (t238.length : Int) = 0 then ((cortegelaw4_awake.f kj25).bind fun t241 => (some t241)) else (some false)) else ((cortegelaw0_SameSteps.f kj25 t238 (([(⟨(l0.length : Int), 0, 0⟩ : S40)] : List (S40)))).bind fun t245 => (if t245 = true then ((cortegelaw4_awake.f kj25).bind fun t246 => (some t246)) else (some false))))) = some r := by rw [if_neg (show ¬ (false = true) by decide)] at H; exact H
          clear H
          have H := H1
          clear H1
          replace H := Option.bind_eq_some_iff.mp H
          obtain ⟨t238, A410, H⟩ := H
          replace H : (if (l0.length : Int) = 0 then (if (t238.length : Int) = 0 then ((cortegelaw4_awake.f kj25).bind fun t241 => (some t241)) else (some false)) else ((cortegelaw0_SameSteps.f kj25 t238 (([(⟨(l0.length : Int), 0, 0⟩ : S40)] : List (S40)))).bind fun t245 => (if t245 = true then ((cortegelaw4_awake.f kj25).bind fun t246 => (some t246)) else (some false)))) = some r := H
          have A41 := Aside0.mk A410
          clear A410
          by_cases c42 : (l0.length : Int) = 0
          ·rw [if_pos c42] at H
           have c42b0 : ((l0.length : Int) == 0) = true := beq_iff_eq.mpr c42
           have c42b1 : ((l0.length : Int) != 0) = false := bne_eq_false_iff_eq.mpr c42
           clear c42
           by_cases c43 : (t238.length : Int) = 0
           ·rw [if_pos c43] at H
            have c43b0 : ((t238.length : Int) == 0) = true := beq_iff_eq.mpr c43
            have c43b1 : ((t238.length : Int) != 0) = false := bne_eq_false_iff_eq.mpr c43
            clear c43
            replace H := Option.bind_eq_some_iff.mp H
            obtain ⟨t241, A440, H⟩ := H
            replace H : (some t241) = some r := H
            have A44 := Aside0.mk A440
            clear A440
            obtain rfl := Option.some.inj H
            go_wp2_with (first | (go_at_call 11; (with_reducible refine (diff_Steps_string.calls kj25 _ _ l0 _ _ l0 t238 _ ?side1 ?side2 ?side3 ?side4 A41.out).mono ?_); (case side1 => repeat (first | exact (Kd.C_below HR0.out HB.out) | (with_reducible refine Kd.C_alloc ?_ _) | (with_reducible refine Kd.C_drewN ?_ _) | (with_reducible refine Kd.C_drew ?_))); (case side2 => exact HC0.out); (case side3 => repeat (first | exact (Kd.C_below HR0.out HB.out) | (with_reducible refine Kd.C_alloc ?_ _) | (with_reducible refine Kd.C_drewN ?_ _) | (with_reducible refine Kd.C_drew ?_))); (case side4 => exact HC0.out); rintro e w45 ⟨v239, rfl, ho0, hb⟩; have n0_ := Aside0.mk (Kd.R_lower ho0 (below_size (by repeat first | exact HB.out | apply below_alloc | apply pw_below_drewN | apply below_drew1))); have n1_ := Aside0.mk (below_step (by repeat first | exact HB.out | apply below_alloc | apply pw_below_drewN | apply below_drew1) hb); clear HB; have HO240 := n0_; have HB := n1_; clear n0_ n1_; (try clear hb); (try clear hb2); (try clear hk); (try clear hi); (try clear ho0); obtain ⟨Ao46, co46, eo46⟩ := Kd.R_slice HO240.out; subst eo46) | (go_at_call 9; (with_reducible refine (cortegelaw4_awake.calls kj25  t241 _ A44.out).mono ?_); rintro e w47 ⟨rfl, hb⟩; have n0_ := Aside0.mk (Kd.R_below (by (with_reducible repeat (first | apply Kd.R_alloc | apply Kd.R_drewN | apply Kd.R_drew)); exact HO240.out) hb); have n1_ := Aside0.mk (below_step (by repeat first | exact HB.out | apply below_alloc | apply pw_below_drewN | apply below_drew1) hb); clear HO240; clear HB; have HO240 := n0_; have HB := n1_; clear n0_ n1_; (try clear hb); (try clear hb2); (try clear hk); (try clear hi)))
            go_ret
            exact ⟨by first | rfl | (simp [errW_none, errW_some] <;> rfl) | (simp [*, errW_none, errW_some] <;> rfl), by repeat first | exact HB.out | apply below_alloc | apply pw_below_drewN | apply below_drew1⟩
           ·rw [if_neg c43] at H
            have c43b0 : ((t238.length : Int) == 0) = false := beq_eq_false_iff_ne.mpr c43
            have c43b1 : ((t238.length : Int) != 0) = true := bne_iff_ne.mpr c43
            have c43b2 : ¬ (t238 = []) := fun h_ => c43 (by rw [h_]; rfl)
            obtain rfl := Option.some.inj H
            go_wp2_with (first | (go_at_call 11; (with_reducible refine (diff_Steps_string.calls kj25 _ _ l0 _ _ l0 t238 _ ?side1 ?side2 ?side3 ?side4 A41.out).mono ?_); (case side1 => repeat (first | exact (Kd.C_below HR0.out HB.out) | (with_reducible refine Kd.C_alloc ?_ _) | (with_reducible refine Kd.C_drewN ?_ _) | (with_reducible refine Kd.C_drew ?_))); (case side2 => exact HC0.out); (case side3 => repeat (first | exact (Kd.C_below HR0.out HB.out) | (with_reducible refine Kd.C_alloc ?_ _) | (with_reducible refine Kd.C_drewN ?_ _) | (with_reducible refine Kd.C_drew ?_))); (case side4 => exact HC0.out); rintro e w48 ⟨v239, rfl, ho0, hb⟩; have n0_ := Aside0.mk (Kd.R_lower ho0 (below_size (by repeat first | exact HB.out | apply below_alloc | apply pw_below_drewN | apply below_drew1))); have n1_ := Aside0.mk (below_step (by repeat first | exact HB.out | apply below_alloc | apply pw_below_drewN | apply below_drew1) hb); clear HB; have HO240 := n0_; have HB := n1_; clear n0_ n1_; (try clear hb); (try clear hb2); (try clear hk); (try clear hi); (try clear ho0); obtain ⟨Ao49, co49, eo49⟩ := Kd.R_slice HO240.out; subst eo49))
            go_ret
            exact ⟨by first | rfl | (simp [errW_none, errW_some] <;> rfl) | (simp [*, errW_none, errW_some] <;> rfl), by repeat first | exact HB.out | apply below_alloc | apply pw_below_drewN | apply below_drew1⟩
          ·rw [if_neg c42] at H
           have c42b0 : ((l0.length : Int) == 0) = false := beq_eq_false_iff_ne.mpr c42
           have c42b1 : ((l0.length : Int) != 0) = true := bne_iff_ne.mpr c42
           have c42b2 : ¬ (l0 = []) := fun h_ => c42 (by rw [h_]; rfl)
           obtain ⟨y242, hy242⟩ : ∃ y_ : List (S40), y_ = (([(⟨(l0.length : Int), 0, 0⟩ : S40)] : List (S40))) := ⟨_, rfl⟩
           replace H : ((cortegelaw0_SameSteps.f kj25 t238 y242).bind fun t245 => (if t245 = true then ((cortegelaw4_awake.f kj25).bind fun t246 => (some t246)) else (some false))) = some r := by first | (rw [hy242]; with_reducible exact H) | (have H2_ := (Option.bind_some _ _).symm.trans H; rw [hy242]; with_reducible exact H2_) | (have H2_ := (Option.bind_some _ _).symm.trans H; with_reducible exact H2_) | with_reducible exact H | (rw [hy242]; exact H) | exact H
           have Ny242 := Aside0.mk hy242
           clear hy242
           replace H := Option.bind_eq_some_iff.mp H
           obtain ⟨t245, A500, H⟩ := H
           replace H : (if t245 = true then ((cortegelaw4_awake.f kj25).bind fun t246 => (some t246)) else (some false)) = some r := H
           have A50 := Aside0.mk A500
           clear A500
           by_cases c51 : t245 = true
           ·subst c51
            have H1 : ((cortegelaw4_awake.f kj25).bind fun t246 => (some t246)) = some r := by rw [if_pos rfl] at H; exact H
            clear H
            have H := H1
            clear H1
            replace H := Option.bind_eq_some_iff.mp H
            obtain ⟨t246, A520, H⟩ := H
            replace H : (some t246) = some r := H
            have A52 := Aside0.mk A520
            clear A520
            obtain rfl := Option.some.inj H
            go_wp2_with (first | (go_at_call 11; (with_reducible refine (diff_Steps_string.calls kj25 _ _ l0 _ _ l0 t238 _ ?side1 ?side2 ?side3 ?side4 A41.out).mono ?_); (case side1 => repeat (first | exact (Kd.C_below HR0.out HB.out) | (with_reducible refine Kd.C_alloc ?_ _) | (with_reducible refine Kd.C_drewN ?_ _) | (with_reducible refine Kd.C_drew ?_))); (case side2 => exact HC0.out); (case side3 => repeat (first | exact (Kd.C_below HR0.out HB.out) | (with_reducible refine Kd.C_alloc ?_ _) | (with_reducible refine Kd.C_drewN ?_ _) | (with_reducible refine Kd.C_drew ?_))); (case side4 => exact HC0.out); rintro e w53 ⟨v239, rfl, ho0, hb⟩; have n0_ := Aside0.mk (Kd.R_lower ho0 (below_size (by repeat first | exact HB.out | apply below_alloc | apply pw_below_drewN | apply below_drew1))); have n1_ := Aside0.mk (below_step (by repeat first | exact HB.out | apply below_alloc | apply pw_below_drewN | apply below_drew1) hb); clear HB; have HO240 := n0_; have HB := n1_; clear n0_ n1_; (try clear hb); (try clear hb2); (try clear hk); (try clear hi); (try clear ho0)) | ((with_reducible refine gate_dst (N := 159) rfl ?_); (try (refine gate_guard (by rfl) ?_; dsimp only)); refine Kd.R_lit k40 _ 40 ?hg (N := 159) ?hd (xs := ([(⟨(l0.length : Int), 0, 0⟩ : S40)] : List (S40))) (inner := [.int .i64 (l0.length : Int), .int .i64 0, .int .i64 0]) (ok := fun _ => True) (okp := fun _ => True) ?hr ?hp (fun _ hk => hk) trivial (Below.refl _ _) (Nat.le_refl _) (by simp) ?_; (case hd => rfl); (case hg => rfl); (case hr => first | (go_simp; done) | (go_simp; rfl) | (obtain ⟨A_, c_, e_⟩ := Kd.R_slice (HO240.out); rw [e_]; first | (go_simp; done) | (go_simp; rfl)) | (obtain ⟨A_, c_, e_⟩ := Kd.R_slice (HO244.out); rw [e_]; first | (go_simp; done) | (go_simp; rfl))); (case hp => exact (Reps.c3 (show Kd.M k40 _ _ _ (⟨(l0.length : Int), 0, 0⟩ : S40) [.int .i64 (l0.length : Int), .int .i64 0, .int .i64 0] from (k40_mkM _ _ _ (⟨(l0.length : Int), 0, 0⟩ : S40) )) (Reps.none _ _))); intro v243 w54 ho55 hb hg_ hnew_; clear hg_ hnew_; (first | rw [← Ny242.out] at ho55 | (simp only [Int.reduceToNat] at ho55; rw [← Ny242.out] at ho55)); have n0_ := Aside0.mk (Kd.R_elder' (by (with_reducible repeat (first | apply Kd.R_alloc | apply Kd.R_drewN | apply Kd.R_drew)); exact HO240.out) (Kd.R_base ho55) hb); have n1_ := Aside0.mk (Kd.R_lower (Kd.R_new' ho55 (Kd.R_lt (by (with_reducible repeat (first | apply Kd.R_alloc | apply Kd.R_drewN | apply Kd.R_drew)); exact HO240.out))) (below_size (by repeat first | exact HB.out | apply below_alloc | apply pw_below_drewN | apply below_drew1))); have n2_ := Aside0.mk (below_step (by repeat first | exact HB.out | apply below_alloc | apply pw_below_drewN | apply below_drew1) hb); clear HO240; clear HB; have HO240 := n0_; have HO244 := n1_; have HB := n2_; clear n0_ n1_ n2_; clear hb ho55; obtain ⟨Ao56, co56, eo56⟩ := Kd.R_slice HO240.out; subst eo56; obtain ⟨Ao57, co57, eo57⟩ := Kd.R_slice HO244.out; subst eo57) | (go_at_call 19; (with_reducible refine (cortegelaw0_SameSteps.calls kj25 _ _ t238 _ _ y242 true _ ?side1 ?side2 ?side3 ?side4 A50.out).mono ?_); (case side1 => repeat (first | exact (Kd.R_reads' HO240.out).2.2 | (with_reducible refine Kd.C_alloc ?_ _) | (with_reducible refine Kd.C_drewN ?_ _) | (with_reducible refine Kd.C_drew ?_))); (case side2 => exact (Kd.R_reads' HO240.out).2.1); (case side3 => repeat (first | exact (Kd.R_reads' HO244.out).2.2 | (with_reducible refine Kd.C_alloc ?_ _) | (with_reducible refine Kd.C_drewN ?_ _) | (with_reducible refine Kd.C_drew ?_))); (case side4 => exact (Kd.R_reads' HO244.out).2.1); rintro e w' ⟨rfl, ⟨nd, rfl⟩⟩; (try first | exact ⟨rfl, _, World.drewN_drewN _ _ _⟩ | exact ⟨rfl, _, Eq.trans (World.drewN_drewN _ _ _) (congrArg (World.drewN _) (Nat.add_assoc _ _ _))⟩)) | (go_at_call 9; (with_reducible refine (cortegelaw4_awake.calls kj25  t246 _ A52.out).mono ?_); rintro e w58 ⟨rfl, hb⟩; have n0_ := Aside0.mk (Kd.R_below (by (with_reducible repeat (first | apply Kd.R_alloc | apply Kd.R_drewN | apply Kd.R_drew)); exact HO240.out) hb); have n1_ := Aside0.mk (Kd.R_below (by (with_reducible repeat (first | apply Kd.R_alloc | apply Kd.R_drewN | apply Kd.R_drew)); exact HO244.out) hb); have n2_ := Aside0.mk (below_step (by repeat first | exact HB.out | apply below_alloc | apply pw_below_drewN | apply below_drew1) hb); clear HO240; clear HO244; clear HB; have HO240 := n0_; have HO244 := n1_; have HB := n2_; clear n0_ n1_ n2_; (try clear hb); (try clear hb2); (try clear hk); (try clear hi)))
            go_ret
            exact ⟨by first | rfl | (simp [errW_none, errW_some] <;> rfl) | (simp [*, errW_none, errW_some] <;> rfl), by repeat first | exact HB.out | apply below_alloc | apply pw_below_drewN | apply below_drew1⟩
           ·replace c51 := Bool.eq_false_iff.mpr c51
            subst c51
            have H1 : (some false) = some r := by rw [if_neg (show ¬ (false = true) by decide)] at H; exact H
            clear H
            have H := H1
            clear H1
            obtain rfl := Option.some.inj H
            go_wp2_with (first | (go_at_call 11; (with_reducible refine (diff_Steps_string.calls kj25 _ _ l0 _ _ l0 t238 _ ?side1 ?side2 ?side3 ?side4 A41.out).mono ?_); (case side1 => repeat (first | exact (Kd.C_below HR0.out HB.out) | (with_reducible refine Kd.C_alloc ?_ _) | (with_reducible refine Kd.C_drewN ?_ _) | (with_reducible refine Kd.C_drew ?_))); (case side2 => exact HC0.out); (case side3 => repeat (first | exact (Kd.C_below HR0.out HB.out) | (with_reducible refine Kd.C_alloc ?_ _) | (with_reducible refine Kd.C_drewN ?_ _) | (with_reducible refine Kd.C_drew ?_))); (case side4 => exact HC0.out); rintro e w59 ⟨v239, rfl, ho0, hb⟩; have n0_ := Aside0.mk (Kd.R_lower ho0 (below_size (by repeat first | exact HB.out | apply below_alloc | apply pw_below_drewN | apply below_drew1))); have n1_ := Aside0.mk (below_step (by repeat first | exact HB.out | apply below_alloc | apply pw_below_drewN | apply below_drew1) hb); clear HB; have HO240 := n0_; have HB := n1_; clear n0_ n1_; (try clear hb); (try clear hb2); (try clear hk); (try clear hi); (try clear ho0)) | ((with_reducible refine gate_dst (N := 159) rfl ?_); (try (refine gate_guard (by rfl) ?_; dsimp only)); refine Kd.R_lit k40 _ 40 ?hg (N := 159) ?hd (xs := ([(⟨(l0.length : Int), 0, 0⟩ : S40)] : List (S40))) (inner := [.int .i64 (l0.length : Int), .int .i64 0, .int .i64 0]) (ok := fun _ => True) (okp := fun _ => True) ?hr ?hp (fun _ hk => hk) trivial (Below.refl _ _) (Nat.le_refl _) (by simp) ?_; (case hd => rfl); (case hg => rfl); (case hr => first | (go_simp; done) | (go_simp; rfl) | (obtain ⟨A_, c_, e_⟩ := Kd.R_slice (HO240.out); rw [e_]; first | (go_simp; done) | (go_simp; rfl))); (case hp => exact (Reps.c3 (show Kd.M k40 _ _ _ (⟨(l0.length : Int), 0, 0⟩ : S40) [.int .i64 (l0.length : Int), .int .i64 0, .int .i64 0] from (k40_mkM _ _ _ (⟨(l0.length : Int), 0, 0⟩ : S40) )) (Reps.none _ _))); intro v243 w60 ho61 hb hg_ hnew_; clear hg_ hnew_; (first | rw [← Ny242.out] at ho61 | (simp only [Int.reduceToNat] at ho61; rw [← Ny242.out] at ho61)); have n0_ := Aside0.mk (Kd.R_elder' (by (with_reducible repeat (first | apply Kd.R_alloc | apply Kd.R_drewN | apply Kd.R_drew)); exact HO240.out) (Kd.R_base ho61) hb); have n1_ := Aside0.mk (Kd.R_lower (Kd.R_new' ho61 (Kd.R_lt (by (with_reducible repeat (first | apply Kd.R_alloc | apply Kd.R_drewN | apply Kd.R_drew)); exact HO240.out))) (below_size (by repeat first | exact HB.out | apply below_alloc | apply pw_below_drewN | apply below_drew1))); have n2_ := Aside0.mk (below_step (by repeat first | exact HB.out | apply below_alloc | apply pw_below_drewN | apply below_drew1) hb); clear HO240; clear HB; have HO240 := n0_; have HO244 := n1_; have HB := n2_; clear n0_ n1_ n2_; clear hb ho61; obtain ⟨Ao62, co62, eo62⟩ := Kd.R_slice HO240.out; subst eo62; obtain ⟨Ao63, co63, eo63⟩ := Kd.R_slice HO244.out; subst eo63) | (go_at_call 19; (with_reducible refine (cortegelaw0_SameSteps.calls kj25 _ _ t238 _ _ y242 false _ ?side1 ?side2 ?side3 ?side4 A50.out).mono ?_); (case side1 => repeat (first | exact (Kd.R_reads' HO240.out).2.2 | (with_reducible refine Kd.C_alloc ?_ _) | (with_reducible refine Kd.C_drewN ?_ _) | (with_reducible refine Kd.C_drew ?_))); (case side2 => exact (Kd.R_reads' HO240.out).2.1); (case side3 => repeat (first | exact (Kd.R_reads' HO244.out).2.2 | (with_reducible refine Kd.C_alloc ?_ _) | (with_reducible refine Kd.C_drewN ?_ _) | (with_reducible refine Kd.C_drew ?_))); (case side4 => exact (Kd.R_reads' HO244.out).2.1); rintro e w' ⟨rfl, ⟨nd, rfl⟩⟩; (try first | exact ⟨rfl, _, World.drewN_drewN _ _ _⟩ | exact ⟨rfl, _, Eq.trans (World.drewN_drewN _ _ _) (congrArg (World.drewN _) (Nat.add_assoc _ _ _))⟩)))
            go_ret
            exact ⟨by first | rfl | (simp [errW_none, errW_some] <;> rfl) | (simp [*, errW_none, errW_some] <;> rfl), by repeat first | exact HB.out | apply below_alloc | apply pw_below_drewN | apply below_drew1⟩

end Go.Proofs.Ytniobphfbfnccaa.PAll
