-- Printed by wip/xprint.py (a program of this repo, round the kit's print.py)
import Derived.Test.YtniobphfbfnccaaDoorPAllx0
import Derived.Test.YtniobphfbfnccaaDoorPAllx3
import Derived.Test.YtniobphfbfnccaaDoorPAllx5
namespace Go.Proofs.YtniobphfbfnccaaDoor.PAll
open Go.RowKit Go.Proofs.YtniobphfbfnccaaDoorW.PrintWords Go.Proofs.YtniobphfbfnccaaDoorW.PrintLast Go.Proofs.YtniobphfbfnccaaDoorW.PrintMore
attribute [local go_sem] max2_int min2_int max_two min_two max_three min_three max_four min_four   -- for this text's walks alone
set_option linter.unusedVariables false
set_option linter.unusedSimpArgs false

/-! ### diff_Steps_string: function 14 -/
mutual
def diff_Steps_string.l0 : Nat → List ByteArray → List (S42) → Int → Int → List (S44) → Int → Int → Option ((List (S42)))
 | 0, _, _, _, _, _, _, _ => none
 | k + 1, x0, x5, x6, x7, x24, x25, x26 => if x26 < x25 then (if 0 ≤ x26 then (if x26 < (x24.length : Int) then (if (x5.length : Int) = 0 then (diff_Steps_string.j1 k x0 x5 (wrap64 (((rd_T44 x24 x26).f0) - x6)) (wrap64 (((rd_T44 x24 x26).f1) - x7)) x24 x25 x26 (decide ((wrap64 ((wrap64 (((rd_T44 x24 x26).f0) - x6)) + (wrap64 (((rd_T44 x24 x26).f1) - x7)))) > 0)) ((rd_T44 x24 x26).f0) ((rd_T44 x24 x26).f1)) else (diff_Steps_string.j1 k x0 x5 (wrap64 (((rd_T44 x24 x26).f0) - x6)) (wrap64 (((rd_T44 x24 x26).f1) - x7)) x24 x25 x26 false ((rd_T44 x24 x26).f0) ((rd_T44 x24 x26).f1))) else (none)) else (none)) else (some x5)
def diff_Steps_string.j1 : Nat → List ByteArray → List (S42) → Int → Int → List (S44) → Int → Int → Bool → Int → Int → Option ((List (S42)))
 | 0, _, _, _, _, _, _, _, _, _, _ => none
 | k + 1, x0, x5, x10, x11, x24, x25, x26, x46, x154000, x154001 => if x46 = true then (if x5.length < 5864062014805 then (diff_Steps_string.j2 k x0 (x5 ++ [(⟨0, 0, 0⟩ : S42)]) x10 x11 x24 x25 x26 x154000 x154001) else (none)) else (diff_Steps_string.j2 k x0 x5 x10 x11 x24 x25 x26 x154000 x154001)
def diff_Steps_string.j2 : Nat → List ByteArray → List (S42) → Int → Int → List (S44) → Int → Int → Int → Int → Option ((List (S42)))
 | 0, _, _, _, _, _, _, _, _, _ => none
 | k + 1, x0, x5, x10, x11, x24, x25, x26, x154000, x154001 => if (wrap64 (x10 + x11)) > 0 then (if 0 ≤ (wrap64 ((x5.length : Int) - 1)) then (if (wrap64 ((x5.length : Int) - 1)) < (x5.length : Int) then ((some (x5.set ((wrap64 ((x5.length : Int) - 1)) : Int).toNat (⟨(rd_T42 x5 (wrap64 ((x5.length : Int) - 1))).f0, x10, (rd_T42 x5 (wrap64 ((x5.length : Int) - 1))).f2⟩ : S42) : List (S42))).bind fun y157 => (diff_Steps_string.j3 k x0 (y157.set ((wrap64 ((x5.length : Int) - 1)) : Int).toNat (⟨(rd_T42 y157 (wrap64 ((x5.length : Int) - 1))).f0, (rd_T42 y157 (wrap64 ((x5.length : Int) - 1))).f1, x11⟩ : S42)) x10 x11 x24 x25 x26 x154000 x154001)) else (none)) else (none)) else (diff_Steps_string.j3 k x0 x5 x10 x11 x24 x25 x26 x154000 x154001)
def diff_Steps_string.j3 : Nat → List ByteArray → List (S42) → Int → Int → List (S44) → Int → Int → Int → Int → Option ((List (S42)))
 | 0, _, _, _, _, _, _, _, _, _ => none
 | k + 1, x0, x5, x10, x11, x24, x25, x26, x154000, x154001 => if x154000 = (x0.length : Int) then (some x5) else (if (x5.length : Int) = 0 then (if x5.length < 5864062014805 then ((some (x5 ++ [(⟨0, 0, 0⟩ : S42)] : List (S42))).bind fun y159 => (if 0 ≤ (wrap64 ((y159.length : Int) - 1)) then (if (wrap64 ((y159.length : Int) - 1)) < (y159.length : Int) then (diff_Steps_string.l0 k x0 (y159.set ((wrap64 ((y159.length : Int) - 1)) : Int).toNat (⟨wrap64 (((rd_T42 y159 (wrap64 ((y159.length : Int) - 1))).f0) + 1), (rd_T42 y159 (wrap64 ((y159.length : Int) - 1))).f1, (rd_T42 y159 (wrap64 ((y159.length : Int) - 1))).f2⟩ : S42)) (wrap64 (x154000 + 1)) (wrap64 (x154001 + 1)) x24 x25 (wrap64 (x26 + 1))) else (none)) else (none))) else (none)) else (if (wrap64 (x10 + x11)) > 0 then (if x5.length < 5864062014805 then ((some (x5 ++ [(⟨0, 0, 0⟩ : S42)] : List (S42))).bind fun y164 => (if 0 ≤ (wrap64 ((y164.length : Int) - 1)) then (if (wrap64 ((y164.length : Int) - 1)) < (y164.length : Int) then (diff_Steps_string.l0 k x0 (y164.set ((wrap64 ((y164.length : Int) - 1)) : Int).toNat (⟨wrap64 (((rd_T42 y164 (wrap64 ((y164.length : Int) - 1))).f0) + 1), (rd_T42 y164 (wrap64 ((y164.length : Int) - 1))).f1, (rd_T42 y164 (wrap64 ((y164.length : Int) - 1))).f2⟩ : S42)) (wrap64 (x154000 + 1)) (wrap64 (x154001 + 1)) x24 x25 (wrap64 (x26 + 1))) else (none)) else (none))) else (none)) else (if 0 ≤ (wrap64 ((x5.length : Int) - 1)) then (if (wrap64 ((x5.length : Int) - 1)) < (x5.length : Int) then (diff_Steps_string.l0 k x0 (x5.set ((wrap64 ((x5.length : Int) - 1)) : Int).toNat (⟨wrap64 (((rd_T42 x5 (wrap64 ((x5.length : Int) - 1))).f0) + 1), (rd_T42 x5 (wrap64 ((x5.length : Int) - 1))).f1, (rd_T42 x5 (wrap64 ((x5.length : Int) - 1))).f2⟩ : S42)) (wrap64 (x154000 + 1)) (wrap64 (x154001 + 1)) x24 x25 (wrap64 (x26 + 1))) else (none)) else (none))))
end
def diff_Steps_string.f (k : Nat) (l0 : List ByteArray) (l1 : List ByteArray) : Option ((List (S42))) := (diff_long_string.f l0 l1).bind fun t145 => (if t145 = true then (some ([] : List (S42))) else ((diff_Pairs_string.f k l0 l1).bind fun t146 => (if t146.length < 8796093022208 then ((some (t146 ++ [(⟨(l0.length : Int), (l1.length : Int)⟩ : S44)] : List (S44))).bind fun y149 => (diff_Steps_string.l0 k l0 ([] : List (S42)) 0 0 y149 (y149.length : Int) 0)) else (none))))
theorem diff_Steps_string.mono_l : ∀ k, (∀ y0 y1 y2 y3 y4 y5 y6, LeO (diff_Steps_string.l0 k y0 y1 y2 y3 y4 y5 y6) (diff_Steps_string.l0 (k + 1) y0 y1 y2 y3 y4 y5 y6)) ∧ (∀ y0 y1 y2 y3 y4 y5 y6 y7 y8 y9, LeO (diff_Steps_string.j1 k y0 y1 y2 y3 y4 y5 y6 y7 y8 y9) (diff_Steps_string.j1 (k + 1) y0 y1 y2 y3 y4 y5 y6 y7 y8 y9)) ∧ (∀ y0 y1 y2 y3 y4 y5 y6 y7 y8, LeO (diff_Steps_string.j2 k y0 y1 y2 y3 y4 y5 y6 y7 y8) (diff_Steps_string.j2 (k + 1) y0 y1 y2 y3 y4 y5 y6 y7 y8)) ∧ (∀ y0 y1 y2 y3 y4 y5 y6 y7 y8, LeO (diff_Steps_string.j3 k y0 y1 y2 y3 y4 y5 y6 y7 y8) (diff_Steps_string.j3 (k + 1) y0 y1 y2 y3 y4 y5 y6 y7 y8))
 | 0 => ⟨fun _ _ _ _ _ _ _ r h => by simp [diff_Steps_string.l0] at h, fun _ _ _ _ _ _ _ _ _ _ r h => by simp [diff_Steps_string.j1] at h, fun _ _ _ _ _ _ _ _ _ r h => by simp [diff_Steps_string.j2] at h, fun _ _ _ _ _ _ _ _ _ r h => by simp [diff_Steps_string.j3] at h⟩
 | k + 1 => by
  obtain ⟨ih0, ih1, ih2, ih3⟩ := diff_Steps_string.mono_l k
  refine ⟨?_, ?_, ?_, ?_⟩
  ·intro y0 y1 y2 y3 y4 y5 y6
   unfold diff_Steps_string.l0
   repeat' first
   | (with_reducible exact ih0 _ _ _ _ _ _ _)
   | (with_reducible exact ih1 _ _ _ _ _ _ _ _ _ _)
   | (with_reducible exact ih2 _ _ _ _ _ _ _ _ _)
   | (with_reducible exact ih3 _ _ _ _ _ _ _ _ _)
   | (with_reducible exact diff_Pairs_string.mono _ _ _)
   | (with_reducible exact LeO.refl _)
   | (with_reducible exact LeO.none _)
   | (with_reducible refine LeO.ite ?_ ?_)
   | (with_reducible refine LeO.bind ?_ (fun _ => ?_))
   | exact ih0 _ _ _ _ _ _ _
   | exact ih1 _ _ _ _ _ _ _ _ _ _
   | exact ih2 _ _ _ _ _ _ _ _ _
   | exact ih3 _ _ _ _ _ _ _ _ _
   | exact diff_Pairs_string.mono _ _ _
   | exact LeO.none _
   | refine LeO.ite ?_ ?_
   | refine LeO.bind ?_ (fun _ => ?_)
  ·intro y0 y1 y2 y3 y4 y5 y6 y7 y8 y9
   unfold diff_Steps_string.j1
   repeat' first
   | (with_reducible exact ih0 _ _ _ _ _ _ _)
   | (with_reducible exact ih1 _ _ _ _ _ _ _ _ _ _)
   | (with_reducible exact ih2 _ _ _ _ _ _ _ _ _)
   | (with_reducible exact ih3 _ _ _ _ _ _ _ _ _)
   | (with_reducible exact diff_Pairs_string.mono _ _ _)
   | (with_reducible exact LeO.refl _)
   | (with_reducible exact LeO.none _)
   | (with_reducible refine LeO.ite ?_ ?_)
   | (with_reducible refine LeO.bind ?_ (fun _ => ?_))
   | exact ih0 _ _ _ _ _ _ _
   | exact ih1 _ _ _ _ _ _ _ _ _ _
   | exact ih2 _ _ _ _ _ _ _ _ _
   | exact ih3 _ _ _ _ _ _ _ _ _
   | exact diff_Pairs_string.mono _ _ _
   | exact LeO.none _
   | refine LeO.ite ?_ ?_
   | refine LeO.bind ?_ (fun _ => ?_)
  ·intro y0 y1 y2 y3 y4 y5 y6 y7 y8
   unfold diff_Steps_string.j2
   repeat' first
   | (with_reducible exact ih0 _ _ _ _ _ _ _)
   | (with_reducible exact ih1 _ _ _ _ _ _ _ _ _ _)
   | (with_reducible exact ih2 _ _ _ _ _ _ _ _ _)
   | (with_reducible exact ih3 _ _ _ _ _ _ _ _ _)
   | (with_reducible exact diff_Pairs_string.mono _ _ _)
   | (with_reducible exact LeO.refl _)
   | (with_reducible exact LeO.none _)
   | (with_reducible refine LeO.ite ?_ ?_)
   | (with_reducible refine LeO.bind ?_ (fun _ => ?_))
   | exact ih0 _ _ _ _ _ _ _
   | exact ih1 _ _ _ _ _ _ _ _ _ _
   | exact ih2 _ _ _ _ _ _ _ _ _
   | exact ih3 _ _ _ _ _ _ _ _ _
   | exact diff_Pairs_string.mono _ _ _
   | exact LeO.none _
   | refine LeO.ite ?_ ?_
   | refine LeO.bind ?_ (fun _ => ?_)
  ·intro y0 y1 y2 y3 y4 y5 y6 y7 y8
   unfold diff_Steps_string.j3
   repeat' first
   | (with_reducible exact ih0 _ _ _ _ _ _ _)
   | (with_reducible exact ih1 _ _ _ _ _ _ _ _ _ _)
   | (with_reducible exact ih2 _ _ _ _ _ _ _ _ _)
   | (with_reducible exact ih3 _ _ _ _ _ _ _ _ _)
   | (with_reducible exact diff_Pairs_string.mono _ _ _)
   | (with_reducible exact LeO.refl _)
   | (with_reducible exact LeO.none _)
   | (with_reducible refine LeO.ite ?_ ?_)
   | (with_reducible refine LeO.bind ?_ (fun _ => ?_))
   | exact ih0 _ _ _ _ _ _ _
   | exact ih1 _ _ _ _ _ _ _ _ _ _
   | exact ih2 _ _ _ _ _ _ _ _ _
   | exact ih3 _ _ _ _ _ _ _ _ _
   | exact diff_Pairs_string.mono _ _ _
   | exact LeO.none _
   | refine LeO.ite ?_ ?_
   | refine LeO.bind ?_ (fun _ => ?_)
theorem diff_Steps_string.mono : ∀ a0 a1 k, LeO (diff_Steps_string.f k a0 a1) (diff_Steps_string.f (k + 1) a0 a1) := by
 intro a0 a1 k
 obtain ⟨ih0, ih1, ih2, ih3⟩ := diff_Steps_string.mono_l k
 unfold diff_Steps_string.f
 repeat' first
  | (with_reducible exact ih0 _ _ _ _ _ _ _)
  | (with_reducible exact ih1 _ _ _ _ _ _ _ _ _ _)
  | (with_reducible exact ih2 _ _ _ _ _ _ _ _ _)
  | (with_reducible exact ih3 _ _ _ _ _ _ _ _ _)
  | (with_reducible exact diff_Pairs_string.mono _ _ _)
  | (with_reducible exact LeO.refl _)
  | (with_reducible exact LeO.none _)
  | (with_reducible refine LeO.ite ?_ ?_)
  | (with_reducible refine LeO.bind ?_ (fun _ => ?_))
  | exact ih0 _ _ _ _ _ _ _
  | exact ih1 _ _ _ _ _ _ _ _ _ _
  | exact ih2 _ _ _ _ _ _ _ _ _
  | exact ih3 _ _ _ _ _ _ _ _ _
  | exact diff_Pairs_string.mono _ _ _
  | exact LeO.none _
  | refine LeO.ite ?_ ?_
  | refine LeO.bind ?_ (fun _ => ?_)
set_option maxHeartbeats 8000000 in
set_option maxRecDepth 100000 in
theorem diff_Steps_string.calls (k : Nat) (A0 : Option Addr) (c0 : Nat) (l0 : List ByteArray) (A1 : Option Addr) (c1 : Nat) (l1 : List ByteArray) (r : List (S42)) (w : World) (hr0 : Kd.C Kd.string w A0 l0.length l0) (hc0 : l0.length ≤ c0) (hr1 : Kd.C Kd.string w A1 l1.length l1) (hc1 : l1.length ≤ c1) (h : diff_Steps_string.f k l0 l1 = some r) :
 Calls Tryd.prog 14 #[.slice A0 l0.length c0, .slice A1 l1.length c1] w fun e w' => ∃ v0_ : Value, e = .returned (v0_) ∧ Kd.R k42 42 w' w.heap.size (fun _ => True) v0_ r ∧ Below w.heap.size w w' := by
 have hu44 := Tryd.underlying44
 have hu42 := Tryd.underlying42
 have HR0 := Aside0.mk hr0
 have HC0 := Aside0.mk hc0
 clear hr0 hc0
 have HR1 := Aside0.mk hr1
 have HC1 := Aside0.mk hc1
 clear hr1 hc1
 have HB := Aside0.mk (Below.refl w.heap.size w)
 have H : ((diff_long_string.f l0 l1).bind fun t145 => (if t145 = true then (some ([] : List (S42))) else ((diff_Pairs_string.f k l0 l1).bind fun t146 => (if t146.length < 8796093022208 then ((some (t146 ++ [(⟨(l0.length : Int), (l1.length : Int)⟩ : S44)] : List (S44))).bind fun y149 => (diff_Steps_string.l0 k l0 ([] : List (S42)) 0 0 y149 (y149.length : Int) 0)) else (none))))) = some r := h
 clear h
 replace H := Option.bind_eq_some_iff.mp H
 obtain ⟨t145, A30, H⟩ := H
 replace H : (if t145 = true then (some ([] : List (S42))) else ((diff_Pairs_string.f k l0 l1).bind fun t146 => (if t146.length < 8796093022208 then ((some (t146 ++ [(⟨(l0.length : Int), (l1.length : Int)⟩ : S44)] : List (S44))).bind fun y149 => (diff_Steps_string.l0 k l0 ([] : List (S42)) 0 0 y149 (y149.length : Int) 0)) else (none)))) = some r := H
 have A3 := Aside0.mk A30
 clear A30
 by_cases c4 : t145 = true
 ·subst c4
  have H1 : (some ([] : List (S42))) = some r := by rw [if_pos rfl] at H; exact H
  clear H
  have H := H1
  clear H1
  obtain rfl := Option.some.inj H
  go_enter Tryd.func14, Tryd.ntmps14
  go_wp2_with (first | (go_at_call 21; (with_reducible refine (diff_long_string.calls _ _ l0 _ _ l1 true _ ?side1 ?side2 ?side3 ?side4 A3.out).mono ?_); (case side1 => repeat (first | exact HR0.out | (with_reducible refine Kd.C_alloc ?_ _) | (with_reducible refine Kd.C_drewN ?_ _) | (with_reducible refine Kd.C_drew ?_))); (case side2 => exact HC0.out); (case side3 => repeat (first | exact HR1.out | (with_reducible refine Kd.C_alloc ?_ _) | (with_reducible refine Kd.C_drewN ?_ _) | (with_reducible refine Kd.C_drew ?_))); (case side4 => exact HC1.out); rintro e w' ⟨rfl, ⟨nd, rfl⟩⟩; (try first | exact ⟨rfl, _, World.drewN_drewN _ _ _⟩ | exact ⟨rfl, _, Eq.trans (World.drewN_drewN _ _ _) (congrArg (World.drewN _) (Nat.add_assoc _ _ _))⟩)))
  go_ret
  exact ⟨_, by first | rfl | (simp [errW_none, errW_some] <;> rfl) | (simp [*, errW_none, errW_some] <;> rfl), by first | exact Kd.R_nil _ _ _ _ _ | exact Kd.N_nil _ _ _ _ _ | exact Kd.V_nil _ _ _ _ _ | exact Kd.Q_nil _ _ _ _ _ | exact Kd.S_nil _ _ _ _ _, by repeat first | exact HB.out | apply below_alloc | apply pw_below_drewN | apply below_drew1⟩
 ·replace c4 := Bool.eq_false_iff.mpr c4
  subst c4
  have H1 : ((diff_Pairs_string.f k l0 l1).bind fun t146 => (if t146.length < 8796093022208 then ((some (t146 ++ [(⟨(l0.length : Int), (l1.length : Int)⟩ : S44)] : List (S44))).bind fun y149 => (diff_Steps_string.l0 k l0 ([] : List (S42)) 0 0 y149 (y149.length : Int) 0)) else (none))) = some r := by rw [if_neg (show ¬ (false = true) by decide)] at H; exact H
  clear H
  have H := H1
  clear H1
  replace H := Option.bind_eq_some_iff.mp H
  obtain ⟨t146, A50, H⟩ := H
  replace H : (if t146.length < 8796093022208 then ((some (t146 ++ [(⟨(l0.length : Int), (l1.length : Int)⟩ : S44)] : List (S44))).bind fun y149 => (diff_Steps_string.l0 k l0 ([] : List (S42)) 0 0 y149 (y149.length : Int) 0)) else (none)) = some r := H
  have A5 := Aside0.mk A50
  clear A50
  by_cases c6 : t146.length < 8796093022208
  ·rw [if_pos c6] at H
   have LMc6 := Aside0.mk c6
   clear c6
   obtain ⟨y149, hy149⟩ : ∃ y_ : List (S44), y_ = (t146 ++ [(⟨(l0.length : Int), (l1.length : Int)⟩ : S44)]) := ⟨_, rfl⟩
   replace H : (diff_Steps_string.l0 k l0 ([] : List (S42)) 0 0 y149 (y149.length : Int) 0) = some r := by first | (rw [hy149]; with_reducible exact H) | (have H2_ := (Option.bind_some _ _).symm.trans H; rw [hy149]; with_reducible exact H2_) | (have H2_ := (Option.bind_some _ _).symm.trans H; with_reducible exact H2_) | with_reducible exact H | (rw [hy149]; exact H) | exact H
   have Ny149 := Aside0.mk hy149
   clear hy149
   have H' := Aside0.mk H
   clear H
   go_enter Tryd.func14, Tryd.ntmps14
   go_wp2_with (first | (go_at_call 21; (with_reducible refine (diff_long_string.calls _ _ l0 _ _ l1 false _ ?side1 ?side2 ?side3 ?side4 A3.out).mono ?_); (case side1 => repeat (first | exact HR0.out | (with_reducible refine Kd.C_alloc ?_ _) | (with_reducible refine Kd.C_drewN ?_ _) | (with_reducible refine Kd.C_drew ?_))); (case side2 => exact HC0.out); (case side3 => repeat (first | exact HR1.out | (with_reducible refine Kd.C_alloc ?_ _) | (with_reducible refine Kd.C_drewN ?_ _) | (with_reducible refine Kd.C_drew ?_))); (case side4 => exact HC1.out); rintro e w' ⟨rfl, ⟨nd, rfl⟩⟩; (try first | exact ⟨rfl, _, World.drewN_drewN _ _ _⟩ | exact ⟨rfl, _, Eq.trans (World.drewN_drewN _ _ _) (congrArg (World.drewN _) (Nat.add_assoc _ _ _))⟩)) | (go_at_call 12; (with_reducible refine (diff_Pairs_string.calls k _ _ l0 _ _ l1 t146 _ ?side1 ?side2 ?side3 ?side4 A5.out).mono ?_); (case side1 => repeat (first | exact HR0.out | (with_reducible refine Kd.C_alloc ?_ _) | (with_reducible refine Kd.C_drewN ?_ _) | (with_reducible refine Kd.C_drew ?_))); (case side2 => exact HC0.out); (case side3 => repeat (first | exact HR1.out | (with_reducible refine Kd.C_alloc ?_ _) | (with_reducible refine Kd.C_drewN ?_ _) | (with_reducible refine Kd.C_drew ?_))); (case side4 => exact HC1.out); rintro e w7 ⟨v147, rfl, ho0, hb⟩; have n0_ := Aside0.mk (Kd.R_lower ho0 (below_size (by repeat first | exact HB.out | apply below_alloc | apply pw_below_drewN | apply below_drew1))); have n1_ := Aside0.mk (below_step (by repeat first | exact HB.out | apply below_alloc | apply pw_below_drewN | apply below_drew1) hb); clear HB; have HO148 := n0_; have HB := n1_; clear n0_ n1_; (try clear hb); (try clear hb2); (try clear hk); (try clear hi); (try clear ho0)) | ((with_reducible refine gate_builtin (b := .append) (xs := #[.tmp 17, .tmp 23]) rfl ?_); at_builtin; refine Kd.R_append k44 (w0 := w) w.heap.size rfl (.tmp 17) (.tmp 23) 33 44 (.agg #[(.int .i64 0), (.int .i64 0)]) 16 rfl Tryd.underlying33 info44 rfl (by decide) (by omega) v147 t146 (⟨(l0.length : Int), (l1.length : Int)⟩ : S44) [.int .i64 (l0.length : Int), .int .i64 (l1.length : Int)] (fun _ => True) (fun _ => False) rfl rfl ?aP (fun _ hk => hk.elim) ?aF ?aO ?aB ?aS ?aL ?_; (case aP => exact k44_mkM _ _ _ (⟨(l0.length : Int), (l1.length : Int)⟩ : S44)); (case aB => exact (by repeat first | exact HB.out | apply below_alloc | apply pw_below_drewN | apply below_drew1)); (case aF => exact (fun _ _ => trivial)); (case aO => exact (by (with_reducible repeat (first | apply Kd.R_alloc | apply Kd.R_drewN | apply Kd.R_drew)); exact HO148.out)); (case aS => exact (below_size (by repeat first | exact HB.out | apply below_alloc | apply pw_below_drewN | apply below_drew1))); (case aL => have := LMc6.out; omega); intro v150 w8 ho hb hg hat; rw [← Ny149.out] at ho; have n0_ := Aside0.mk (hb); have n1_ := Aside0.mk (ho); clear HB; clear HO148; have HB := n0_; have HO151 := n1_; clear n0_ n1_; clear ho hb hg hat; obtain ⟨Ao9, co9, eo9⟩ := Kd.R_slice HO151.out; subst eo9))
   go_loopg [5, 6, 7, 26] k (fun kq v5 v6 v7 v26 w' => ∃ (x5_1 : List (S42)) (x6_1 : Int) (x7_1 : Int) (x26_1 : Int), v6 = .int .i64 x6_1 ∧ v7 = .int .i64 x7_1 ∧ v26 = .int .i64 x26_1 ∧ Aside0 (diff_Steps_string.l0 kq l0 x5_1 x6_1 x7_1 y149 (y149.length : Int) x26_1 = some r) ∧ Aside0 (kq ≤ k) ∧ Aside0 (Kd.R k42 42 w' w.heap.size (fun _ => True) v5 x5_1) ∧ Aside0 (Kd.R k44 44 w' w.heap.size (fun _ => True) (.slice Ao9 y149.length co9) y149) ∧ Aside0 (Below w.heap.size w w'))
   case atStart => exact ⟨(([] : List (S42))), (0), (0), (0), (by first | rfl | (simp; done) | (simp [*]; done)), (by first | rfl | (simp; done) | (simp [*]; done)), (by first | rfl | (simp; done) | (simp [*]; done)), H', ⟨Nat.le_refl _⟩, ⟨by first | exact Kd.R_nil _ _ _ _ _ | exact Kd.N_nil _ _ _ _ _ | exact Kd.V_nil _ _ _ _ _ | exact Kd.Q_nil _ _ _ _ _ | exact Kd.S_nil _ _ _ _ _⟩, ⟨by (with_reducible repeat (first | apply Kd.R_alloc | apply Kd.R_drewN | apply Kd.R_drew)); exact HO151.out⟩, ⟨by repeat first | exact HB.out | apply below_alloc | apply pw_below_drewN | apply below_drew1⟩⟩
   case round =>
    clear H'
    try clear c1
    try clear p2
    try clear c4
    try clear c6
    obtain ⟨x5_1, x6_1, x7_1, x26_1, rfl, rfl, rfl, HA, HK1, HO_5, HO_24, HB⟩ := hrel
    cases gk with
    | zero => exact absurd HA.out (by simp [diff_Steps_string.l0])
    | succ k1 =>
     have H := HA.out
     clear HA
     simp only [diff_Steps_string.l0] at H
     by_cases c10 : x26_1 < (y149.length : Int)
     ·rw [if_pos c10] at H
      have c10b0 : decide (x26_1 < (y149.length : Int)) = true := decide_eq_true c10
      clear c10
      by_cases c11 : 0 ≤ x26_1
      ·rw [if_pos c11] at H
       have c11b0 : decide (0 ≤ x26_1) = true := decide_eq_true c11
       clear c11
       by_cases c12 : x26_1 < (y149.length : Int)
       ·rw [if_pos c12] at H
        have c12b0 : decide (x26_1 < (y149.length : Int)) = true := decide_eq_true c12
        clear c12
        have HC13 := Aside0.mk H
        clear H
        have p152 : 0 ≤ (x26_1 : Int) := of_decide_eq_true (by assumption)
        have q152 : x26_1 < (y149.length : Int) := of_decide_eq_true (by assumption)
        obtain ⟨ad152, e152, hx152_0, hx152_1⟩ := at_T44 (Kd.R_reads' HO_24.out).2.2 x26_1 p152 q152
        cases e152
        replace p152 := eq_true p152
        replace q152 := eq_true q152
        go_upto_region 9 with (first | ((with_reducible refine gate_dst (N := 9) rfl ?_); refine box_event ?hg (N := 9) ?hd (cs := #[.int .i64 0, .int .i64 0]) (t := 44) ?hr ?_; (case hd => rfl); (case hg => rfl); (case hr => first | (go_simp; done) | (go_simp; rfl)); intro gb153 hg w14 hbox hb; have n0_ := Aside0.mk (Kd.R_below (by (with_reducible repeat (first | apply Kd.R_alloc | apply Kd.R_drewN | apply Kd.R_drew)); exact HO_5.out) hb); have n1_ := Aside0.mk (Kd.R_below (Kd.R_elderB (by (with_reducible repeat (first | apply Kd.R_alloc | apply Kd.R_drewN | apply Kd.R_drew)); exact HO_24.out) gb153 (Nat.le_of_eq hg.symm)) hb); have n2_ := Aside0.mk (below_step (by repeat first | exact HB.out | apply below_alloc | apply pw_below_drewN | apply below_drew1) hb); have n3_ := Aside0.mk (hbox); have n4_ := Aside0.mk ((by rw [hg]; exact (below_size (by repeat first | exact HB.out | apply below_alloc | apply pw_below_drewN | apply below_drew1)) : w.heap.size ≤ gb153)); have n5_ := Aside0.mk ((by rw [hg]; exact (below_size (by repeat first | exact HB.out | apply below_alloc | apply pw_below_drewN | apply below_drew1)) : w.heap.size ≤ gb153)); clear HO_5; clear HO_24; clear HB; have HO_5 := n0_; have HO_24 := n1_; have HB := n2_; have BK153 := n3_; have GW153 := n4_; have GE153 := n5_; clear n0_ n1_ n2_ n3_ n4_ n5_; clear hb hbox hg; have hcz15_0 : w14.cell? ⟨gb153, 0, none⟩ = some (.int .i64 0) := (blk_cell BK153.out 0).trans rfl; have hcz15_1 : w14.cell? ⟨gb153, 1, none⟩ = some (.int .i64 0) := (blk_cell BK153.out 1).trans rfl; have hfz15_0 := blk_frozen BK153.out 0; have hfz15_1 := blk_frozen BK153.out 1))
        repeat (go_quiet (first | ((with_reducible refine gate_dst (N := 9) rfl ?_); refine box_event ?hg (N := 9) ?hd (cs := #[.int .i64 0, .int .i64 0]) (t := 44) ?hr ?_; (case hd => rfl); (case hg => rfl); (case hr => first | (go_simp; done) | (go_simp; rfl)); intro gb153 hg w14 hbox hb; have n0_ := Aside0.mk (Kd.R_below (by (with_reducible repeat (first | apply Kd.R_alloc | apply Kd.R_drewN | apply Kd.R_drew)); exact HO_5.out) hb); have n1_ := Aside0.mk (Kd.R_below (Kd.R_elderB (by (with_reducible repeat (first | apply Kd.R_alloc | apply Kd.R_drewN | apply Kd.R_drew)); exact HO_24.out) gb153 (Nat.le_of_eq hg.symm)) hb); have n2_ := Aside0.mk (below_step (by repeat first | exact HB.out | apply below_alloc | apply pw_below_drewN | apply below_drew1) hb); have n3_ := Aside0.mk (hbox); have n4_ := Aside0.mk ((by rw [hg]; exact (below_size (by repeat first | exact HB.out | apply below_alloc | apply pw_below_drewN | apply below_drew1)) : w.heap.size ≤ gb153)); have n5_ := Aside0.mk ((by rw [hg]; exact (below_size (by repeat first | exact HB.out | apply below_alloc | apply pw_below_drewN | apply below_drew1)) : w.heap.size ≤ gb153)); clear HO_5; clear HO_24; clear HB; have HO_5 := n0_; have HO_24 := n1_; have HB := n2_; have BK153 := n3_; have GW153 := n4_; have GE153 := n5_; clear n0_ n1_ n2_ n3_ n4_ n5_; clear hb hbox hg; have hcz15_0 : w14.cell? ⟨gb153, 0, none⟩ = some (.int .i64 0) := (blk_cell BK153.out 0).trans rfl; have hcz15_1 : w14.cell? ⟨gb153, 1, none⟩ = some (.int .i64 0) := (blk_cell BK153.out 1).trans rfl; have hfz15_0 := blk_frozen BK153.out 0; have hfz15_1 := blk_frozen BK153.out 1)); go_upto_region 9 with (first | ((with_reducible refine gate_dst (N := 9) rfl ?_); refine box_event ?hg (N := 9) ?hd (cs := #[.int .i64 0, .int .i64 0]) (t := 44) ?hr ?_; (case hd => rfl); (case hg => rfl); (case hr => first | (go_simp; done) | (go_simp; rfl)); intro gb153 hg w14 hbox hb; have n0_ := Aside0.mk (Kd.R_below (by (with_reducible repeat (first | apply Kd.R_alloc | apply Kd.R_drewN | apply Kd.R_drew)); exact HO_5.out) hb); have n1_ := Aside0.mk (Kd.R_below (Kd.R_elderB (by (with_reducible repeat (first | apply Kd.R_alloc | apply Kd.R_drewN | apply Kd.R_drew)); exact HO_24.out) gb153 (Nat.le_of_eq hg.symm)) hb); have n2_ := Aside0.mk (below_step (by repeat first | exact HB.out | apply below_alloc | apply pw_below_drewN | apply below_drew1) hb); have n3_ := Aside0.mk (hbox); have n4_ := Aside0.mk ((by rw [hg]; exact (below_size (by repeat first | exact HB.out | apply below_alloc | apply pw_below_drewN | apply below_drew1)) : w.heap.size ≤ gb153)); have n5_ := Aside0.mk ((by rw [hg]; exact (below_size (by repeat first | exact HB.out | apply below_alloc | apply pw_below_drewN | apply below_drew1)) : w.heap.size ≤ gb153)); clear HO_5; clear HO_24; clear HB; have HO_5 := n0_; have HO_24 := n1_; have HB := n2_; have BK153 := n3_; have GW153 := n4_; have GE153 := n5_; clear n0_ n1_ n2_ n3_ n4_ n5_; clear hb hbox hg; have hcz15_0 : w14.cell? ⟨gb153, 0, none⟩ = some (.int .i64 0) := (blk_cell BK153.out 0).trans rfl; have hcz15_1 : w14.cell? ⟨gb153, 1, none⟩ = some (.int .i64 0) := (blk_cell BK153.out 1).trans rfl; have hfz15_0 := blk_frozen BK153.out 0; have hfz15_1 := blk_frozen BK153.out 1)))
        (try simp only [Act.put, List.setIfInBounds_toArray, List.set_cons_zero, List.set_cons_succ])
        go_cut [46] (fun v46 wc => ∃ (kq : Nat) (x46_12 : Bool), v46 = .bool x46_12 ∧ Aside0 (diff_Steps_string.j1 kq l0 x5_1 (wrap64 (((rd_T44 y149 x26_1).f0) - x6_1)) (wrap64 (((rd_T44 y149 x26_1).f1) - x7_1)) y149 (y149.length : Int) x26_1 x46_12 ((rd_T44 y149 x26_1).f0) ((rd_T44 y149 x26_1).f1) = some r) ∧ Aside0 (kq ≤ k1) ∧ Aside0 (Kd.R k42 42 wc w.heap.size (fun _ => True) u5 x5_1) ∧ Aside0 (Kd.R k44 44 wc w.heap.size (fun k_ => k_ ≠ gb153) (.slice (some ad152) y149.length co9) y149) ∧ Aside0 (wc.heap[gb153]? = some (.cells #[.int .i64 ((rd_T44 y149 x26_1).f0), .int .i64 ((rd_T44 y149 x26_1).f1)] 44 (0, 0))) ∧ Aside0 (Below w.heap.size w wc))
        case first =>
         have H := HC13.out
         clear HC13
         by_cases c16 : (x5_1.length : Int) = 0
         ·rw [if_pos c16] at H
          have c16b0 : ((x5_1.length : Int) == 0) = true := beq_iff_eq.mpr c16
          have c16b1 : ((x5_1.length : Int) != 0) = false := bne_eq_false_iff_eq.mpr c16
          clear c16
          (first | rw [c16b0] | (simp only [i64_w, i32_w]; rw [c16b0]) | skip)
          have H' := Aside0.mk H
          clear H
          obtain ⟨Ao17, co17, eo17⟩ := Kd.R_slice HO_5.out
          subst eo17
          go_wp2
          repeat (go_quiet (fail); try go_wp2)
          go_meet
          case rel => exact ⟨_, (decide ((wrap64 ((wrap64 (((rd_T44 y149 x26_1).f0) - x6_1)) + (wrap64 (((rd_T44 y149 x26_1).f1) - x7_1)))) > 0)), (by first | rfl | (simp; done) | (simp [*]; done)), H', ⟨by have := HK1.out; first | omega | exact Nat.le_refl _⟩, ⟨by (with_reducible repeat (first | apply Kd.R_alloc | apply Kd.R_drewN | apply Kd.R_drew)); exact Kd.R_mono (Kd.R_far (p := ⟨gb153, 1, none⟩) (Kd.R_far (p := ⟨gb153, 0, none⟩) (Kd.R_types HO_5.out BK153.out (by decide)) (fun _ hk => hk.2) (.int .i64 ((rd_T44 y149 x26_1).f0))) (fun _ hk => hk.2) (.int .i64 ((rd_T44 y149 x26_1).f1))) (fun _ hk => trivial)⟩, ⟨by (with_reducible repeat (first | apply Kd.R_alloc | apply Kd.R_drewN | apply Kd.R_drew)); exact Kd.R_mono (Kd.R_far (p := ⟨gb153, 1, none⟩) (Kd.R_far (p := ⟨gb153, 0, none⟩) (Kd.R_mono HO_24.out (fun k_ hk => (⟨hk, hk.2⟩ : _ ∧ k_ ≠ gb153))) (fun _ hk => hk.2) (.int .i64 ((rd_T44 y149 x26_1).f0))) (fun _ hk => hk.2) (.int .i64 ((rd_T44 y149 x26_1).f1))) (fun _ hk => hk.1.2)⟩, ⟨by (with_reducible repeat (first | refine blk_drewN ?_ _ | refine blk_drew ?_ | refine blk_alloc ?_ _)); refine blk_put (cs := #[.int .i64 ((rd_T44 y149 x26_1).f0), .int .i64 0]) ?_ 1 _ rfl; (with_reducible repeat (first | refine blk_drewN ?_ _ | refine blk_drew ?_ | refine blk_alloc ?_ _)); refine blk_put (cs := #[.int .i64 0, .int .i64 0]) ?_ 0 _ rfl; (with_reducible repeat (first | refine blk_drewN ?_ _ | refine blk_drew ?_ | refine blk_alloc ?_ _)); exact BK153.out⟩, ⟨by repeat (first | (with_reducible first | exact HB.out | apply below_alloc | apply pw_below_drewN | apply below_drew1 | refine below_set ?_ GE153.out) | exact HB.out)⟩⟩
         ·rw [if_neg c16] at H
          have c16b0 : ((x5_1.length : Int) == 0) = false := beq_eq_false_iff_ne.mpr c16
          have c16b1 : ((x5_1.length : Int) != 0) = true := bne_iff_ne.mpr c16
          have c16b2 : ¬ (x5_1 = []) := fun h_ => c16 (by rw [h_]; rfl)
          (first | rw [c16b0] | (simp only [i64_w, i32_w]; rw [c16b0]) | skip)
          have H' := Aside0.mk H
          clear H
          obtain ⟨Ao18, co18, eo18⟩ := Kd.R_slice HO_5.out
          subst eo18
          go_wp2
          repeat (go_quiet (fail); try go_wp2)
          go_meet
          case rel => exact ⟨_, (false), (by first | rfl | (simp; done) | (simp [*]; done)), H', ⟨by have := HK1.out; first | omega | exact Nat.le_refl _⟩, ⟨by (with_reducible repeat (first | apply Kd.R_alloc | apply Kd.R_drewN | apply Kd.R_drew)); exact Kd.R_mono (Kd.R_far (p := ⟨gb153, 1, none⟩) (Kd.R_far (p := ⟨gb153, 0, none⟩) (Kd.R_types HO_5.out BK153.out (by decide)) (fun _ hk => hk.2) (.int .i64 ((rd_T44 y149 x26_1).f0))) (fun _ hk => hk.2) (.int .i64 ((rd_T44 y149 x26_1).f1))) (fun _ hk => trivial)⟩, ⟨by (with_reducible repeat (first | apply Kd.R_alloc | apply Kd.R_drewN | apply Kd.R_drew)); exact Kd.R_mono (Kd.R_far (p := ⟨gb153, 1, none⟩) (Kd.R_far (p := ⟨gb153, 0, none⟩) (Kd.R_mono HO_24.out (fun k_ hk => (⟨hk, hk.2⟩ : _ ∧ k_ ≠ gb153))) (fun _ hk => hk.2) (.int .i64 ((rd_T44 y149 x26_1).f0))) (fun _ hk => hk.2) (.int .i64 ((rd_T44 y149 x26_1).f1))) (fun _ hk => hk.1.2)⟩, ⟨by (with_reducible repeat (first | refine blk_drewN ?_ _ | refine blk_drew ?_ | refine blk_alloc ?_ _)); refine blk_put (cs := #[.int .i64 ((rd_T44 y149 x26_1).f0), .int .i64 0]) ?_ 1 _ rfl; (with_reducible repeat (first | refine blk_drewN ?_ _ | refine blk_drew ?_ | refine blk_alloc ?_ _)); refine blk_put (cs := #[.int .i64 0, .int .i64 0]) ?_ 0 _ rfl; (with_reducible repeat (first | refine blk_drewN ?_ _ | refine blk_drew ?_ | refine blk_alloc ?_ _)); exact BK153.out⟩, ⟨by repeat (first | (with_reducible first | exact HB.out | apply below_alloc | apply pw_below_drewN | apply below_drew1 | refine below_set ?_ GE153.out) | exact HB.out)⟩⟩
        case rest =>
         clear HC13
         try clear c1
         try clear p1
         try clear q1
         try clear hx1
         try clear p2
         try clear c4
         try clear c6
         try clear p6
         try clear c10
         try clear c10b0
         try clear c11
         try clear c11b0
         try clear c12
         try clear c12b0
         try clear c14
         try clear p15
         try clear q15
         try clear hx15
         try clear c16
         try clear c16b0
         try clear c16b1
         try clear c16b2
         try clear hcz15_0
         try clear hcz15_1
         try clear hfz15_0
         try clear hfz15_1
         try clear hx152_0
         try clear hx152_1
         try clear p152
         try clear p2
         try clear q152
         obtain ⟨kq, x46_12, rfl, HA, HJ12, HO_5, HO_24, BK153, HB⟩ := hcut
         cases kq with
         | zero => exact absurd HA.out (by simp [diff_Steps_string.j1])
         | succ kj12 =>
          have H := HA.out
          clear HA
          simp only [diff_Steps_string.j1] at H
          have HC19 := Aside0.mk H
          clear H
          go_upto_if 46 with (fail)
          repeat (go_quiet (fail); go_upto_if 46 with (fail))
          go_cut [5] (fun v5 wc => ∃ (kq : Nat) (x5_18 : List (S42)), Aside0 (diff_Steps_string.j2 kq l0 x5_18 (wrap64 (((rd_T44 y149 x26_1).f0) - x6_1)) (wrap64 (((rd_T44 y149 x26_1).f1) - x7_1)) y149 (y149.length : Int) x26_1 ((rd_T44 y149 x26_1).f0) ((rd_T44 y149 x26_1).f1) = some r) ∧ Aside0 (kq ≤ kj12) ∧ Aside0 (Kd.R k42 42 wc w.heap.size (fun _ => True) v5 x5_18) ∧ Aside0 (Kd.R k44 44 wc w.heap.size (fun k_ => k_ ≠ gb153) (.slice (some ad152) y149.length co9) y149) ∧ Aside0 (wc.heap[gb153]? = some (.cells #[.int .i64 ((rd_T44 y149 x26_1).f0), .int .i64 ((rd_T44 y149 x26_1).f1)] 44 (0, 0))) ∧ Aside0 (Below w.heap.size w wc))
          case first =>
           have H := HC19.out
           clear HC19
           by_cases c20 : x46_12 = true
           ·subst c20
            have H1 : (if x5_1.length < 5864062014805 then (diff_Steps_string.j2 kj12 l0 (x5_1 ++ [(⟨0, 0, 0⟩ : S42)]) (wrap64 (((rd_T44 y149 x26_1).f0) - x6_1)) (wrap64 (((rd_T44 y149 x26_1).f1) - x7_1)) y149 (y149.length : Int) x26_1 ((rd_T44 y149 x26_1).f0) ((rd_T44 y149 x26_1).f1)) else (none)) = some r := by rw [if_pos rfl] at H; exact H
            clear H
            have H := H1
            clear H1
            by_cases c21 : x5_1.length < 5864062014805
            ·rw [if_pos c21] at H
             have LMc21 := Aside0.mk c21
             clear c21
             obtain ⟨y154, hy154⟩ : ∃ y_ : List (S42), y_ = (x5_1 ++ [(⟨0, 0, 0⟩ : S42)]) := ⟨_, rfl⟩
             replace H : (diff_Steps_string.j2 kj12 l0 y154 (wrap64 (((rd_T44 y149 x26_1).f0) - x6_1)) (wrap64 (((rd_T44 y149 x26_1).f1) - x7_1)) y149 (y149.length : Int) x26_1 ((rd_T44 y149 x26_1).f0) ((rd_T44 y149 x26_1).f1)) = some r := by first | (rw [hy154]; with_reducible exact H) | (have H2_ := (Option.bind_some _ _).symm.trans H; rw [hy154]; with_reducible exact H2_) | (have H2_ := (Option.bind_some _ _).symm.trans H; with_reducible exact H2_) | with_reducible exact H | (rw [hy154]; exact H) | exact H
             have Ny154 := Aside0.mk hy154
             clear hy154
             have H' := Aside0.mk H
             clear H
             go_wp2_with (first | ((with_reducible refine gate_builtin (b := .append) (xs := #[.tmp 47, .tmp 49]) rfl ?_); at_builtin; refine Kd.R_append k42 (w0 := w) w.heap.size rfl (.tmp 47) (.tmp 49) 26 42 (.agg #[(.int .i64 0), (.int .i64 0), (.int .i64 0)]) 24 rfl Tryd.underlying26 info42 rfl (by decide) (by omega) u5 x5_1 (⟨0, 0, 0⟩ : S42) [.int .i64 0, .int .i64 0, .int .i64 0] (fun _ => True) (fun _ => False) rfl rfl ?aP (fun _ hk => hk.elim) ?aF ?aO ?aB ?aS ?aL ?_; (case aP => exact k42_mkM _ _ _ (⟨0, 0, 0⟩ : S42)); (case aB => exact (by repeat (first | (with_reducible first | exact HB.out | apply below_alloc | apply pw_below_drewN | apply below_drew1 | refine below_set ?_ GE153.out) | exact HB.out))); (case aF => exact (fun _ _ => trivial)); (case aO => exact (by (with_reducible repeat (first | apply Kd.R_alloc | apply Kd.R_drewN | apply Kd.R_drew)); exact HO_5.out)); (case aS => exact (below_size (by repeat (first | (with_reducible first | exact HB.out | apply below_alloc | apply pw_below_drewN | apply below_drew1 | refine below_set ?_ GE153.out) | exact HB.out)))); (case aL => have := LMc21.out; omega); intro v155 w22 ho hb hg hat; rw [← Ny154.out] at ho; have n0_ := Aside0.mk (Kd.R_over' (by (with_reducible repeat (first | apply Kd.R_alloc | apply Kd.R_drewN | apply Kd.R_drew)); exact HO_24.out) (Kd.R_typed (by (with_reducible repeat (first | apply Kd.R_alloc | apply Kd.R_drewN | apply Kd.R_drew)); exact HO_5.out)) (by decide) hg); have n1_ := Aside0.mk (blk_grown (g := gb153) (o := .cells #[.int .i64 ((rd_T44 y149 x26_1).f0), .int .i64 ((rd_T44 y149 x26_1).f1)] 44 (0, 0)) (by (with_reducible repeat (first | refine blk_drewN ?_ _ | refine blk_drew ?_ | refine blk_alloc ?_ _)); exact BK153.out) hg (Kd.R_ne HO_5.out BK153.out (by decide))); have n2_ := Aside0.mk (hb); have n3_ := Aside0.mk (ho); clear HO_24; clear BK153; clear HB; clear HO_5; have HO_24 := n0_; have BK153 := n1_; have HB := n2_; have HO156 := n3_; clear n0_ n1_ n2_ n3_; clear ho hb hg hat))
             go_meet
             case rel => exact ⟨_, (y154), H', ⟨by have := HK1.out; have := HJ12.out; first | omega | exact Nat.le_refl _⟩, ⟨by (with_reducible repeat (first | apply Kd.R_alloc | apply Kd.R_drewN | apply Kd.R_drew)); exact HO156.out⟩, ⟨by (with_reducible repeat (first | apply Kd.R_alloc | apply Kd.R_drewN | apply Kd.R_drew)); exact HO_24.out⟩, ⟨by (with_reducible repeat (first | refine blk_drewN ?_ _ | refine blk_drew ?_ | refine blk_alloc ?_ _)); exact BK153.out⟩, ⟨by repeat (first | (with_reducible first | exact HB.out | apply below_alloc | apply pw_below_drewN | apply below_drew1 | refine below_set ?_ GE153.out) | exact HB.out)⟩⟩
            ·rw [if_neg c21] at H
             exact absurd H (by simp)
           ·replace c20 := Bool.eq_false_iff.mpr c20
            subst c20
            have H1 : (diff_Steps_string.j2 kj12 l0 x5_1 (wrap64 (((rd_T44 y149 x26_1).f0) - x6_1)) (wrap64 (((rd_T44 y149 x26_1).f1) - x7_1)) y149 (y149.length : Int) x26_1 ((rd_T44 y149 x26_1).f0) ((rd_T44 y149 x26_1).f1)) = some r := by rw [if_neg (show ¬ (false = true) by decide)] at H; exact H
            clear H
            have H := H1
            clear H1
            have H' := Aside0.mk H
            clear H
            go_wp2
            repeat (go_quiet (fail); try go_wp2)
            go_meet
            case rel => exact ⟨_, (x5_1), H', ⟨by have := HK1.out; have := HJ12.out; first | omega | exact Nat.le_refl _⟩, ⟨by (with_reducible repeat (first | apply Kd.R_alloc | apply Kd.R_drewN | apply Kd.R_drew)); exact HO_5.out⟩, ⟨by (with_reducible repeat (first | apply Kd.R_alloc | apply Kd.R_drewN | apply Kd.R_drew)); exact HO_24.out⟩, ⟨by (with_reducible repeat (first | refine blk_drewN ?_ _ | refine blk_drew ?_ | refine blk_alloc ?_ _)); exact BK153.out⟩, ⟨by repeat (first | (with_reducible first | exact HB.out | apply below_alloc | apply pw_below_drewN | apply below_drew1 | refine below_set ?_ GE153.out) | exact HB.out)⟩⟩
          case rest =>
           clear HC19
           try clear c1
           try clear p1
           try clear q1
           try clear hx1
           try clear c2
           try clear p2
           try clear c4
           try clear c6
           try clear p6
           try clear c10
           try clear c10b0
           try clear c11
           try clear c11b0
           try clear c12
           try clear c12b0
           try clear c14
           try clear p15
           try clear q15
           try clear hx15
           try clear c16
           try clear c16b0
           try clear c16b1
           try clear c16b2
           try clear c20
           try clear c21
           try clear hcz15_0
           try clear hcz15_1
           try clear hfz15_0
           try clear hfz15_1
           try clear hx152_0
           try clear hx152_1
           try clear p1
           try clear p15
           try clear p152
           try clear p2
           try clear p6
           try clear q1
           try clear q15
           try clear q152
           obtain ⟨kq, x5_18, HA, HJ18, HO_5, HO_24, BK153, HB⟩ := hcut
           cases kq with
           | zero => exact absurd HA.out (by simp [diff_Steps_string.j2])
           | succ kj18 =>
            have H := HA.out
            clear HA
            simp only [diff_Steps_string.j2] at H
            have HC23 := Aside0.mk H
            clear H
            go_upto_if 54 with (fail)
            repeat (go_quiet (fail); go_upto_if 54 with (fail))
            go_cut [] (fun wc => ∃ (kq : Nat) (x5_22 : List (S42)), Aside0 (diff_Steps_string.j3 kq l0 x5_22 (wrap64 (((rd_T44 y149 x26_1).f0) - x6_1)) (wrap64 (((rd_T44 y149 x26_1).f1) - x7_1)) y149 (y149.length : Int) x26_1 ((rd_T44 y149 x26_1).f0) ((rd_T44 y149 x26_1).f1) = some r) ∧ Aside0 (kq ≤ kj18) ∧ Aside0 (Kd.R k42 42 wc w.heap.size (fun _ => True) u5 x5_22) ∧ Aside0 (Kd.R k44 44 wc w.heap.size (fun k_ => k_ ≠ gb153) (.slice (some ad152) y149.length co9) y149) ∧ Aside0 (wc.heap[gb153]? = some (.cells #[.int .i64 ((rd_T44 y149 x26_1).f0), .int .i64 ((rd_T44 y149 x26_1).f1)] 44 (0, 0))) ∧ Aside0 (Below w.heap.size w wc))
            case first =>
             have H := HC23.out
             clear HC23
             by_cases c24 : (wrap64 ((wrap64 (((rd_T44 y149 x26_1).f0) - x6_1)) + (wrap64 (((rd_T44 y149 x26_1).f1) - x7_1)))) > 0
             ·rw [if_pos c24] at H
              have c24b0 : decide (0 < (wrap64 ((wrap64 (((rd_T44 y149 x26_1).f0) - x6_1)) + (wrap64 (((rd_T44 y149 x26_1).f1) - x7_1))))) = true := decide_eq_true c24
              clear c24
              (first | rw [c24b0] | (simp only [i64_w, i32_w]; rw [c24b0]) | skip)
              obtain ⟨ji25, hji25⟩ : ∃ j_ : Int, (wrap64 ((x5_18.length : Int) - 1)) = j_ := ⟨_, rfl⟩
              replace H : (if 0 ≤ (ji25) then (if (ji25) < (x5_18.length : Int) then ((some (x5_18.set ((ji25) : Int).toNat (⟨(rd_T42 x5_18 (ji25)).f0, (wrap64 (((rd_T44 y149 x26_1).f0) - x6_1)), (rd_T42 x5_18 (ji25)).f2⟩ : S42) : List (S42))).bind fun y157 => (diff_Steps_string.j3 kj18 l0 (y157.set ((ji25) : Int).toNat (⟨(rd_T42 y157 (ji25)).f0, (rd_T42 y157 (ji25)).f1, (wrap64 (((rd_T44 y149 x26_1).f1) - x7_1))⟩ : S42)) (wrap64 (((rd_T44 y149 x26_1).f0) - x6_1)) (wrap64 (((rd_T44 y149 x26_1).f1) - x7_1)) y149 (y149.length : Int) x26_1 ((rd_T44 y149 x26_1).f0) ((rd_T44 y149 x26_1).f1))) else (none)) else (none)) = some r := by first | (rw [hji25] at H; exact H) | (simp only [hji25] at H ⊢; exact H)
              have hji25w : (IntKind.i64.wrap ((x5_18.length : Int) - 1)) = ji25 := (i64_w _).trans hji25
              by_cases c26 : 0 ≤ (ji25)
              ·rw [if_pos c26] at H
               have c26b0 : decide (0 ≤ (ji25)) = true := decide_eq_true c26
               clear c26
               by_cases c27 : (ji25) < (x5_18.length : Int)
               ·rw [if_pos c27] at H
                have c27b0 : decide ((ji25) < (x5_18.length : Int)) = true := decide_eq_true c27
                clear c27
                obtain ⟨y157, hy157⟩ : ∃ y_ : List (S42), y_ = (x5_18.set ((ji25) : Int).toNat (⟨(rd_T42 x5_18 (ji25)).f0, (wrap64 (((rd_T44 y149 x26_1).f0) - x6_1)), (rd_T42 x5_18 (ji25)).f2⟩ : S42)) := ⟨_, rfl⟩
                replace H : (diff_Steps_string.j3 kj18 l0 (y157.set ((ji25) : Int).toNat (⟨(rd_T42 y157 (ji25)).f0, (rd_T42 y157 (ji25)).f1, (wrap64 (((rd_T44 y149 x26_1).f1) - x7_1))⟩ : S42)) (wrap64 (((rd_T44 y149 x26_1).f0) - x6_1)) (wrap64 (((rd_T44 y149 x26_1).f1) - x7_1)) y149 (y149.length : Int) x26_1 ((rd_T44 y149 x26_1).f0) ((rd_T44 y149 x26_1).f1)) = some r := by first | (rw [hy157]; with_reducible exact H) | (have H2_ := (Option.bind_some _ _).symm.trans H; rw [hy157]; with_reducible exact H2_) | (have H2_ := (Option.bind_some _ _).symm.trans H; with_reducible exact H2_) | with_reducible exact H | (rw [hy157]; exact H) | exact H
                have Ny157 := Aside0.mk hy157
                clear hy157
                obtain ⟨y158, hy158⟩ : ∃ y_ : List (S42), y_ = (y157.set ((ji25) : Int).toNat (⟨(rd_T42 y157 (ji25)).f0, (rd_T42 y157 (ji25)).f1, (wrap64 (((rd_T44 y149 x26_1).f1) - x7_1))⟩ : S42)) := ⟨_, rfl⟩
                replace H : (diff_Steps_string.j3 kj18 l0 y158 (wrap64 (((rd_T44 y149 x26_1).f0) - x6_1)) (wrap64 (((rd_T44 y149 x26_1).f1) - x7_1)) y149 (y149.length : Int) x26_1 ((rd_T44 y149 x26_1).f0) ((rd_T44 y149 x26_1).f1)) = some r := by first | (rw [hy158]; with_reducible exact H) | (have H2_ := (Option.bind_some _ _).symm.trans H; rw [hy158]; with_reducible exact H2_) | (have H2_ := (Option.bind_some _ _).symm.trans H; with_reducible exact H2_) | with_reducible exact H | (rw [hy158]; exact H) | exact H
                have Ny158 := Aside0.mk hy158
                clear hy158
                have H' := Aside0.mk H
                clear H
                obtain ⟨Ao30, co30, eo30⟩ := Kd.R_slice HO_5.out
                subst eo30
                have p28 : 0 ≤ ((ji25) : Int) := of_decide_eq_true (by assumption)
                have q28 : ((ji25) : Int) < ((x5_18.length : Int) : Int) := of_decide_eq_true (by assumption)
                obtain ⟨go28, co28, eo28, gb28, gl28, cl28, HG28⟩ := Kd.R_form HO_5.out (by omega)
                (first | cases eo28 | (injection eo28 with ea_ en_ ec_; (first | subst ea_ | (injection ea_ with ea_; subst ea_)); subst ec_; clear en_))
                have GB28 := Aside0.mk gb28
                have GG28 := Aside0.mk HG28
                clear gb28 gl28 HG28
                obtain ⟨ce28, hcl28, hM28, hcc28, hfr28⟩ := Kd.R_elem HO_5.out z42 ((ji25) : Int) p28 q28
                obtain rfl := k42_openM hM28
                have hx28_0 : wc.cell? ⟨go28, ((ji25) : Int).toNat * 3, none⟩ = some (.int .i64 ((rd_T42 x5_18 (ji25)).f0)) := hcc28 0 _ rfl
                have hx28_1 : wc.cell? ⟨go28, ((ji25) : Int).toNat * 3 + 1, none⟩ = some (.int .i64 ((rd_T42 x5_18 (ji25)).f1)) := hcc28 1 _ rfl
                have hx28_2 : wc.cell? ⟨go28, ((ji25) : Int).toNat * 3 + 2, none⟩ = some (.int .i64 ((rd_T42 x5_18 (ji25)).f2)) := hcc28 2 _ rfl
                have hf28_0 : wc.frozen? ⟨go28, ((ji25) : Int).toNat * 3, none⟩ = false := hfr28 0
                have hf28_1 : wc.frozen? ⟨go28, ((ji25) : Int).toNat * 3 + 1, none⟩ = false := hfr28 1
                have hf28_2 : wc.frozen? ⟨go28, ((ji25) : Int).toNat * 3 + 2, none⟩ = false := hfr28 2
                (try clear hcl28); (try clear hcc28); (try clear hfr28); (try clear hM28)
                replace p28 := eq_true p28
                replace q28 := eq_true q28
                have HX31 := Aside0.mk (show Kd.R k42 42 wc w.heap.size (fun _ => True) (.slice (some ⟨go28, 0, none⟩) x5_18.length co30) x5_18 from (by (with_reducible repeat (first | apply Kd.R_alloc | apply Kd.R_drewN | apply Kd.R_drew)); exact HO_5.out))
                obtain ⟨ce31, hcl31, hM31, hcc31, hfr31⟩ := Kd.R_elem HX31.out z42 ((ji25) : Int) (of_decide_eq_true (by assumption)) (by have h_ : ((ji25) : Int) < ((x5_18.length : Int) : Int) := of_decide_eq_true (by assumption); first | exact h_ | (have e_ := (Kd.R_reads' HO_5.out).1; omega) | simpa using h_)
                obtain rfl := k42_openM hM31
                have HP31 := Kd.R_seg HX31.out ((ji25) : Int) (of_decide_eq_true (by assumption)) (by have h_ : ((ji25) : Int) < ((x5_18.length : Int) : Int) := of_decide_eq_true (by assumption); first | exact h_ | (have e_ := (Kd.R_reads' HO_5.out).1; omega) | simpa using h_) (seg := [.int .i64 (wrap64 (((rd_T44 y149 x26_1).f0) - x6_1))]) (j := 1) hcl31 hcc31 (show 2 ≤ 3 from by decide) (x' := (⟨(rd_T42 x5_18 (ji25)).f0, (wrap64 (((rd_T44 y149 x26_1).f0) - x6_1)), (rd_T42 x5_18 (ji25)).f2⟩ : S42)) (k42_mkM _ _ _ (⟨(rd_T42 x5_18 (ji25)).f0, (wrap64 (((rd_T44 y149 x26_1).f0) - x6_1)), (rd_T42 x5_18 (ji25)).f2⟩ : S42) ) (fun _ hk => hk)
                have hx31_1 := hcc31 1 _ rfl
                (try simp only [show (k42).sz = 3 from rfl, Nat.mul_one, Nat.add_zero] at hx31_1)
                have hf31_1 := hfr31 1
                (try simp only [show (k42).sz = 3 from rfl, Nat.mul_one, Nat.add_zero] at hf31_1)
                (try clear hcl31); (try clear hcc31); (try clear hfr31); (try clear hM31)
                go_wp2_with (first | ((with_reducible refine gate_store (t := 3) (p := 66) rfl ?_); (try (rw [drewN_self wc]; generalize hq_ : World.drewN wc _ = wc; have n0_ := Aside0.mk (Kd.R_at hq_ HO_5.out); have n1_ := Aside0.mk (Kd.R_at hq_ HO_24.out); have n2_ := Aside0.mk (blk_at hq_ BK153.out); have n3_ := Aside0.mk (below_at hq_ HB.out); clear hq_ HO_5 HO_24 BK153 HB; have HO_5 := n0_; have HO_24 := n1_; have BK153 := n2_; have HB := n3_; clear n0_ n1_ n2_ n3_; (try (have HX31 := Aside0.mk (show Kd.R k42 42 wc w.heap.size (fun _ => True) (.slice (some ⟨go28, 0, none⟩) x5_18.length co30) x5_18 from (by (with_reducible repeat (first | apply Kd.R_alloc | apply Kd.R_drewN | apply Kd.R_drew)); exact HO_5.out)))); (try (obtain ⟨ce31, hcl31, hM31, hcc31, hfr31⟩ := Kd.R_elem HX31.out z42 ((ji25) : Int) (of_decide_eq_true (by assumption)) (by have h_ : ((ji25) : Int) < ((x5_18.length : Int) : Int) := of_decide_eq_true (by assumption); first | exact h_ | (have e_ := (Kd.R_reads' HO_5.out).1; omega) | simpa using h_))); (try (obtain rfl := k42_openM hM31)); (try (have HP31 := Kd.R_seg HX31.out ((ji25) : Int) (of_decide_eq_true (by assumption)) (by have h_ : ((ji25) : Int) < ((x5_18.length : Int) : Int) := of_decide_eq_true (by assumption); first | exact h_ | (have e_ := (Kd.R_reads' HO_5.out).1; omega) | simpa using h_) (seg := [.int .i64 (wrap64 (((rd_T44 y149 x26_1).f0) - x6_1))]) (j := 1) hcl31 hcc31 (show 2 ≤ 3 from by decide) (x' := (⟨(rd_T42 x5_18 (ji25)).f0, (wrap64 (((rd_T44 y149 x26_1).f0) - x6_1)), (rd_T42 x5_18 (ji25)).f2⟩ : S42)) (k42_mkM _ _ _ (⟨(rd_T42 x5_18 (ji25)).f0, (wrap64 (((rd_T44 y149 x26_1).f0) - x6_1)), (rd_T42 x5_18 (ji25)).f2⟩ : S42) ) (fun _ hk => hk))); (try (have hx31_1 := hcc31 1 _ rfl)); (try (try simp only [show (k42).sz = 3 from rfl, Nat.mul_one, Nat.add_zero] at hx31_1)); (try (have hf31_1 := hfr31 1)); (try (try simp only [show (k42).sz = 3 from rfl, Nat.mul_one, Nat.add_zero] at hf31_1)); (try ((try clear hcl31); (try clear hcc31); (try clear hfr31); (try clear hM31))))); refine store_event (t := 3) (p := 66) (v := ?vo_w32) (w1 := (wc.setCell ⟨go28, ((ji25) : Int).toNat * 3 + 1, none⟩ (.int .i64 (wrap64 (((rd_T44 y149 x26_1).f0) - x6_1))))) ?hg ?ho ?hn ?hr ?_; (case ho => rfl); (case hg => rfl); (case hn => rfl); (case hr => first | (go_simp; done) | (go_simp; rfl)); intro w32 hw; have hg : wc.grownBy w32 (some go28) := (by rw [hw]; exact HP31.2); have hp_ : Kd.R k42 42 w32 w.heap.size (fun _ => True) (.slice (some ⟨go28, 0, none⟩) x5_18.length co30) y157 := (by rw [hw, Ny157.out]; exact HP31.1); clear HP31; have n0_ := Aside0.mk (hp_); have n1_ := Aside0.mk (Kd.R_over' (v := (.slice (some ⟨go28, 0, none⟩) x5_18.length co30)) (by (with_reducible repeat (first | apply Kd.R_alloc | apply Kd.R_drewN | apply Kd.R_drew)); exact HO_24.out) (Kd.R_typed HO_5.out) (by decide) hg); have n2_ := Aside0.mk (blk_grown (g := gb153) (o := .cells #[.int .i64 ((rd_T44 y149 x26_1).f0), .int .i64 ((rd_T44 y149 x26_1).f1)] 44 (0, 0)) (by (with_reducible repeat (first | refine blk_drewN ?_ _ | refine blk_drew ?_ | refine blk_alloc ?_ _)); exact BK153.out) hg (Kd.R_ne HO_5.out BK153.out (by decide))); have n3_ := Aside0.mk ((by rw [hw]; exact below_set (HB.out) GB28.out : Below w.heap.size w w32)); clear HO_5; clear HO_24; clear BK153; clear HB; have HO_5 := n0_; have HO_24 := n1_; have BK153 := n2_; have HB := n3_; clear n0_ n1_ n2_ n3_; clear hg hw hp_; have p29 : 0 ≤ ((ji25) : Int) := of_decide_eq_true (by assumption); have q29 : ((ji25) : Int) < ((x5_18.length : Int) : Int) := of_decide_eq_true (by assumption); obtain ⟨ce29, hcl29, hM29, hcc29, hfr29⟩ := Kd.R_elem HO_5.out z42 ((ji25) : Int) p29 q29; obtain rfl := k42_openM hM29; have hx29_0 : w32.cell? ⟨go28, ((ji25) : Int).toNat * 3, none⟩ = some (.int .i64 ((rd_T42 y157 (ji25)).f0)) := hcc29 0 _ rfl; have hx29_1 : w32.cell? ⟨go28, ((ji25) : Int).toNat * 3 + 1, none⟩ = some (.int .i64 ((rd_T42 y157 (ji25)).f1)) := hcc29 1 _ rfl; have hx29_2 : w32.cell? ⟨go28, ((ji25) : Int).toNat * 3 + 2, none⟩ = some (.int .i64 ((rd_T42 y157 (ji25)).f2)) := hcc29 2 _ rfl; have hf29_0 : w32.frozen? ⟨go28, ((ji25) : Int).toNat * 3, none⟩ = false := hfr29 0; have hf29_1 : w32.frozen? ⟨go28, ((ji25) : Int).toNat * 3 + 1, none⟩ = false := hfr29 1; have hf29_2 : w32.frozen? ⟨go28, ((ji25) : Int).toNat * 3 + 2, none⟩ = false := hfr29 2; (try clear hcl29); (try clear hcc29); (try clear hfr29); (try clear hM29); replace p29 := eq_true p29; replace q29 := eq_true q29; have HX33 := Aside0.mk (show Kd.R k42 42 w32 w.heap.size (fun _ => True) (.slice (some ⟨go28, 0, none⟩) x5_18.length co30) y157 from (by (with_reducible repeat (first | apply Kd.R_alloc | apply Kd.R_drewN | apply Kd.R_drew)); exact HO_5.out)); obtain ⟨ce33, hcl33, hM33, hcc33, hfr33⟩ := Kd.R_elem HX33.out z42 ((ji25) : Int) (of_decide_eq_true (by assumption)) (by have h_ : ((ji25) : Int) < ((x5_18.length : Int) : Int) := of_decide_eq_true (by assumption); first | exact h_ | (have e_ := (Kd.R_reads' HO_5.out).1; omega) | simpa using h_); obtain rfl := k42_openM hM33; have HP33 := Kd.R_seg HX33.out ((ji25) : Int) (of_decide_eq_true (by assumption)) (by have h_ : ((ji25) : Int) < ((x5_18.length : Int) : Int) := of_decide_eq_true (by assumption); first | exact h_ | (have e_ := (Kd.R_reads' HO_5.out).1; omega) | simpa using h_) (seg := [.int .i64 (wrap64 (((rd_T44 y149 x26_1).f1) - x7_1))]) (j := 2) hcl33 hcc33 (show 3 ≤ 3 from by decide) (x' := (⟨(rd_T42 y157 (ji25)).f0, (rd_T42 y157 (ji25)).f1, (wrap64 (((rd_T44 y149 x26_1).f1) - x7_1))⟩ : S42)) (k42_mkM _ _ _ (⟨(rd_T42 y157 (ji25)).f0, (rd_T42 y157 (ji25)).f1, (wrap64 (((rd_T44 y149 x26_1).f1) - x7_1))⟩ : S42) ) (fun _ hk => hk); have hx33_2 := hcc33 2 _ rfl; (try simp only [show (k42).sz = 3 from rfl, Nat.mul_one, Nat.add_zero] at hx33_2); have hf33_2 := hfr33 2; (try simp only [show (k42).sz = 3 from rfl, Nat.mul_one, Nat.add_zero] at hf33_2); (try clear hcl33); (try clear hcc33); (try clear hfr33); (try clear hM33)) | ((with_reducible refine gate_store (t := 3) (p := 68) rfl ?_); (try (rw [drewN_self w32]; generalize hq_ : World.drewN w32 _ = w32; have n0_ := Aside0.mk (Kd.R_at hq_ HO_5.out); have n1_ := Aside0.mk (Kd.R_at hq_ HO_24.out); have n2_ := Aside0.mk (blk_at hq_ BK153.out); have n3_ := Aside0.mk (below_at hq_ HB.out); clear hq_ HO_5 HO_24 BK153 HB; have HO_5 := n0_; have HO_24 := n1_; have BK153 := n2_; have HB := n3_; clear n0_ n1_ n2_ n3_; (try (have HX33 := Aside0.mk (show Kd.R k42 42 w32 w.heap.size (fun _ => True) (.slice (some ⟨go28, 0, none⟩) x5_18.length co30) y157 from (by (with_reducible repeat (first | apply Kd.R_alloc | apply Kd.R_drewN | apply Kd.R_drew)); exact HO_5.out)))); (try (obtain ⟨ce33, hcl33, hM33, hcc33, hfr33⟩ := Kd.R_elem HX33.out z42 ((ji25) : Int) (of_decide_eq_true (by assumption)) (by have h_ : ((ji25) : Int) < ((x5_18.length : Int) : Int) := of_decide_eq_true (by assumption); first | exact h_ | (have e_ := (Kd.R_reads' HO_5.out).1; omega) | simpa using h_))); (try (obtain rfl := k42_openM hM33)); (try (have HP33 := Kd.R_seg HX33.out ((ji25) : Int) (of_decide_eq_true (by assumption)) (by have h_ : ((ji25) : Int) < ((x5_18.length : Int) : Int) := of_decide_eq_true (by assumption); first | exact h_ | (have e_ := (Kd.R_reads' HO_5.out).1; omega) | simpa using h_) (seg := [.int .i64 (wrap64 (((rd_T44 y149 x26_1).f1) - x7_1))]) (j := 2) hcl33 hcc33 (show 3 ≤ 3 from by decide) (x' := (⟨(rd_T42 y157 (ji25)).f0, (rd_T42 y157 (ji25)).f1, (wrap64 (((rd_T44 y149 x26_1).f1) - x7_1))⟩ : S42)) (k42_mkM _ _ _ (⟨(rd_T42 y157 (ji25)).f0, (rd_T42 y157 (ji25)).f1, (wrap64 (((rd_T44 y149 x26_1).f1) - x7_1))⟩ : S42) ) (fun _ hk => hk))); (try (have hx33_2 := hcc33 2 _ rfl)); (try (try simp only [show (k42).sz = 3 from rfl, Nat.mul_one, Nat.add_zero] at hx33_2)); (try (have hf33_2 := hfr33 2)); (try (try simp only [show (k42).sz = 3 from rfl, Nat.mul_one, Nat.add_zero] at hf33_2)); (try ((try clear hcl33); (try clear hcc33); (try clear hfr33); (try clear hM33))))); refine store_event (t := 3) (p := 68) (v := ?vo_w34) (w1 := (w32.setCell ⟨go28, ((ji25) : Int).toNat * 3 + 2, none⟩ (.int .i64 (wrap64 (((rd_T44 y149 x26_1).f1) - x7_1))))) ?hg ?ho ?hn ?hr ?_; (case ho => rfl); (case hg => rfl); (case hn => rfl); (case hr => first | (go_simp; done) | (go_simp; rfl)); intro w34 hw; have hg : w32.grownBy w34 (some go28) := (by rw [hw]; exact HP33.2); have hp_ : Kd.R k42 42 w34 w.heap.size (fun _ => True) (.slice (some ⟨go28, 0, none⟩) x5_18.length co30) y158 := (by rw [hw, Ny158.out]; exact HP33.1); clear HP33; have n0_ := Aside0.mk (hp_); have n1_ := Aside0.mk (Kd.R_over' (v := (.slice (some ⟨go28, 0, none⟩) x5_18.length co30)) (by (with_reducible repeat (first | apply Kd.R_alloc | apply Kd.R_drewN | apply Kd.R_drew)); exact HO_24.out) (Kd.R_typed HO_5.out) (by decide) hg); have n2_ := Aside0.mk (blk_grown (g := gb153) (o := .cells #[.int .i64 ((rd_T44 y149 x26_1).f0), .int .i64 ((rd_T44 y149 x26_1).f1)] 44 (0, 0)) (by (with_reducible repeat (first | refine blk_drewN ?_ _ | refine blk_drew ?_ | refine blk_alloc ?_ _)); exact BK153.out) hg (Kd.R_ne HO_5.out BK153.out (by decide))); have n3_ := Aside0.mk ((by rw [hw]; exact below_set (HB.out) GB28.out : Below w.heap.size w w34)); clear HO_5; clear HO_24; clear BK153; clear HB; have HO_5 := n0_; have HO_24 := n1_; have BK153 := n2_; have HB := n3_; clear n0_ n1_ n2_ n3_; clear hg hw hp_))
                go_meet
                case rel => exact ⟨_, (y158), H', ⟨by have := HK1.out; have := HJ12.out; have := HJ18.out; first | omega | exact Nat.le_refl _⟩, ⟨by (with_reducible repeat (first | apply Kd.R_alloc | apply Kd.R_drewN | apply Kd.R_drew)); exact HO_5.out⟩, ⟨by (with_reducible repeat (first | apply Kd.R_alloc | apply Kd.R_drewN | apply Kd.R_drew)); exact HO_24.out⟩, ⟨by (with_reducible repeat (first | refine blk_drewN ?_ _ | refine blk_drew ?_ | refine blk_alloc ?_ _)); exact BK153.out⟩, ⟨by repeat (first | (with_reducible first | exact HB.out | apply below_alloc | apply pw_below_drewN | apply below_drew1 | refine below_set ?_ GE153.out) | exact HB.out)⟩⟩
               ·rw [if_neg c27] at H
                exact absurd H (by simp)
              ·rw [if_neg c26] at H
               exact absurd H (by simp)
             ·rw [if_neg c24] at H
              have c24b0 : decide (0 < (wrap64 ((wrap64 (((rd_T44 y149 x26_1).f0) - x6_1)) + (wrap64 (((rd_T44 y149 x26_1).f1) - x7_1))))) = false := decide_eq_false c24
              clear c24
              (first | rw [c24b0] | (simp only [i64_w, i32_w]; rw [c24b0]) | skip)
              have H' := Aside0.mk H
              clear H
              go_wp2
              repeat (go_quiet (fail); try go_wp2)
              go_meet
              case rel => exact ⟨_, (x5_18), H', ⟨by have := HK1.out; have := HJ12.out; have := HJ18.out; first | omega | exact Nat.le_refl _⟩, ⟨by (with_reducible repeat (first | apply Kd.R_alloc | apply Kd.R_drewN | apply Kd.R_drew)); exact HO_5.out⟩, ⟨by (with_reducible repeat (first | apply Kd.R_alloc | apply Kd.R_drewN | apply Kd.R_drew)); exact HO_24.out⟩, ⟨by (with_reducible repeat (first | refine blk_drewN ?_ _ | refine blk_drew ?_ | refine blk_alloc ?_ _)); exact BK153.out⟩, ⟨by repeat (first | (with_reducible first | exact HB.out | apply below_alloc | apply pw_below_drewN | apply below_drew1 | refine below_set ?_ GE153.out) | exact HB.out)⟩⟩
            case rest =>
             clear HC23
             try clear c1
             try clear p1
             try clear q1
             try clear hx1
             try clear c2
             try clear p2
             try clear q2
             try clear hx2
             try clear hf2
             try clear c3
             try clear hx3
             try clear hf3
             try clear c4
             try clear c6
             try clear p6
             try clear c10
             try clear c10b0
             try clear c11
             try clear c11b0
             try clear c12
             try clear c12b0
             try clear c14
             try clear p15
             try clear q15
             try clear hx15
             try clear c16
             try clear c16b0
             try clear c16b1
             try clear c16b2
             try clear c20
             try clear c21
             try clear c24
             try clear c24b0
             try clear c26
             try clear c26b0
             try clear c27
             try clear c27b0
             try clear c28
             try clear p28
             try clear q28
             try clear hx28
             try clear hf28
             try clear c29
             try clear p29
             try clear q29
             try clear hx29
             try clear hf29
             try clear c31
             try clear hx31
             try clear hf31
             try clear c33
             try clear hx33
             try clear hf33
             try clear hcz15_0
             try clear hcz15_1
             try clear hfz15_0
             try clear hfz15_1
             try clear hx152_0
             try clear hx152_1
             try clear hx28_0
             try clear hx28_1
             try clear hx28_2
             try clear hx29_0
             try clear hx29_1
             try clear hx29_2
             try clear hx31_1
             try clear hx33_2
             try clear p1
             try clear p15
             try clear p152
             try clear p2
             try clear p28
             try clear p29
             try clear p6
             try clear q1
             try clear q15
             try clear q152
             try clear q28
             try clear q29
             obtain ⟨kq, x5_22, HA, HJ22, HO_5, HO_24, BK153, HB⟩ := hcut
             cases kq with
             | zero => exact absurd HA.out (by simp [diff_Steps_string.j3])
             | succ kj22 =>
              have H := HA.out
              clear HA
              simp only [diff_Steps_string.j3] at H
              by_cases c35 : ((rd_T44 y149 x26_1).f0) = (l0.length : Int)
              ·rw [if_pos c35] at H
               have c35b0 : (((rd_T44 y149 x26_1).f0) == (l0.length : Int)) = true := beq_iff_eq.mpr c35
               have c35b1 : (((rd_T44 y149 x26_1).f0) != (l0.length : Int)) = false := bne_eq_false_iff_eq.mpr c35
               clear c35
               obtain rfl := Option.some.inj H
               have hcz36_0 : wc.cell? ⟨gb153, 0, none⟩ = some (.int .i64 ((rd_T44 y149 x26_1).f0)) := (blk_cell BK153.out 0).trans rfl
               have hcz36_1 : wc.cell? ⟨gb153, 1, none⟩ = some (.int .i64 ((rd_T44 y149 x26_1).f1)) := (blk_cell BK153.out 1).trans rfl
               have hfz36_0 := blk_frozen BK153.out 0
               have hfz36_1 := blk_frozen BK153.out 1
               go_wp2
               repeat (go_quiet (fail); try go_wp2)
               go_ret
               exact ⟨_, by first | rfl | (simp [errW_none, errW_some] <;> rfl) | (simp [*, errW_none, errW_some] <;> rfl), by (with_reducible repeat (first | apply Kd.R_alloc | apply Kd.R_drewN | apply Kd.R_drew)); exact HO_5.out, by repeat (first | (with_reducible first | exact HB.out | apply below_alloc | apply pw_below_drewN | apply below_drew1 | refine below_set ?_ GE153.out) | exact HB.out)⟩
              ·rw [if_neg c35] at H
               have c35b0 : (((rd_T44 y149 x26_1).f0) == (l0.length : Int)) = false := beq_eq_false_iff_ne.mpr c35
               have c35b1 : (((rd_T44 y149 x26_1).f0) != (l0.length : Int)) = true := bne_iff_ne.mpr c35
               by_cases c37 : (x5_22.length : Int) = 0
               ·rw [if_pos c37] at H
                have c37b0 : ((x5_22.length : Int) == 0) = true := beq_iff_eq.mpr c37
                have c37b1 : ((x5_22.length : Int) != 0) = false := bne_eq_false_iff_eq.mpr c37
                clear c37
                by_cases c38 : x5_22.length < 5864062014805
                ·rw [if_pos c38] at H
                 have LMc38 := Aside0.mk c38
                 clear c38
                 obtain ⟨y159, hy159⟩ : ∃ y_ : List (S42), y_ = (x5_22 ++ [(⟨0, 0, 0⟩ : S42)]) := ⟨_, rfl⟩
                 replace H : (if 0 ≤ (wrap64 ((y159.length : Int) - 1)) then (if (wrap64 ((y159.length : Int) - 1)) < (y159.length : Int) then (diff_Steps_string.l0 kj22 l0 (y159.set ((wrap64 ((y159.length : Int) - 1)) : Int).toNat (⟨wrap64 (((rd_T42 y159 (wrap64 ((y159.length : Int) - 1))).f0) + 1), (rd_T42 y159 (wrap64 ((y159.length : Int) - 1))).f1, (rd_T42 y159 (wrap64 ((y159.length : Int) - 1))).f2⟩ : S42)) (wrap64 (((rd_T44 y149 x26_1).f0) + 1)) (wrap64 (((rd_T44 y149 x26_1).f1) + 1)) y149 (y149.length : Int) (wrap64 (x26_1 + 1))) else (none)) else (none)) = some r := by first | (rw [hy159]; with_reducible exact H) | (have H2_ := (Option.bind_some _ _).symm.trans H; rw [hy159]; with_reducible exact H2_) | (have H2_ := (Option.bind_some _ _).symm.trans H; with_reducible exact H2_) | with_reducible exact H | (rw [hy159]; exact H) | exact H
                 have Ny159 := Aside0.mk hy159
                 clear hy159
                 obtain ⟨ji39, hji39⟩ : ∃ j_ : Int, (wrap64 ((y159.length : Int) - 1)) = j_ := ⟨_, rfl⟩
                 replace H : (if 0 ≤ (ji39) then (if (ji39) < (y159.length : Int) then (diff_Steps_string.l0 kj22 l0 (y159.set ((ji39) : Int).toNat (⟨wrap64 (((rd_T42 y159 (ji39)).f0) + 1), (rd_T42 y159 (ji39)).f1, (rd_T42 y159 (ji39)).f2⟩ : S42)) (wrap64 (((rd_T44 y149 x26_1).f0) + 1)) (wrap64 (((rd_T44 y149 x26_1).f1) + 1)) y149 (y149.length : Int) (wrap64 (x26_1 + 1))) else (none)) else (none)) = some r := by first | (rw [hji39] at H; exact H) | (simp only [hji39] at H ⊢; exact H)
                 have hji39w : (IntKind.i64.wrap ((y159.length : Int) - 1)) = ji39 := (i64_w _).trans hji39
                 by_cases c40 : 0 ≤ (ji39)
                 ·rw [if_pos c40] at H
                  have c40b0 : decide (0 ≤ (ji39)) = true := decide_eq_true c40
                  clear c40
                  by_cases c41 : (ji39) < (y159.length : Int)
                  ·rw [if_pos c41] at H
                   have c41b0 : decide ((ji39) < (y159.length : Int)) = true := decide_eq_true c41
                   clear c41
                   obtain ⟨y163, hy163⟩ : ∃ y_ : List (S42), y_ = (y159.set ((ji39) : Int).toNat (⟨wrap64 (((rd_T42 y159 (ji39)).f0) + 1), (rd_T42 y159 (ji39)).f1, (rd_T42 y159 (ji39)).f2⟩ : S42)) := ⟨_, rfl⟩
                   replace H : (diff_Steps_string.l0 kj22 l0 y163 (wrap64 (((rd_T44 y149 x26_1).f0) + 1)) (wrap64 (((rd_T44 y149 x26_1).f1) + 1)) y149 (y149.length : Int) (wrap64 (x26_1 + 1))) = some r := by first | (rw [hy163]; with_reducible exact H) | (have H2_ := (Option.bind_some _ _).symm.trans H; rw [hy163]; with_reducible exact H2_) | (have H2_ := (Option.bind_some _ _).symm.trans H; with_reducible exact H2_) | with_reducible exact H | (rw [hy163]; exact H) | exact H
                   have Ny163 := Aside0.mk hy163
                   clear hy163
                   have H' := Aside0.mk H
                   clear H
                   have hcz43_0 : wc.cell? ⟨gb153, 0, none⟩ = some (.int .i64 ((rd_T44 y149 x26_1).f0)) := (blk_cell BK153.out 0).trans rfl
                   have hcz43_1 : wc.cell? ⟨gb153, 1, none⟩ = some (.int .i64 ((rd_T44 y149 x26_1).f1)) := (blk_cell BK153.out 1).trans rfl
                   have hfz43_0 := blk_frozen BK153.out 0
                   have hfz43_1 := blk_frozen BK153.out 1
                   obtain ⟨Ao44, co44, eo44⟩ := Kd.R_slice HO_5.out
                   subst eo44
                   go_wp2_with (first | ((with_reducible refine gate_builtin (b := .append) (xs := #[.tmp 83, .tmp 85]) rfl ?_); at_builtin; refine Kd.R_append k42 (w0 := w) w.heap.size rfl (.tmp 83) (.tmp 85) 26 42 (.agg #[(.int .i64 0), (.int .i64 0), (.int .i64 0)]) 24 rfl Tryd.underlying26 info42 rfl (by decide) (by omega) (.slice Ao44 x5_22.length co44) x5_22 (⟨0, 0, 0⟩ : S42) [.int .i64 0, .int .i64 0, .int .i64 0] (fun _ => True) (fun _ => False) rfl rfl ?aP (fun _ hk => hk.elim) ?aF ?aO ?aB ?aS ?aL ?_; (case aP => exact k42_mkM _ _ _ (⟨0, 0, 0⟩ : S42)); (case aB => exact (by repeat (first | (with_reducible first | exact HB.out | apply below_alloc | apply pw_below_drewN | apply below_drew1 | refine below_set ?_ GE153.out) | exact HB.out))); (case aF => exact (fun _ _ => trivial)); (case aO => exact (by (with_reducible repeat (first | apply Kd.R_alloc | apply Kd.R_drewN | apply Kd.R_drew)); exact HO_5.out)); (case aS => exact (below_size (by repeat (first | (with_reducible first | exact HB.out | apply below_alloc | apply pw_below_drewN | apply below_drew1 | refine below_set ?_ GE153.out) | exact HB.out)))); (case aL => have := LMc38.out; omega); intro v160 w45 ho hb hg hat; rw [← Ny159.out] at ho; have n0_ := Aside0.mk (Kd.R_over' (by (with_reducible repeat (first | apply Kd.R_alloc | apply Kd.R_drewN | apply Kd.R_drew)); exact HO_24.out) (Kd.R_typed (by (with_reducible repeat (first | apply Kd.R_alloc | apply Kd.R_drewN | apply Kd.R_drew)); exact HO_5.out)) (by decide) hg); have n1_ := Aside0.mk (blk_grown (g := gb153) (o := .cells #[.int .i64 ((rd_T44 y149 x26_1).f0), .int .i64 ((rd_T44 y149 x26_1).f1)] 44 (0, 0)) (by (with_reducible repeat (first | refine blk_drewN ?_ _ | refine blk_drew ?_ | refine blk_alloc ?_ _)); exact BK153.out) hg (Kd.R_ne HO_5.out BK153.out (by decide))); have n2_ := Aside0.mk (hb); have n3_ := Aside0.mk (ho); clear HO_24; clear BK153; clear HB; clear HO_5; have HO_24 := n0_; have BK153 := n1_; have HB := n2_; have HO161 := n3_; clear n0_ n1_ n2_ n3_; clear ho hb hg hat; obtain ⟨Ao46, co46, eo46⟩ := Kd.R_slice HO161.out; subst eo46; have p162 : 0 ≤ ((ji39) : Int) := of_decide_eq_true (by assumption); have q162 : (ji39) < (y159.length : Int) := of_decide_eq_true (by assumption); obtain ⟨ad162, e162, hx162_0, hx162_1, hx162_2⟩ := at_T42 (Kd.R_reads' HO161.out).2.2 (ji39) p162 q162; cases e162; replace p162 := eq_true p162; replace q162 := eq_true q162; have p42 : 0 ≤ ((ji39) : Int) := of_decide_eq_true (by assumption); have q42 : ((ji39) : Int) < ((y159.length : Int) : Int) := of_decide_eq_true (by assumption); obtain ⟨go42, co42, eo42, gb42, gl42, cl42, HG42⟩ := Kd.R_form HO161.out (by omega); (first | cases eo42 | (injection eo42 with ea_ en_ ec_; (first | subst ea_ | (injection ea_ with ea_; subst ea_)); subst ec_; clear en_)); have GB42 := Aside0.mk gb42; have GG42 := Aside0.mk HG42; clear gb42 gl42 HG42; (first | simp only [add_plain] at hx162_0 | skip); (first | simp only [add_plain] at hx162_1 | skip); (first | simp only [add_plain] at hx162_2 | skip); obtain ⟨ce42, hcl42, hM42, hcc42, hfr42⟩ := Kd.R_elem HO161.out z42 ((ji39) : Int) p42 q42; obtain rfl := k42_openM hM42; have hx42_0 : w45.cell? ⟨go42, ((ji39) : Int).toNat * 3, none⟩ = some (.int .i64 ((rd_T42 y159 (ji39)).f0)) := hcc42 0 _ rfl; have hx42_1 : w45.cell? ⟨go42, ((ji39) : Int).toNat * 3 + 1, none⟩ = some (.int .i64 ((rd_T42 y159 (ji39)).f1)) := hcc42 1 _ rfl; have hx42_2 : w45.cell? ⟨go42, ((ji39) : Int).toNat * 3 + 2, none⟩ = some (.int .i64 ((rd_T42 y159 (ji39)).f2)) := hcc42 2 _ rfl; have hf42_0 : w45.frozen? ⟨go42, ((ji39) : Int).toNat * 3, none⟩ = false := hfr42 0; have hf42_1 : w45.frozen? ⟨go42, ((ji39) : Int).toNat * 3 + 1, none⟩ = false := hfr42 1; have hf42_2 : w45.frozen? ⟨go42, ((ji39) : Int).toNat * 3 + 2, none⟩ = false := hfr42 2; (try clear hcl42); (try clear hcc42); (try clear hfr42); (try clear hM42); replace p42 := eq_true p42; replace q42 := eq_true q42; have HX47 := Aside0.mk (show Kd.R k42 42 w45 w.heap.size (fun _ => True) (.slice (some ⟨go42, 0, none⟩) y159.length co46) y159 from (by (with_reducible repeat (first | apply Kd.R_alloc | apply Kd.R_drewN | apply Kd.R_drew)); exact HO161.out)); obtain ⟨ce47, hcl47, hM47, hcc47, hfr47⟩ := Kd.R_elem HX47.out z42 ((ji39) : Int) (of_decide_eq_true (by assumption)) (by have h_ : ((ji39) : Int) < ((y159.length : Int) : Int) := of_decide_eq_true (by assumption); first | exact h_ | (have e_ := (Kd.R_reads' HO161.out).1; omega) | simpa using h_); obtain rfl := k42_openM hM47; have HP47 := Kd.R_seg HX47.out ((ji39) : Int) (of_decide_eq_true (by assumption)) (by have h_ : ((ji39) : Int) < ((y159.length : Int) : Int) := of_decide_eq_true (by assumption); first | exact h_ | (have e_ := (Kd.R_reads' HO161.out).1; omega) | simpa using h_) (seg := [.int .i64 (wrap64 (((rd_T42 y159 (ji39)).f0) + 1))]) (j := 0) hcl47 hcc47 (show 1 ≤ 3 from by decide) (x' := (⟨wrap64 (((rd_T42 y159 (ji39)).f0) + 1), (rd_T42 y159 (ji39)).f1, (rd_T42 y159 (ji39)).f2⟩ : S42)) (k42_mkM _ _ _ (⟨wrap64 (((rd_T42 y159 (ji39)).f0) + 1), (rd_T42 y159 (ji39)).f1, (rd_T42 y159 (ji39)).f2⟩ : S42) ) (fun _ hk => hk); have hx47_0 := hcc47 0 _ rfl; (try simp only [show (k42).sz = 3 from rfl, Nat.mul_one, Nat.add_zero] at hx47_0); have hf47_0 := hfr47 0; (try simp only [show (k42).sz = 3 from rfl, Nat.mul_one, Nat.add_zero] at hf47_0); (try clear hcl47); (try clear hcc47); (try clear hfr47); (try clear hM47)) | ((with_reducible refine gate_store (t := 3) (p := 96) rfl ?_); (try (rw [drewN_self w45]; generalize hq_ : World.drewN w45 _ = w45; have n0_ := Aside0.mk (Kd.R_at hq_ HO_24.out); have n1_ := Aside0.mk (Kd.R_at hq_ HO161.out); have n2_ := Aside0.mk (blk_at hq_ BK153.out); have n3_ := Aside0.mk (below_at hq_ HB.out); clear hq_ HO_24 HO161 BK153 HB; have HO_24 := n0_; have HO161 := n1_; have BK153 := n2_; have HB := n3_; clear n0_ n1_ n2_ n3_; (try (have HX47 := Aside0.mk (show Kd.R k42 42 w45 w.heap.size (fun _ => True) (.slice (some ⟨go42, 0, none⟩) y159.length co46) y159 from (by (with_reducible repeat (first | apply Kd.R_alloc | apply Kd.R_drewN | apply Kd.R_drew)); exact HO161.out)))); (try (obtain ⟨ce47, hcl47, hM47, hcc47, hfr47⟩ := Kd.R_elem HX47.out z42 ((ji39) : Int) (of_decide_eq_true (by assumption)) (by have h_ : ((ji39) : Int) < ((y159.length : Int) : Int) := of_decide_eq_true (by assumption); first | exact h_ | (have e_ := (Kd.R_reads' HO161.out).1; omega) | simpa using h_))); (try (obtain rfl := k42_openM hM47)); (try (have HP47 := Kd.R_seg HX47.out ((ji39) : Int) (of_decide_eq_true (by assumption)) (by have h_ : ((ji39) : Int) < ((y159.length : Int) : Int) := of_decide_eq_true (by assumption); first | exact h_ | (have e_ := (Kd.R_reads' HO161.out).1; omega) | simpa using h_) (seg := [.int .i64 (wrap64 (((rd_T42 y159 (ji39)).f0) + 1))]) (j := 0) hcl47 hcc47 (show 1 ≤ 3 from by decide) (x' := (⟨wrap64 (((rd_T42 y159 (ji39)).f0) + 1), (rd_T42 y159 (ji39)).f1, (rd_T42 y159 (ji39)).f2⟩ : S42)) (k42_mkM _ _ _ (⟨wrap64 (((rd_T42 y159 (ji39)).f0) + 1), (rd_T42 y159 (ji39)).f1, (rd_T42 y159 (ji39)).f2⟩ : S42) ) (fun _ hk => hk))); (try (have hx47_0 := hcc47 0 _ rfl)); (try (try simp only [show (k42).sz = 3 from rfl, Nat.mul_one, Nat.add_zero] at hx47_0)); (try (have hf47_0 := hfr47 0)); (try (try simp only [show (k42).sz = 3 from rfl, Nat.mul_one, Nat.add_zero] at hf47_0)); (try ((try clear hcl47); (try clear hcc47); (try clear hfr47); (try clear hM47))))); refine store_event (t := 3) (p := 96) (v := ?vo_w48) (w1 := (w45.setCell ⟨go42, ((ji39) : Int).toNat * 3, none⟩ (.int .i64 (wrap64 (((rd_T42 y159 (ji39)).f0) + 1))))) ?hg ?ho ?hn ?hr ?_; (case ho => rfl); (case hg => rfl); (case hn => rfl); (case hr => first | (go_simp; done) | (go_simp; rfl) | (obtain ⟨A_, c_, e_⟩ := Kd.R_slice (HO161.out); rw [e_]; first | (go_simp; done) | (go_simp; rfl))); intro w48 hw; have hg : w45.grownBy w48 (some go42) := (by rw [hw]; exact HP47.2); have hp_ : Kd.R k42 42 w48 w.heap.size (fun _ => True) (.slice (some ⟨go42, 0, none⟩) y159.length co46) y163 := (by rw [hw, Ny163.out]; exact HP47.1); clear HP47; have n0_ := Aside0.mk (Kd.R_over' (v := (.slice (some ⟨go42, 0, none⟩) y159.length co46)) (by (with_reducible repeat (first | apply Kd.R_alloc | apply Kd.R_drewN | apply Kd.R_drew)); exact HO_24.out) (Kd.R_typed HO161.out) (by decide) hg); have n1_ := Aside0.mk (blk_grown (g := gb153) (o := .cells #[.int .i64 ((rd_T44 y149 x26_1).f0), .int .i64 ((rd_T44 y149 x26_1).f1)] 44 (0, 0)) (by (with_reducible repeat (first | refine blk_drewN ?_ _ | refine blk_drew ?_ | refine blk_alloc ?_ _)); exact BK153.out) hg (Kd.R_ne HO161.out BK153.out (by decide))); have n2_ := Aside0.mk (hp_); have n3_ := Aside0.mk ((by rw [hw]; exact below_set (HB.out) GB42.out : Below w.heap.size w w48)); clear HO_24; clear BK153; clear HO161; clear HB; have HO_24 := n0_; have BK153 := n1_; have HO161 := n2_; have HB := n3_; clear n0_ n1_ n2_ n3_; clear hg hw hp_; have hcz49_0 : w48.cell? ⟨gb153, 0, none⟩ = some (.int .i64 ((rd_T44 y149 x26_1).f0)) := (blk_cell BK153.out 0).trans rfl; have hcz49_1 : w48.cell? ⟨gb153, 1, none⟩ = some (.int .i64 ((rd_T44 y149 x26_1).f1)) := (blk_cell BK153.out 1).trans rfl; have hfz49_0 := blk_frozen BK153.out 0; have hfz49_1 := blk_frozen BK153.out 1))
                   repeat (go_quiet (first | ((with_reducible refine gate_builtin (b := .append) (xs := #[.tmp 83, .tmp 85]) rfl ?_); at_builtin; refine Kd.R_append k42 (w0 := w) w.heap.size rfl (.tmp 83) (.tmp 85) 26 42 (.agg #[(.int .i64 0), (.int .i64 0), (.int .i64 0)]) 24 rfl Tryd.underlying26 info42 rfl (by decide) (by omega) (.slice Ao44 x5_22.length co44) x5_22 (⟨0, 0, 0⟩ : S42) [.int .i64 0, .int .i64 0, .int .i64 0] (fun _ => True) (fun _ => False) rfl rfl ?aP (fun _ hk => hk.elim) ?aF ?aO ?aB ?aS ?aL ?_; (case aP => exact k42_mkM _ _ _ (⟨0, 0, 0⟩ : S42)); (case aB => exact (by repeat (first | (with_reducible first | exact HB.out | apply below_alloc | apply pw_below_drewN | apply below_drew1 | refine below_set ?_ GE153.out) | exact HB.out))); (case aF => exact (fun _ _ => trivial)); (case aO => exact (by (with_reducible repeat (first | apply Kd.R_alloc | apply Kd.R_drewN | apply Kd.R_drew)); exact HO_5.out)); (case aS => exact (below_size (by repeat (first | (with_reducible first | exact HB.out | apply below_alloc | apply pw_below_drewN | apply below_drew1 | refine below_set ?_ GE153.out) | exact HB.out)))); (case aL => have := LMc38.out; omega); intro v160 w45 ho hb hg hat; rw [← Ny159.out] at ho; have n0_ := Aside0.mk (Kd.R_over' (by (with_reducible repeat (first | apply Kd.R_alloc | apply Kd.R_drewN | apply Kd.R_drew)); exact HO_24.out) (Kd.R_typed (by (with_reducible repeat (first | apply Kd.R_alloc | apply Kd.R_drewN | apply Kd.R_drew)); exact HO_5.out)) (by decide) hg); have n1_ := Aside0.mk (blk_grown (g := gb153) (o := .cells #[.int .i64 ((rd_T44 y149 x26_1).f0), .int .i64 ((rd_T44 y149 x26_1).f1)] 44 (0, 0)) (by (with_reducible repeat (first | refine blk_drewN ?_ _ | refine blk_drew ?_ | refine blk_alloc ?_ _)); exact BK153.out) hg (Kd.R_ne HO_5.out BK153.out (by decide))); have n2_ := Aside0.mk (hb); have n3_ := Aside0.mk (ho); clear HO_24; clear BK153; clear HB; clear HO_5; have HO_24 := n0_; have BK153 := n1_; have HB := n2_; have HO161 := n3_; clear n0_ n1_ n2_ n3_; clear ho hb hg hat; obtain ⟨Ao46, co46, eo46⟩ := Kd.R_slice HO161.out; subst eo46; have p162 : 0 ≤ ((ji39) : Int) := of_decide_eq_true (by assumption); have q162 : (ji39) < (y159.length : Int) := of_decide_eq_true (by assumption); obtain ⟨ad162, e162, hx162_0, hx162_1, hx162_2⟩ := at_T42 (Kd.R_reads' HO161.out).2.2 (ji39) p162 q162; cases e162; replace p162 := eq_true p162; replace q162 := eq_true q162; have p42 : 0 ≤ ((ji39) : Int) := of_decide_eq_true (by assumption); have q42 : ((ji39) : Int) < ((y159.length : Int) : Int) := of_decide_eq_true (by assumption); obtain ⟨go42, co42, eo42, gb42, gl42, cl42, HG42⟩ := Kd.R_form HO161.out (by omega); (first | cases eo42 | (injection eo42 with ea_ en_ ec_; (first | subst ea_ | (injection ea_ with ea_; subst ea_)); subst ec_; clear en_)); have GB42 := Aside0.mk gb42; have GG42 := Aside0.mk HG42; clear gb42 gl42 HG42; (first | simp only [add_plain] at hx162_0 | skip); (first | simp only [add_plain] at hx162_1 | skip); (first | simp only [add_plain] at hx162_2 | skip); obtain ⟨ce42, hcl42, hM42, hcc42, hfr42⟩ := Kd.R_elem HO161.out z42 ((ji39) : Int) p42 q42; obtain rfl := k42_openM hM42; have hx42_0 : w45.cell? ⟨go42, ((ji39) : Int).toNat * 3, none⟩ = some (.int .i64 ((rd_T42 y159 (ji39)).f0)) := hcc42 0 _ rfl; have hx42_1 : w45.cell? ⟨go42, ((ji39) : Int).toNat * 3 + 1, none⟩ = some (.int .i64 ((rd_T42 y159 (ji39)).f1)) := hcc42 1 _ rfl; have hx42_2 : w45.cell? ⟨go42, ((ji39) : Int).toNat * 3 + 2, none⟩ = some (.int .i64 ((rd_T42 y159 (ji39)).f2)) := hcc42 2 _ rfl; have hf42_0 : w45.frozen? ⟨go42, ((ji39) : Int).toNat * 3, none⟩ = false := hfr42 0; have hf42_1 : w45.frozen? ⟨go42, ((ji39) : Int).toNat * 3 + 1, none⟩ = false := hfr42 1; have hf42_2 : w45.frozen? ⟨go42, ((ji39) : Int).toNat * 3 + 2, none⟩ = false := hfr42 2; (try clear hcl42); (try clear hcc42); (try clear hfr42); (try clear hM42); replace p42 := eq_true p42; replace q42 := eq_true q42; have HX47 := Aside0.mk (show Kd.R k42 42 w45 w.heap.size (fun _ => True) (.slice (some ⟨go42, 0, none⟩) y159.length co46) y159 from (by (with_reducible repeat (first | apply Kd.R_alloc | apply Kd.R_drewN | apply Kd.R_drew)); exact HO161.out)); obtain ⟨ce47, hcl47, hM47, hcc47, hfr47⟩ := Kd.R_elem HX47.out z42 ((ji39) : Int) (of_decide_eq_true (by assumption)) (by have h_ : ((ji39) : Int) < ((y159.length : Int) : Int) := of_decide_eq_true (by assumption); first | exact h_ | (have e_ := (Kd.R_reads' HO161.out).1; omega) | simpa using h_); obtain rfl := k42_openM hM47; have HP47 := Kd.R_seg HX47.out ((ji39) : Int) (of_decide_eq_true (by assumption)) (by have h_ : ((ji39) : Int) < ((y159.length : Int) : Int) := of_decide_eq_true (by assumption); first | exact h_ | (have e_ := (Kd.R_reads' HO161.out).1; omega) | simpa using h_) (seg := [.int .i64 (wrap64 (((rd_T42 y159 (ji39)).f0) + 1))]) (j := 0) hcl47 hcc47 (show 1 ≤ 3 from by decide) (x' := (⟨wrap64 (((rd_T42 y159 (ji39)).f0) + 1), (rd_T42 y159 (ji39)).f1, (rd_T42 y159 (ji39)).f2⟩ : S42)) (k42_mkM _ _ _ (⟨wrap64 (((rd_T42 y159 (ji39)).f0) + 1), (rd_T42 y159 (ji39)).f1, (rd_T42 y159 (ji39)).f2⟩ : S42) ) (fun _ hk => hk); have hx47_0 := hcc47 0 _ rfl; (try simp only [show (k42).sz = 3 from rfl, Nat.mul_one, Nat.add_zero] at hx47_0); have hf47_0 := hfr47 0; (try simp only [show (k42).sz = 3 from rfl, Nat.mul_one, Nat.add_zero] at hf47_0); (try clear hcl47); (try clear hcc47); (try clear hfr47); (try clear hM47)) | ((with_reducible refine gate_store (t := 3) (p := 96) rfl ?_); (try (rw [drewN_self w45]; generalize hq_ : World.drewN w45 _ = w45; have n0_ := Aside0.mk (Kd.R_at hq_ HO_24.out); have n1_ := Aside0.mk (Kd.R_at hq_ HO161.out); have n2_ := Aside0.mk (blk_at hq_ BK153.out); have n3_ := Aside0.mk (below_at hq_ HB.out); clear hq_ HO_24 HO161 BK153 HB; have HO_24 := n0_; have HO161 := n1_; have BK153 := n2_; have HB := n3_; clear n0_ n1_ n2_ n3_; (try (have HX47 := Aside0.mk (show Kd.R k42 42 w45 w.heap.size (fun _ => True) (.slice (some ⟨go42, 0, none⟩) y159.length co46) y159 from (by (with_reducible repeat (first | apply Kd.R_alloc | apply Kd.R_drewN | apply Kd.R_drew)); exact HO161.out)))); (try (obtain ⟨ce47, hcl47, hM47, hcc47, hfr47⟩ := Kd.R_elem HX47.out z42 ((ji39) : Int) (of_decide_eq_true (by assumption)) (by have h_ : ((ji39) : Int) < ((y159.length : Int) : Int) := of_decide_eq_true (by assumption); first | exact h_ | (have e_ := (Kd.R_reads' HO161.out).1; omega) | simpa using h_))); (try (obtain rfl := k42_openM hM47)); (try (have HP47 := Kd.R_seg HX47.out ((ji39) : Int) (of_decide_eq_true (by assumption)) (by have h_ : ((ji39) : Int) < ((y159.length : Int) : Int) := of_decide_eq_true (by assumption); first | exact h_ | (have e_ := (Kd.R_reads' HO161.out).1; omega) | simpa using h_) (seg := [.int .i64 (wrap64 (((rd_T42 y159 (ji39)).f0) + 1))]) (j := 0) hcl47 hcc47 (show 1 ≤ 3 from by decide) (x' := (⟨wrap64 (((rd_T42 y159 (ji39)).f0) + 1), (rd_T42 y159 (ji39)).f1, (rd_T42 y159 (ji39)).f2⟩ : S42)) (k42_mkM _ _ _ (⟨wrap64 (((rd_T42 y159 (ji39)).f0) + 1), (rd_T42 y159 (ji39)).f1, (rd_T42 y159 (ji39)).f2⟩ : S42) ) (fun _ hk => hk))); (try (have hx47_0 := hcc47 0 _ rfl)); (try (try simp only [show (k42).sz = 3 from rfl, Nat.mul_one, Nat.add_zero] at hx47_0)); (try (have hf47_0 := hfr47 0)); (try (try simp only [show (k42).sz = 3 from rfl, Nat.mul_one, Nat.add_zero] at hf47_0)); (try ((try clear hcl47); (try clear hcc47); (try clear hfr47); (try clear hM47))))); refine store_event (t := 3) (p := 96) (v := ?vo_w48) (w1 := (w45.setCell ⟨go42, ((ji39) : Int).toNat * 3, none⟩ (.int .i64 (wrap64 (((rd_T42 y159 (ji39)).f0) + 1))))) ?hg ?ho ?hn ?hr ?_; (case ho => rfl); (case hg => rfl); (case hn => rfl); (case hr => first | (go_simp; done) | (go_simp; rfl) | (obtain ⟨A_, c_, e_⟩ := Kd.R_slice (HO161.out); rw [e_]; first | (go_simp; done) | (go_simp; rfl))); intro w48 hw; have hg : w45.grownBy w48 (some go42) := (by rw [hw]; exact HP47.2); have hp_ : Kd.R k42 42 w48 w.heap.size (fun _ => True) (.slice (some ⟨go42, 0, none⟩) y159.length co46) y163 := (by rw [hw, Ny163.out]; exact HP47.1); clear HP47; have n0_ := Aside0.mk (Kd.R_over' (v := (.slice (some ⟨go42, 0, none⟩) y159.length co46)) (by (with_reducible repeat (first | apply Kd.R_alloc | apply Kd.R_drewN | apply Kd.R_drew)); exact HO_24.out) (Kd.R_typed HO161.out) (by decide) hg); have n1_ := Aside0.mk (blk_grown (g := gb153) (o := .cells #[.int .i64 ((rd_T44 y149 x26_1).f0), .int .i64 ((rd_T44 y149 x26_1).f1)] 44 (0, 0)) (by (with_reducible repeat (first | refine blk_drewN ?_ _ | refine blk_drew ?_ | refine blk_alloc ?_ _)); exact BK153.out) hg (Kd.R_ne HO161.out BK153.out (by decide))); have n2_ := Aside0.mk (hp_); have n3_ := Aside0.mk ((by rw [hw]; exact below_set (HB.out) GB42.out : Below w.heap.size w w48)); clear HO_24; clear BK153; clear HO161; clear HB; have HO_24 := n0_; have BK153 := n1_; have HO161 := n2_; have HB := n3_; clear n0_ n1_ n2_ n3_; clear hg hw hp_; have hcz49_0 : w48.cell? ⟨gb153, 0, none⟩ = some (.int .i64 ((rd_T44 y149 x26_1).f0)) := (blk_cell BK153.out 0).trans rfl; have hcz49_1 : w48.cell? ⟨gb153, 1, none⟩ = some (.int .i64 ((rd_T44 y149 x26_1).f1)) := (blk_cell BK153.out 1).trans rfl; have hfz49_0 := blk_frozen BK153.out 0; have hfz49_1 := blk_frozen BK153.out 1)); try go_wp2_with (first | ((with_reducible refine gate_builtin (b := .append) (xs := #[.tmp 83, .tmp 85]) rfl ?_); at_builtin; refine Kd.R_append k42 (w0 := w) w.heap.size rfl (.tmp 83) (.tmp 85) 26 42 (.agg #[(.int .i64 0), (.int .i64 0), (.int .i64 0)]) 24 rfl Tryd.underlying26 info42 rfl (by decide) (by omega) (.slice Ao44 x5_22.length co44) x5_22 (⟨0, 0, 0⟩ : S42) [.int .i64 0, .int .i64 0, .int .i64 0] (fun _ => True) (fun _ => False) rfl rfl ?aP (fun _ hk => hk.elim) ?aF ?aO ?aB ?aS ?aL ?_; (case aP => exact k42_mkM _ _ _ (⟨0, 0, 0⟩ : S42)); (case aB => exact (by repeat (first | (with_reducible first | exact HB.out | apply below_alloc | apply pw_below_drewN | apply below_drew1 | refine below_set ?_ GE153.out) | exact HB.out))); (case aF => exact (fun _ _ => trivial)); (case aO => exact (by (with_reducible repeat (first | apply Kd.R_alloc | apply Kd.R_drewN | apply Kd.R_drew)); exact HO_5.out)); (case aS => exact (below_size (by repeat (first | (with_reducible first | exact HB.out | apply below_alloc | apply pw_below_drewN | apply below_drew1 | refine below_set ?_ GE153.out) | exact HB.out)))); (case aL => have := LMc38.out; omega); intro v160 w45 ho hb hg hat; rw [← Ny159.out] at ho; have n0_ := Aside0.mk (Kd.R_over' (by (with_reducible repeat (first | apply Kd.R_alloc | apply Kd.R_drewN | apply Kd.R_drew)); exact HO_24.out) (Kd.R_typed (by (with_reducible repeat (first | apply Kd.R_alloc | apply Kd.R_drewN | apply Kd.R_drew)); exact HO_5.out)) (by decide) hg); have n1_ := Aside0.mk (blk_grown (g := gb153) (o := .cells #[.int .i64 ((rd_T44 y149 x26_1).f0), .int .i64 ((rd_T44 y149 x26_1).f1)] 44 (0, 0)) (by (with_reducible repeat (first | refine blk_drewN ?_ _ | refine blk_drew ?_ | refine blk_alloc ?_ _)); exact BK153.out) hg (Kd.R_ne HO_5.out BK153.out (by decide))); have n2_ := Aside0.mk (hb); have n3_ := Aside0.mk (ho); clear HO_24; clear BK153; clear HB; clear HO_5; have HO_24 := n0_; have BK153 := n1_; have HB := n2_; have HO161 := n3_; clear n0_ n1_ n2_ n3_; clear ho hb hg hat; obtain ⟨Ao46, co46, eo46⟩ := Kd.R_slice HO161.out; subst eo46; have p162 : 0 ≤ ((ji39) : Int) := of_decide_eq_true (by assumption); have q162 : (ji39) < (y159.length : Int) := of_decide_eq_true (by assumption); obtain ⟨ad162, e162, hx162_0, hx162_1, hx162_2⟩ := at_T42 (Kd.R_reads' HO161.out).2.2 (ji39) p162 q162; cases e162; replace p162 := eq_true p162; replace q162 := eq_true q162; have p42 : 0 ≤ ((ji39) : Int) := of_decide_eq_true (by assumption); have q42 : ((ji39) : Int) < ((y159.length : Int) : Int) := of_decide_eq_true (by assumption); obtain ⟨go42, co42, eo42, gb42, gl42, cl42, HG42⟩ := Kd.R_form HO161.out (by omega); (first | cases eo42 | (injection eo42 with ea_ en_ ec_; (first | subst ea_ | (injection ea_ with ea_; subst ea_)); subst ec_; clear en_)); have GB42 := Aside0.mk gb42; have GG42 := Aside0.mk HG42; clear gb42 gl42 HG42; (first | simp only [add_plain] at hx162_0 | skip); (first | simp only [add_plain] at hx162_1 | skip); (first | simp only [add_plain] at hx162_2 | skip); obtain ⟨ce42, hcl42, hM42, hcc42, hfr42⟩ := Kd.R_elem HO161.out z42 ((ji39) : Int) p42 q42; obtain rfl := k42_openM hM42; have hx42_0 : w45.cell? ⟨go42, ((ji39) : Int).toNat * 3, none⟩ = some (.int .i64 ((rd_T42 y159 (ji39)).f0)) := hcc42 0 _ rfl; have hx42_1 : w45.cell? ⟨go42, ((ji39) : Int).toNat * 3 + 1, none⟩ = some (.int .i64 ((rd_T42 y159 (ji39)).f1)) := hcc42 1 _ rfl; have hx42_2 : w45.cell? ⟨go42, ((ji39) : Int).toNat * 3 + 2, none⟩ = some (.int .i64 ((rd_T42 y159 (ji39)).f2)) := hcc42 2 _ rfl; have hf42_0 : w45.frozen? ⟨go42, ((ji39) : Int).toNat * 3, none⟩ = false := hfr42 0; have hf42_1 : w45.frozen? ⟨go42, ((ji39) : Int).toNat * 3 + 1, none⟩ = false := hfr42 1; have hf42_2 : w45.frozen? ⟨go42, ((ji39) : Int).toNat * 3 + 2, none⟩ = false := hfr42 2; (try clear hcl42); (try clear hcc42); (try clear hfr42); (try clear hM42); replace p42 := eq_true p42; replace q42 := eq_true q42; have HX47 := Aside0.mk (show Kd.R k42 42 w45 w.heap.size (fun _ => True) (.slice (some ⟨go42, 0, none⟩) y159.length co46) y159 from (by (with_reducible repeat (first | apply Kd.R_alloc | apply Kd.R_drewN | apply Kd.R_drew)); exact HO161.out)); obtain ⟨ce47, hcl47, hM47, hcc47, hfr47⟩ := Kd.R_elem HX47.out z42 ((ji39) : Int) (of_decide_eq_true (by assumption)) (by have h_ : ((ji39) : Int) < ((y159.length : Int) : Int) := of_decide_eq_true (by assumption); first | exact h_ | (have e_ := (Kd.R_reads' HO161.out).1; omega) | simpa using h_); obtain rfl := k42_openM hM47; have HP47 := Kd.R_seg HX47.out ((ji39) : Int) (of_decide_eq_true (by assumption)) (by have h_ : ((ji39) : Int) < ((y159.length : Int) : Int) := of_decide_eq_true (by assumption); first | exact h_ | (have e_ := (Kd.R_reads' HO161.out).1; omega) | simpa using h_) (seg := [.int .i64 (wrap64 (((rd_T42 y159 (ji39)).f0) + 1))]) (j := 0) hcl47 hcc47 (show 1 ≤ 3 from by decide) (x' := (⟨wrap64 (((rd_T42 y159 (ji39)).f0) + 1), (rd_T42 y159 (ji39)).f1, (rd_T42 y159 (ji39)).f2⟩ : S42)) (k42_mkM _ _ _ (⟨wrap64 (((rd_T42 y159 (ji39)).f0) + 1), (rd_T42 y159 (ji39)).f1, (rd_T42 y159 (ji39)).f2⟩ : S42) ) (fun _ hk => hk); have hx47_0 := hcc47 0 _ rfl; (try simp only [show (k42).sz = 3 from rfl, Nat.mul_one, Nat.add_zero] at hx47_0); have hf47_0 := hfr47 0; (try simp only [show (k42).sz = 3 from rfl, Nat.mul_one, Nat.add_zero] at hf47_0); (try clear hcl47); (try clear hcc47); (try clear hfr47); (try clear hM47)) | ((with_reducible refine gate_store (t := 3) (p := 96) rfl ?_); (try (rw [drewN_self w45]; generalize hq_ : World.drewN w45 _ = w45; have n0_ := Aside0.mk (Kd.R_at hq_ HO_24.out); have n1_ := Aside0.mk (Kd.R_at hq_ HO161.out); have n2_ := Aside0.mk (blk_at hq_ BK153.out); have n3_ := Aside0.mk (below_at hq_ HB.out); clear hq_ HO_24 HO161 BK153 HB; have HO_24 := n0_; have HO161 := n1_; have BK153 := n2_; have HB := n3_; clear n0_ n1_ n2_ n3_; (try (have HX47 := Aside0.mk (show Kd.R k42 42 w45 w.heap.size (fun _ => True) (.slice (some ⟨go42, 0, none⟩) y159.length co46) y159 from (by (with_reducible repeat (first | apply Kd.R_alloc | apply Kd.R_drewN | apply Kd.R_drew)); exact HO161.out)))); (try (obtain ⟨ce47, hcl47, hM47, hcc47, hfr47⟩ := Kd.R_elem HX47.out z42 ((ji39) : Int) (of_decide_eq_true (by assumption)) (by have h_ : ((ji39) : Int) < ((y159.length : Int) : Int) := of_decide_eq_true (by assumption); first | exact h_ | (have e_ := (Kd.R_reads' HO161.out).1; omega) | simpa using h_))); (try (obtain rfl := k42_openM hM47)); (try (have HP47 := Kd.R_seg HX47.out ((ji39) : Int) (of_decide_eq_true (by assumption)) (by have h_ : ((ji39) : Int) < ((y159.length : Int) : Int) := of_decide_eq_true (by assumption); first | exact h_ | (have e_ := (Kd.R_reads' HO161.out).1; omega) | simpa using h_) (seg := [.int .i64 (wrap64 (((rd_T42 y159 (ji39)).f0) + 1))]) (j := 0) hcl47 hcc47 (show 1 ≤ 3 from by decide) (x' := (⟨wrap64 (((rd_T42 y159 (ji39)).f0) + 1), (rd_T42 y159 (ji39)).f1, (rd_T42 y159 (ji39)).f2⟩ : S42)) (k42_mkM _ _ _ (⟨wrap64 (((rd_T42 y159 (ji39)).f0) + 1), (rd_T42 y159 (ji39)).f1, (rd_T42 y159 (ji39)).f2⟩ : S42) ) (fun _ hk => hk))); (try (have hx47_0 := hcc47 0 _ rfl)); (try (try simp only [show (k42).sz = 3 from rfl, Nat.mul_one, Nat.add_zero] at hx47_0)); (try (have hf47_0 := hfr47 0)); (try (try simp only [show (k42).sz = 3 from rfl, Nat.mul_one, Nat.add_zero] at hf47_0)); (try ((try clear hcl47); (try clear hcc47); (try clear hfr47); (try clear hM47))))); refine store_event (t := 3) (p := 96) (v := ?vo_w48) (w1 := (w45.setCell ⟨go42, ((ji39) : Int).toNat * 3, none⟩ (.int .i64 (wrap64 (((rd_T42 y159 (ji39)).f0) + 1))))) ?hg ?ho ?hn ?hr ?_; (case ho => rfl); (case hg => rfl); (case hn => rfl); (case hr => first | (go_simp; done) | (go_simp; rfl) | (obtain ⟨A_, c_, e_⟩ := Kd.R_slice (HO161.out); rw [e_]; first | (go_simp; done) | (go_simp; rfl))); intro w48 hw; have hg : w45.grownBy w48 (some go42) := (by rw [hw]; exact HP47.2); have hp_ : Kd.R k42 42 w48 w.heap.size (fun _ => True) (.slice (some ⟨go42, 0, none⟩) y159.length co46) y163 := (by rw [hw, Ny163.out]; exact HP47.1); clear HP47; have n0_ := Aside0.mk (Kd.R_over' (v := (.slice (some ⟨go42, 0, none⟩) y159.length co46)) (by (with_reducible repeat (first | apply Kd.R_alloc | apply Kd.R_drewN | apply Kd.R_drew)); exact HO_24.out) (Kd.R_typed HO161.out) (by decide) hg); have n1_ := Aside0.mk (blk_grown (g := gb153) (o := .cells #[.int .i64 ((rd_T44 y149 x26_1).f0), .int .i64 ((rd_T44 y149 x26_1).f1)] 44 (0, 0)) (by (with_reducible repeat (first | refine blk_drewN ?_ _ | refine blk_drew ?_ | refine blk_alloc ?_ _)); exact BK153.out) hg (Kd.R_ne HO161.out BK153.out (by decide))); have n2_ := Aside0.mk (hp_); have n3_ := Aside0.mk ((by rw [hw]; exact below_set (HB.out) GB42.out : Below w.heap.size w w48)); clear HO_24; clear BK153; clear HO161; clear HB; have HO_24 := n0_; have BK153 := n1_; have HO161 := n2_; have HB := n3_; clear n0_ n1_ n2_ n3_; clear hg hw hp_; have hcz49_0 : w48.cell? ⟨gb153, 0, none⟩ = some (.int .i64 ((rd_T44 y149 x26_1).f0)) := (blk_cell BK153.out 0).trans rfl; have hcz49_1 : w48.cell? ⟨gb153, 1, none⟩ = some (.int .i64 ((rd_T44 y149 x26_1).f1)) := (blk_cell BK153.out 1).trans rfl; have hfz49_0 := blk_frozen BK153.out 0; have hfz49_1 := blk_frozen BK153.out 1)))
                   go_roundg kj22
                   case measure => have := HK1.out; have := HJ12.out; have := HJ18.out; have := HJ22.out; omega
                   case rel => exact ⟨(y163), (wrap64 (((rd_T44 y149 x26_1).f0) + 1)), (wrap64 (((rd_T44 y149 x26_1).f1) + 1)), (wrap64 (x26_1 + 1)), (by first | rfl | (simp; done) | (simp [*]; done)), (by first | rfl | (simp; done) | (simp [*]; done)), (by first | rfl | (simp; done) | (simp [*]; done)), H', ⟨by have := HK1.out; have := HJ12.out; have := HJ18.out; have := HJ22.out; omega⟩, ⟨by (with_reducible repeat (first | apply Kd.R_alloc | apply Kd.R_drewN | apply Kd.R_drew)); exact HO161.out⟩, ⟨by (with_reducible repeat (first | apply Kd.R_alloc | apply Kd.R_drewN | apply Kd.R_drew)); exact Kd.R_mono HO_24.out (fun _ hk => trivial)⟩, ⟨by repeat (first | (with_reducible first | exact HB.out | apply below_alloc | apply pw_below_drewN | apply below_drew1 | refine below_set ?_ GE153.out) | exact HB.out)⟩⟩
                  ·rw [if_neg c41] at H
                   exact absurd H (by simp)
                 ·rw [if_neg c40] at H
                  exact absurd H (by simp)
                ·rw [if_neg c38] at H
                 exact absurd H (by simp)
               ·rw [if_neg c37] at H
                have c37b0 : ((x5_22.length : Int) == 0) = false := beq_eq_false_iff_ne.mpr c37
                have c37b1 : ((x5_22.length : Int) != 0) = true := bne_iff_ne.mpr c37
                have c37b2 : ¬ (x5_22 = []) := fun h_ => c37 (by rw [h_]; rfl)
                by_cases c50 : (wrap64 ((wrap64 (((rd_T44 y149 x26_1).f0) - x6_1)) + (wrap64 (((rd_T44 y149 x26_1).f1) - x7_1)))) > 0
                ·rw [if_pos c50] at H
                 have c50b0 : decide (0 < (wrap64 ((wrap64 (((rd_T44 y149 x26_1).f0) - x6_1)) + (wrap64 (((rd_T44 y149 x26_1).f1) - x7_1))))) = true := decide_eq_true c50
                 clear c50
                 by_cases c51 : x5_22.length < 5864062014805
                 ·rw [if_pos c51] at H
                  have LMc51 := Aside0.mk c51
                  clear c51
                  obtain ⟨y164, hy164⟩ : ∃ y_ : List (S42), y_ = (x5_22 ++ [(⟨0, 0, 0⟩ : S42)]) := ⟨_, rfl⟩
                  replace H : (if 0 ≤ (wrap64 ((y164.length : Int) - 1)) then (if (wrap64 ((y164.length : Int) - 1)) < (y164.length : Int) then (diff_Steps_string.l0 kj22 l0 (y164.set ((wrap64 ((y164.length : Int) - 1)) : Int).toNat (⟨wrap64 (((rd_T42 y164 (wrap64 ((y164.length : Int) - 1))).f0) + 1), (rd_T42 y164 (wrap64 ((y164.length : Int) - 1))).f1, (rd_T42 y164 (wrap64 ((y164.length : Int) - 1))).f2⟩ : S42)) (wrap64 (((rd_T44 y149 x26_1).f0) + 1)) (wrap64 (((rd_T44 y149 x26_1).f1) + 1)) y149 (y149.length : Int) (wrap64 (x26_1 + 1))) else (none)) else (none)) = some r := by first | (rw [hy164]; with_reducible exact H) | (have H2_ := (Option.bind_some _ _).symm.trans H; rw [hy164]; with_reducible exact H2_) | (have H2_ := (Option.bind_some _ _).symm.trans H; with_reducible exact H2_) | with_reducible exact H | (rw [hy164]; exact H) | exact H
                  have Ny164 := Aside0.mk hy164
                  clear hy164
                  obtain ⟨ji52, hji52⟩ : ∃ j_ : Int, (wrap64 ((y164.length : Int) - 1)) = j_ := ⟨_, rfl⟩
                  replace H : (if 0 ≤ (ji52) then (if (ji52) < (y164.length : Int) then (diff_Steps_string.l0 kj22 l0 (y164.set ((ji52) : Int).toNat (⟨wrap64 (((rd_T42 y164 (ji52)).f0) + 1), (rd_T42 y164 (ji52)).f1, (rd_T42 y164 (ji52)).f2⟩ : S42)) (wrap64 (((rd_T44 y149 x26_1).f0) + 1)) (wrap64 (((rd_T44 y149 x26_1).f1) + 1)) y149 (y149.length : Int) (wrap64 (x26_1 + 1))) else (none)) else (none)) = some r := by first | (rw [hji52] at H; exact H) | (simp only [hji52] at H ⊢; exact H)
                  have hji52w : (IntKind.i64.wrap ((y164.length : Int) - 1)) = ji52 := (i64_w _).trans hji52
                  by_cases c53 : 0 ≤ (ji52)
                  ·rw [if_pos c53] at H
                   have c53b0 : decide (0 ≤ (ji52)) = true := decide_eq_true c53
                   clear c53
                   by_cases c54 : (ji52) < (y164.length : Int)
                   ·rw [if_pos c54] at H
                    have c54b0 : decide ((ji52) < (y164.length : Int)) = true := decide_eq_true c54
                    clear c54
                    obtain ⟨y168, hy168⟩ : ∃ y_ : List (S42), y_ = (y164.set ((ji52) : Int).toNat (⟨wrap64 (((rd_T42 y164 (ji52)).f0) + 1), (rd_T42 y164 (ji52)).f1, (rd_T42 y164 (ji52)).f2⟩ : S42)) := ⟨_, rfl⟩
                    replace H : (diff_Steps_string.l0 kj22 l0 y168 (wrap64 (((rd_T44 y149 x26_1).f0) + 1)) (wrap64 (((rd_T44 y149 x26_1).f1) + 1)) y149 (y149.length : Int) (wrap64 (x26_1 + 1))) = some r := by first | (rw [hy168]; with_reducible exact H) | (have H2_ := (Option.bind_some _ _).symm.trans H; rw [hy168]; with_reducible exact H2_) | (have H2_ := (Option.bind_some _ _).symm.trans H; with_reducible exact H2_) | with_reducible exact H | (rw [hy168]; exact H) | exact H
                    have Ny168 := Aside0.mk hy168
                    clear hy168
                    have H' := Aside0.mk H
                    clear H
                    have hcz56_0 : wc.cell? ⟨gb153, 0, none⟩ = some (.int .i64 ((rd_T44 y149 x26_1).f0)) := (blk_cell BK153.out 0).trans rfl
                    have hcz56_1 : wc.cell? ⟨gb153, 1, none⟩ = some (.int .i64 ((rd_T44 y149 x26_1).f1)) := (blk_cell BK153.out 1).trans rfl
                    have hfz56_0 := blk_frozen BK153.out 0
                    have hfz56_1 := blk_frozen BK153.out 1
                    obtain ⟨Ao57, co57, eo57⟩ := Kd.R_slice HO_5.out
                    subst eo57
                    go_wp2_with (first | ((with_reducible refine gate_builtin (b := .append) (xs := #[.tmp 83, .tmp 85]) rfl ?_); at_builtin; refine Kd.R_append k42 (w0 := w) w.heap.size rfl (.tmp 83) (.tmp 85) 26 42 (.agg #[(.int .i64 0), (.int .i64 0), (.int .i64 0)]) 24 rfl Tryd.underlying26 info42 rfl (by decide) (by omega) (.slice Ao57 x5_22.length co57) x5_22 (⟨0, 0, 0⟩ : S42) [.int .i64 0, .int .i64 0, .int .i64 0] (fun _ => True) (fun _ => False) rfl rfl ?aP (fun _ hk => hk.elim) ?aF ?aO ?aB ?aS ?aL ?_; (case aP => exact k42_mkM _ _ _ (⟨0, 0, 0⟩ : S42)); (case aB => exact (by repeat (first | (with_reducible first | exact HB.out | apply below_alloc | apply pw_below_drewN | apply below_drew1 | refine below_set ?_ GE153.out) | exact HB.out))); (case aF => exact (fun _ _ => trivial)); (case aO => exact (by (with_reducible repeat (first | apply Kd.R_alloc | apply Kd.R_drewN | apply Kd.R_drew)); exact HO_5.out)); (case aS => exact (below_size (by repeat (first | (with_reducible first | exact HB.out | apply below_alloc | apply pw_below_drewN | apply below_drew1 | refine below_set ?_ GE153.out) | exact HB.out)))); (case aL => have := LMc51.out; omega); intro v165 w58 ho hb hg hat; rw [← Ny164.out] at ho; have n0_ := Aside0.mk (Kd.R_over' (by (with_reducible repeat (first | apply Kd.R_alloc | apply Kd.R_drewN | apply Kd.R_drew)); exact HO_24.out) (Kd.R_typed (by (with_reducible repeat (first | apply Kd.R_alloc | apply Kd.R_drewN | apply Kd.R_drew)); exact HO_5.out)) (by decide) hg); have n1_ := Aside0.mk (blk_grown (g := gb153) (o := .cells #[.int .i64 ((rd_T44 y149 x26_1).f0), .int .i64 ((rd_T44 y149 x26_1).f1)] 44 (0, 0)) (by (with_reducible repeat (first | refine blk_drewN ?_ _ | refine blk_drew ?_ | refine blk_alloc ?_ _)); exact BK153.out) hg (Kd.R_ne HO_5.out BK153.out (by decide))); have n2_ := Aside0.mk (hb); have n3_ := Aside0.mk (ho); clear HO_24; clear BK153; clear HB; clear HO_5; have HO_24 := n0_; have BK153 := n1_; have HB := n2_; have HO166 := n3_; clear n0_ n1_ n2_ n3_; clear ho hb hg hat; obtain ⟨Ao59, co59, eo59⟩ := Kd.R_slice HO166.out; subst eo59; have p167 : 0 ≤ ((ji52) : Int) := of_decide_eq_true (by assumption); have q167 : (ji52) < (y164.length : Int) := of_decide_eq_true (by assumption); obtain ⟨ad167, e167, hx167_0, hx167_1, hx167_2⟩ := at_T42 (Kd.R_reads' HO166.out).2.2 (ji52) p167 q167; cases e167; replace p167 := eq_true p167; replace q167 := eq_true q167; have p55 : 0 ≤ ((ji52) : Int) := of_decide_eq_true (by assumption); have q55 : ((ji52) : Int) < ((y164.length : Int) : Int) := of_decide_eq_true (by assumption); obtain ⟨go55, co55, eo55, gb55, gl55, cl55, HG55⟩ := Kd.R_form HO166.out (by omega); (first | cases eo55 | (injection eo55 with ea_ en_ ec_; (first | subst ea_ | (injection ea_ with ea_; subst ea_)); subst ec_; clear en_)); have GB55 := Aside0.mk gb55; have GG55 := Aside0.mk HG55; clear gb55 gl55 HG55; (first | simp only [add_plain] at hx167_0 | skip); (first | simp only [add_plain] at hx167_1 | skip); (first | simp only [add_plain] at hx167_2 | skip); obtain ⟨ce55, hcl55, hM55, hcc55, hfr55⟩ := Kd.R_elem HO166.out z42 ((ji52) : Int) p55 q55; obtain rfl := k42_openM hM55; have hx55_0 : w58.cell? ⟨go55, ((ji52) : Int).toNat * 3, none⟩ = some (.int .i64 ((rd_T42 y164 (ji52)).f0)) := hcc55 0 _ rfl; have hx55_1 : w58.cell? ⟨go55, ((ji52) : Int).toNat * 3 + 1, none⟩ = some (.int .i64 ((rd_T42 y164 (ji52)).f1)) := hcc55 1 _ rfl; have hx55_2 : w58.cell? ⟨go55, ((ji52) : Int).toNat * 3 + 2, none⟩ = some (.int .i64 ((rd_T42 y164 (ji52)).f2)) := hcc55 2 _ rfl; have hf55_0 : w58.frozen? ⟨go55, ((ji52) : Int).toNat * 3, none⟩ = false := hfr55 0; have hf55_1 : w58.frozen? ⟨go55, ((ji52) : Int).toNat * 3 + 1, none⟩ = false := hfr55 1; have hf55_2 : w58.frozen? ⟨go55, ((ji52) : Int).toNat * 3 + 2, none⟩ = false := hfr55 2; (try clear hcl55); (try clear hcc55); (try clear hfr55); (try clear hM55); replace p55 := eq_true p55; replace q55 := eq_true q55; have HX60 := Aside0.mk (show Kd.R k42 42 w58 w.heap.size (fun _ => True) (.slice (some ⟨go55, 0, none⟩) y164.length co59) y164 from (by (with_reducible repeat (first | apply Kd.R_alloc | apply Kd.R_drewN | apply Kd.R_drew)); exact HO166.out)); obtain ⟨ce60, hcl60, hM60, hcc60, hfr60⟩ := Kd.R_elem HX60.out z42 ((ji52) : Int) (of_decide_eq_true (by assumption)) (by have h_ : ((ji52) : Int) < ((y164.length : Int) : Int) := of_decide_eq_true (by assumption); first | exact h_ | (have e_ := (Kd.R_reads' HO166.out).1; omega) | simpa using h_); obtain rfl := k42_openM hM60; have HP60 := Kd.R_seg HX60.out ((ji52) : Int) (of_decide_eq_true (by assumption)) (by have h_ : ((ji52) : Int) < ((y164.length : Int) : Int) := of_decide_eq_true (by assumption); first | exact h_ | (have e_ := (Kd.R_reads' HO166.out).1; omega) | simpa using h_) (seg := [.int .i64 (wrap64 (((rd_T42 y164 (ji52)).f0) + 1))]) (j := 0) hcl60 hcc60 (show 1 ≤ 3 from by decide) (x' := (⟨wrap64 (((rd_T42 y164 (ji52)).f0) + 1), (rd_T42 y164 (ji52)).f1, (rd_T42 y164 (ji52)).f2⟩ : S42)) (k42_mkM _ _ _ (⟨wrap64 (((rd_T42 y164 (ji52)).f0) + 1), (rd_T42 y164 (ji52)).f1, (rd_T42 y164 (ji52)).f2⟩ : S42) ) (fun _ hk => hk); have hx60_0 := hcc60 0 _ rfl; (try simp only [show (k42).sz = 3 from rfl, Nat.mul_one, Nat.add_zero] at hx60_0); have hf60_0 := hfr60 0; (try simp only [show (k42).sz = 3 from rfl, Nat.mul_one, Nat.add_zero] at hf60_0); (try clear hcl60); (try clear hcc60); (try clear hfr60); (try clear hM60)) | ((with_reducible refine gate_store (t := 3) (p := 96) rfl ?_); (try (rw [drewN_self w58]; generalize hq_ : World.drewN w58 _ = w58; have n0_ := Aside0.mk (Kd.R_at hq_ HO_24.out); have n1_ := Aside0.mk (Kd.R_at hq_ HO166.out); have n2_ := Aside0.mk (blk_at hq_ BK153.out); have n3_ := Aside0.mk (below_at hq_ HB.out); clear hq_ HO_24 HO166 BK153 HB; have HO_24 := n0_; have HO166 := n1_; have BK153 := n2_; have HB := n3_; clear n0_ n1_ n2_ n3_; (try (have HX60 := Aside0.mk (show Kd.R k42 42 w58 w.heap.size (fun _ => True) (.slice (some ⟨go55, 0, none⟩) y164.length co59) y164 from (by (with_reducible repeat (first | apply Kd.R_alloc | apply Kd.R_drewN | apply Kd.R_drew)); exact HO166.out)))); (try (obtain ⟨ce60, hcl60, hM60, hcc60, hfr60⟩ := Kd.R_elem HX60.out z42 ((ji52) : Int) (of_decide_eq_true (by assumption)) (by have h_ : ((ji52) : Int) < ((y164.length : Int) : Int) := of_decide_eq_true (by assumption); first | exact h_ | (have e_ := (Kd.R_reads' HO166.out).1; omega) | simpa using h_))); (try (obtain rfl := k42_openM hM60)); (try (have HP60 := Kd.R_seg HX60.out ((ji52) : Int) (of_decide_eq_true (by assumption)) (by have h_ : ((ji52) : Int) < ((y164.length : Int) : Int) := of_decide_eq_true (by assumption); first | exact h_ | (have e_ := (Kd.R_reads' HO166.out).1; omega) | simpa using h_) (seg := [.int .i64 (wrap64 (((rd_T42 y164 (ji52)).f0) + 1))]) (j := 0) hcl60 hcc60 (show 1 ≤ 3 from by decide) (x' := (⟨wrap64 (((rd_T42 y164 (ji52)).f0) + 1), (rd_T42 y164 (ji52)).f1, (rd_T42 y164 (ji52)).f2⟩ : S42)) (k42_mkM _ _ _ (⟨wrap64 (((rd_T42 y164 (ji52)).f0) + 1), (rd_T42 y164 (ji52)).f1, (rd_T42 y164 (ji52)).f2⟩ : S42) ) (fun _ hk => hk))); (try (have hx60_0 := hcc60 0 _ rfl)); (try (try simp only [show (k42).sz = 3 from rfl, Nat.mul_one, Nat.add_zero] at hx60_0)); (try (have hf60_0 := hfr60 0)); (try (try simp only [show (k42).sz = 3 from rfl, Nat.mul_one, Nat.add_zero] at hf60_0)); (try ((try clear hcl60); (try clear hcc60); (try clear hfr60); (try clear hM60))))); refine store_event (t := 3) (p := 96) (v := ?vo_w61) (w1 := (w58.setCell ⟨go55, ((ji52) : Int).toNat * 3, none⟩ (.int .i64 (wrap64 (((rd_T42 y164 (ji52)).f0) + 1))))) ?hg ?ho ?hn ?hr ?_; (case ho => rfl); (case hg => rfl); (case hn => rfl); (case hr => first | (go_simp; done) | (go_simp; rfl) | (obtain ⟨A_, c_, e_⟩ := Kd.R_slice (HO166.out); rw [e_]; first | (go_simp; done) | (go_simp; rfl))); intro w61 hw; have hg : w58.grownBy w61 (some go55) := (by rw [hw]; exact HP60.2); have hp_ : Kd.R k42 42 w61 w.heap.size (fun _ => True) (.slice (some ⟨go55, 0, none⟩) y164.length co59) y168 := (by rw [hw, Ny168.out]; exact HP60.1); clear HP60; have n0_ := Aside0.mk (Kd.R_over' (v := (.slice (some ⟨go55, 0, none⟩) y164.length co59)) (by (with_reducible repeat (first | apply Kd.R_alloc | apply Kd.R_drewN | apply Kd.R_drew)); exact HO_24.out) (Kd.R_typed HO166.out) (by decide) hg); have n1_ := Aside0.mk (blk_grown (g := gb153) (o := .cells #[.int .i64 ((rd_T44 y149 x26_1).f0), .int .i64 ((rd_T44 y149 x26_1).f1)] 44 (0, 0)) (by (with_reducible repeat (first | refine blk_drewN ?_ _ | refine blk_drew ?_ | refine blk_alloc ?_ _)); exact BK153.out) hg (Kd.R_ne HO166.out BK153.out (by decide))); have n2_ := Aside0.mk (hp_); have n3_ := Aside0.mk ((by rw [hw]; exact below_set (HB.out) GB55.out : Below w.heap.size w w61)); clear HO_24; clear BK153; clear HO166; clear HB; have HO_24 := n0_; have BK153 := n1_; have HO166 := n2_; have HB := n3_; clear n0_ n1_ n2_ n3_; clear hg hw hp_; have hcz62_0 : w61.cell? ⟨gb153, 0, none⟩ = some (.int .i64 ((rd_T44 y149 x26_1).f0)) := (blk_cell BK153.out 0).trans rfl; have hcz62_1 : w61.cell? ⟨gb153, 1, none⟩ = some (.int .i64 ((rd_T44 y149 x26_1).f1)) := (blk_cell BK153.out 1).trans rfl; have hfz62_0 := blk_frozen BK153.out 0; have hfz62_1 := blk_frozen BK153.out 1))
                    repeat (go_quiet (first | ((with_reducible refine gate_builtin (b := .append) (xs := #[.tmp 83, .tmp 85]) rfl ?_); at_builtin; refine Kd.R_append k42 (w0 := w) w.heap.size rfl (.tmp 83) (.tmp 85) 26 42 (.agg #[(.int .i64 0), (.int .i64 0), (.int .i64 0)]) 24 rfl Tryd.underlying26 info42 rfl (by decide) (by omega) (.slice Ao57 x5_22.length co57) x5_22 (⟨0, 0, 0⟩ : S42) [.int .i64 0, .int .i64 0, .int .i64 0] (fun _ => True) (fun _ => False) rfl rfl ?aP (fun _ hk => hk.elim) ?aF ?aO ?aB ?aS ?aL ?_; (case aP => exact k42_mkM _ _ _ (⟨0, 0, 0⟩ : S42)); (case aB => exact (by repeat (first | (with_reducible first | exact HB.out | apply below_alloc | apply pw_below_drewN | apply below_drew1 | refine below_set ?_ GE153.out) | exact HB.out))); (case aF => exact (fun _ _ => trivial)); (case aO => exact (by (with_reducible repeat (first | apply Kd.R_alloc | apply Kd.R_drewN | apply Kd.R_drew)); exact HO_5.out)); (case aS => exact (below_size (by repeat (first | (with_reducible first | exact HB.out | apply below_alloc | apply pw_below_drewN | apply below_drew1 | refine below_set ?_ GE153.out) | exact HB.out)))); (case aL => have := LMc51.out; omega); intro v165 w58 ho hb hg hat; rw [← Ny164.out] at ho; have n0_ := Aside0.mk (Kd.R_over' (by (with_reducible repeat (first | apply Kd.R_alloc | apply Kd.R_drewN | apply Kd.R_drew)); exact HO_24.out) (Kd.R_typed (by (with_reducible repeat (first | apply Kd.R_alloc | apply Kd.R_drewN | apply Kd.R_drew)); exact HO_5.out)) (by decide) hg); have n1_ := Aside0.mk (blk_grown (g := gb153) (o := .cells #[.int .i64 ((rd_T44 y149 x26_1).f0), .int .i64 ((rd_T44 y149 x26_1).f1)] 44 (0, 0)) (by (with_reducible repeat (first | refine blk_drewN ?_ _ | refine blk_drew ?_ | refine blk_alloc ?_ _)); exact BK153.out) hg (Kd.R_ne HO_5.out BK153.out (by decide))); have n2_ := Aside0.mk (hb); have n3_ := Aside0.mk (ho); clear HO_24; clear BK153; clear HB; clear HO_5; have HO_24 := n0_; have BK153 := n1_; have HB := n2_; have HO166 := n3_; clear n0_ n1_ n2_ n3_; clear ho hb hg hat; obtain ⟨Ao59, co59, eo59⟩ := Kd.R_slice HO166.out; subst eo59; have p167 : 0 ≤ ((ji52) : Int) := of_decide_eq_true (by assumption); have q167 : (ji52) < (y164.length : Int) := of_decide_eq_true (by assumption); obtain ⟨ad167, e167, hx167_0, hx167_1, hx167_2⟩ := at_T42 (Kd.R_reads' HO166.out).2.2 (ji52) p167 q167; cases e167; replace p167 := eq_true p167; replace q167 := eq_true q167; have p55 : 0 ≤ ((ji52) : Int) := of_decide_eq_true (by assumption); have q55 : ((ji52) : Int) < ((y164.length : Int) : Int) := of_decide_eq_true (by assumption); obtain ⟨go55, co55, eo55, gb55, gl55, cl55, HG55⟩ := Kd.R_form HO166.out (by omega); (first | cases eo55 | (injection eo55 with ea_ en_ ec_; (first | subst ea_ | (injection ea_ with ea_; subst ea_)); subst ec_; clear en_)); have GB55 := Aside0.mk gb55; have GG55 := Aside0.mk HG55; clear gb55 gl55 HG55; (first | simp only [add_plain] at hx167_0 | skip); (first | simp only [add_plain] at hx167_1 | skip); (first | simp only [add_plain] at hx167_2 | skip); obtain ⟨ce55, hcl55, hM55, hcc55, hfr55⟩ := Kd.R_elem HO166.out z42 ((ji52) : Int) p55 q55; obtain rfl := k42_openM hM55; have hx55_0 : w58.cell? ⟨go55, ((ji52) : Int).toNat * 3, none⟩ = some (.int .i64 ((rd_T42 y164 (ji52)).f0)) := hcc55 0 _ rfl; have hx55_1 : w58.cell? ⟨go55, ((ji52) : Int).toNat * 3 + 1, none⟩ = some (.int .i64 ((rd_T42 y164 (ji52)).f1)) := hcc55 1 _ rfl; have hx55_2 : w58.cell? ⟨go55, ((ji52) : Int).toNat * 3 + 2, none⟩ = some (.int .i64 ((rd_T42 y164 (ji52)).f2)) := hcc55 2 _ rfl; have hf55_0 : w58.frozen? ⟨go55, ((ji52) : Int).toNat * 3, none⟩ = false := hfr55 0; have hf55_1 : w58.frozen? ⟨go55, ((ji52) : Int).toNat * 3 + 1, none⟩ = false := hfr55 1; have hf55_2 : w58.frozen? ⟨go55, ((ji52) : Int).toNat * 3 + 2, none⟩ = false := hfr55 2; (try clear hcl55); (try clear hcc55); (try clear hfr55); (try clear hM55); replace p55 := eq_true p55; replace q55 := eq_true q55; have HX60 := Aside0.mk (show Kd.R k42 42 w58 w.heap.size (fun _ => True) (.slice (some ⟨go55, 0, none⟩) y164.length co59) y164 from (by (with_reducible repeat (first | apply Kd.R_alloc | apply Kd.R_drewN | apply Kd.R_drew)); exact HO166.out)); obtain ⟨ce60, hcl60, hM60, hcc60, hfr60⟩ := Kd.R_elem HX60.out z42 ((ji52) : Int) (of_decide_eq_true (by assumption)) (by have h_ : ((ji52) : Int) < ((y164.length : Int) : Int) := of_decide_eq_true (by assumption); first | exact h_ | (have e_ := (Kd.R_reads' HO166.out).1; omega) | simpa using h_); obtain rfl := k42_openM hM60; have HP60 := Kd.R_seg HX60.out ((ji52) : Int) (of_decide_eq_true (by assumption)) (by have h_ : ((ji52) : Int) < ((y164.length : Int) : Int) := of_decide_eq_true (by assumption); first | exact h_ | (have e_ := (Kd.R_reads' HO166.out).1; omega) | simpa using h_) (seg := [.int .i64 (wrap64 (((rd_T42 y164 (ji52)).f0) + 1))]) (j := 0) hcl60 hcc60 (show 1 ≤ 3 from by decide) (x' := (⟨wrap64 (((rd_T42 y164 (ji52)).f0) + 1), (rd_T42 y164 (ji52)).f1, (rd_T42 y164 (ji52)).f2⟩ : S42)) (k42_mkM _ _ _ (⟨wrap64 (((rd_T42 y164 (ji52)).f0) + 1), (rd_T42 y164 (ji52)).f1, (rd_T42 y164 (ji52)).f2⟩ : S42) ) (fun _ hk => hk); have hx60_0 := hcc60 0 _ rfl; (try simp only [show (k42).sz = 3 from rfl, Nat.mul_one, Nat.add_zero] at hx60_0); have hf60_0 := hfr60 0; (try simp only [show (k42).sz = 3 from rfl, Nat.mul_one, Nat.add_zero] at hf60_0); (try clear hcl60); (try clear hcc60); (try clear hfr60); (try clear hM60)) | ((with_reducible refine gate_store (t := 3) (p := 96) rfl ?_); (try (rw [drewN_self w58]; generalize hq_ : World.drewN w58 _ = w58; have n0_ := Aside0.mk (Kd.R_at hq_ HO_24.out); have n1_ := Aside0.mk (Kd.R_at hq_ HO166.out); have n2_ := Aside0.mk (blk_at hq_ BK153.out); have n3_ := Aside0.mk (below_at hq_ HB.out); clear hq_ HO_24 HO166 BK153 HB; have HO_24 := n0_; have HO166 := n1_; have BK153 := n2_; have HB := n3_; clear n0_ n1_ n2_ n3_; (try (have HX60 := Aside0.mk (show Kd.R k42 42 w58 w.heap.size (fun _ => True) (.slice (some ⟨go55, 0, none⟩) y164.length co59) y164 from (by (with_reducible repeat (first | apply Kd.R_alloc | apply Kd.R_drewN | apply Kd.R_drew)); exact HO166.out)))); (try (obtain ⟨ce60, hcl60, hM60, hcc60, hfr60⟩ := Kd.R_elem HX60.out z42 ((ji52) : Int) (of_decide_eq_true (by assumption)) (by have h_ : ((ji52) : Int) < ((y164.length : Int) : Int) := of_decide_eq_true (by assumption); first | exact h_ | (have e_ := (Kd.R_reads' HO166.out).1; omega) | simpa using h_))); (try (obtain rfl := k42_openM hM60)); (try (have HP60 := Kd.R_seg HX60.out ((ji52) : Int) (of_decide_eq_true (by assumption)) (by have h_ : ((ji52) : Int) < ((y164.length : Int) : Int) := of_decide_eq_true (by assumption); first | exact h_ | (have e_ := (Kd.R_reads' HO166.out).1; omega) | simpa using h_) (seg := [.int .i64 (wrap64 (((rd_T42 y164 (ji52)).f0) + 1))]) (j := 0) hcl60 hcc60 (show 1 ≤ 3 from by decide) (x' := (⟨wrap64 (((rd_T42 y164 (ji52)).f0) + 1), (rd_T42 y164 (ji52)).f1, (rd_T42 y164 (ji52)).f2⟩ : S42)) (k42_mkM _ _ _ (⟨wrap64 (((rd_T42 y164 (ji52)).f0) + 1), (rd_T42 y164 (ji52)).f1, (rd_T42 y164 (ji52)).f2⟩ : S42) ) (fun _ hk => hk))); (try (have hx60_0 := hcc60 0 _ rfl)); (try (try simp only [show (k42).sz = 3 from rfl, Nat.mul_one, Nat.add_zero] at hx60_0)); (try (have hf60_0 := hfr60 0)); (try (try simp only [show (k42).sz = 3 from rfl, Nat.mul_one, Nat.add_zero] at hf60_0)); (try ((try clear hcl60); (try clear hcc60); (try clear hfr60); (try clear hM60))))); refine store_event (t := 3) (p := 96) (v := ?vo_w61) (w1 := (w58.setCell ⟨go55, ((ji52) : Int).toNat * 3, none⟩ (.int .i64 (wrap64 (((rd_T42 y164 (ji52)).f0) + 1))))) ?hg ?ho ?hn ?hr ?_; (case ho => rfl); (case hg => rfl); (case hn => rfl); (case hr => first | (go_simp; done) | (go_simp; rfl) | (obtain ⟨A_, c_, e_⟩ := Kd.R_slice (HO166.out); rw [e_]; first | (go_simp; done) | (go_simp; rfl))); intro w61 hw; have hg : w58.grownBy w61 (some go55) := (by rw [hw]; exact HP60.2); have hp_ : Kd.R k42 42 w61 w.heap.size (fun _ => True) (.slice (some ⟨go55, 0, none⟩) y164.length co59) y168 := (by rw [hw, Ny168.out]; exact HP60.1); clear HP60; have n0_ := Aside0.mk (Kd.R_over' (v := (.slice (some ⟨go55, 0, none⟩) y164.length co59)) (by (with_reducible repeat (first | apply Kd.R_alloc | apply Kd.R_drewN | apply Kd.R_drew)); exact HO_24.out) (Kd.R_typed HO166.out) (by decide) hg); have n1_ := Aside0.mk (blk_grown (g := gb153) (o := .cells #[.int .i64 ((rd_T44 y149 x26_1).f0), .int .i64 ((rd_T44 y149 x26_1).f1)] 44 (0, 0)) (by (with_reducible repeat (first | refine blk_drewN ?_ _ | refine blk_drew ?_ | refine blk_alloc ?_ _)); exact BK153.out) hg (Kd.R_ne HO166.out BK153.out (by decide))); have n2_ := Aside0.mk (hp_); have n3_ := Aside0.mk ((by rw [hw]; exact below_set (HB.out) GB55.out : Below w.heap.size w w61)); clear HO_24; clear BK153; clear HO166; clear HB; have HO_24 := n0_; have BK153 := n1_; have HO166 := n2_; have HB := n3_; clear n0_ n1_ n2_ n3_; clear hg hw hp_; have hcz62_0 : w61.cell? ⟨gb153, 0, none⟩ = some (.int .i64 ((rd_T44 y149 x26_1).f0)) := (blk_cell BK153.out 0).trans rfl; have hcz62_1 : w61.cell? ⟨gb153, 1, none⟩ = some (.int .i64 ((rd_T44 y149 x26_1).f1)) := (blk_cell BK153.out 1).trans rfl; have hfz62_0 := blk_frozen BK153.out 0; have hfz62_1 := blk_frozen BK153.out 1)); try go_wp2_with (first | ((with_reducible refine gate_builtin (b := .append) (xs := #[.tmp 83, .tmp 85]) rfl ?_); at_builtin; refine Kd.R_append k42 (w0 := w) w.heap.size rfl (.tmp 83) (.tmp 85) 26 42 (.agg #[(.int .i64 0), (.int .i64 0), (.int .i64 0)]) 24 rfl Tryd.underlying26 info42 rfl (by decide) (by omega) (.slice Ao57 x5_22.length co57) x5_22 (⟨0, 0, 0⟩ : S42) [.int .i64 0, .int .i64 0, .int .i64 0] (fun _ => True) (fun _ => False) rfl rfl ?aP (fun _ hk => hk.elim) ?aF ?aO ?aB ?aS ?aL ?_; (case aP => exact k42_mkM _ _ _ (⟨0, 0, 0⟩ : S42)); (case aB => exact (by repeat (first | (with_reducible first | exact HB.out | apply below_alloc | apply pw_below_drewN | apply below_drew1 | refine below_set ?_ GE153.out) | exact HB.out))); (case aF => exact (fun _ _ => trivial)); (case aO => exact (by (with_reducible repeat (first | apply Kd.R_alloc | apply Kd.R_drewN | apply Kd.R_drew)); exact HO_5.out)); (case aS => exact (below_size (by repeat (first | (with_reducible first | exact HB.out | apply below_alloc | apply pw_below_drewN | apply below_drew1 | refine below_set ?_ GE153.out) | exact HB.out)))); (case aL => have := LMc51.out; omega); intro v165 w58 ho hb hg hat; rw [← Ny164.out] at ho; have n0_ := Aside0.mk (Kd.R_over' (by (with_reducible repeat (first | apply Kd.R_alloc | apply Kd.R_drewN | apply Kd.R_drew)); exact HO_24.out) (Kd.R_typed (by (with_reducible repeat (first | apply Kd.R_alloc | apply Kd.R_drewN | apply Kd.R_drew)); exact HO_5.out)) (by decide) hg); have n1_ := Aside0.mk (blk_grown (g := gb153) (o := .cells #[.int .i64 ((rd_T44 y149 x26_1).f0), .int .i64 ((rd_T44 y149 x26_1).f1)] 44 (0, 0)) (by (with_reducible repeat (first | refine blk_drewN ?_ _ | refine blk_drew ?_ | refine blk_alloc ?_ _)); exact BK153.out) hg (Kd.R_ne HO_5.out BK153.out (by decide))); have n2_ := Aside0.mk (hb); have n3_ := Aside0.mk (ho); clear HO_24; clear BK153; clear HB; clear HO_5; have HO_24 := n0_; have BK153 := n1_; have HB := n2_; have HO166 := n3_; clear n0_ n1_ n2_ n3_; clear ho hb hg hat; obtain ⟨Ao59, co59, eo59⟩ := Kd.R_slice HO166.out; subst eo59; have p167 : 0 ≤ ((ji52) : Int) := of_decide_eq_true (by assumption); have q167 : (ji52) < (y164.length : Int) := of_decide_eq_true (by assumption); obtain ⟨ad167, e167, hx167_0, hx167_1, hx167_2⟩ := at_T42 (Kd.R_reads' HO166.out).2.2 (ji52) p167 q167; cases e167; replace p167 := eq_true p167; replace q167 := eq_true q167; have p55 : 0 ≤ ((ji52) : Int) := of_decide_eq_true (by assumption); have q55 : ((ji52) : Int) < ((y164.length : Int) : Int) := of_decide_eq_true (by assumption); obtain ⟨go55, co55, eo55, gb55, gl55, cl55, HG55⟩ := Kd.R_form HO166.out (by omega); (first | cases eo55 | (injection eo55 with ea_ en_ ec_; (first | subst ea_ | (injection ea_ with ea_; subst ea_)); subst ec_; clear en_)); have GB55 := Aside0.mk gb55; have GG55 := Aside0.mk HG55; clear gb55 gl55 HG55; (first | simp only [add_plain] at hx167_0 | skip); (first | simp only [add_plain] at hx167_1 | skip); (first | simp only [add_plain] at hx167_2 | skip); obtain ⟨ce55, hcl55, hM55, hcc55, hfr55⟩ := Kd.R_elem HO166.out z42 ((ji52) : Int) p55 q55; obtain rfl := k42_openM hM55; have hx55_0 : w58.cell? ⟨go55, ((ji52) : Int).toNat * 3, none⟩ = some (.int .i64 ((rd_T42 y164 (ji52)).f0)) := hcc55 0 _ rfl; have hx55_1 : w58.cell? ⟨go55, ((ji52) : Int).toNat * 3 + 1, none⟩ = some (.int .i64 ((rd_T42 y164 (ji52)).f1)) := hcc55 1 _ rfl; have hx55_2 : w58.cell? ⟨go55, ((ji52) : Int).toNat * 3 + 2, none⟩ = some (.int .i64 ((rd_T42 y164 (ji52)).f2)) := hcc55 2 _ rfl; have hf55_0 : w58.frozen? ⟨go55, ((ji52) : Int).toNat * 3, none⟩ = false := hfr55 0; have hf55_1 : w58.frozen? ⟨go55, ((ji52) : Int).toNat * 3 + 1, none⟩ = false := hfr55 1; have hf55_2 : w58.frozen? ⟨go55, ((ji52) : Int).toNat * 3 + 2, none⟩ = false := hfr55 2; (try clear hcl55); (try clear hcc55); (try clear hfr55); (try clear hM55); replace p55 := eq_true p55; replace q55 := eq_true q55; have HX60 := Aside0.mk (show Kd.R k42 42 w58 w.heap.size (fun _ => True) (.slice (some ⟨go55, 0, none⟩) y164.length co59) y164 from (by (with_reducible repeat (first | apply Kd.R_alloc | apply Kd.R_drewN | apply Kd.R_drew)); exact HO166.out)); obtain ⟨ce60, hcl60, hM60, hcc60, hfr60⟩ := Kd.R_elem HX60.out z42 ((ji52) : Int) (of_decide_eq_true (by assumption)) (by have h_ : ((ji52) : Int) < ((y164.length : Int) : Int) := of_decide_eq_true (by assumption); first | exact h_ | (have e_ := (Kd.R_reads' HO166.out).1; omega) | simpa using h_); obtain rfl := k42_openM hM60; have HP60 := Kd.R_seg HX60.out ((ji52) : Int) (of_decide_eq_true (by assumption)) (by have h_ : ((ji52) : Int) < ((y164.length : Int) : Int) := of_decide_eq_true (by assumption); first | exact h_ | (have e_ := (Kd.R_reads' HO166.out).1; omega) | simpa using h_) (seg := [.int .i64 (wrap64 (((rd_T42 y164 (ji52)).f0) + 1))]) (j := 0) hcl60 hcc60 (show 1 ≤ 3 from by decide) (x' := (⟨wrap64 (((rd_T42 y164 (ji52)).f0) + 1), (rd_T42 y164 (ji52)).f1, (rd_T42 y164 (ji52)).f2⟩ : S42)) (k42_mkM _ _ _ (⟨wrap64 (((rd_T42 y164 (ji52)).f0) + 1), (rd_T42 y164 (ji52)).f1, (rd_T42 y164 (ji52)).f2⟩ : S42) ) (fun _ hk => hk); have hx60_0 := hcc60 0 _ rfl; (try simp only [show (k42).sz = 3 from rfl, Nat.mul_one, Nat.add_zero] at hx60_0); have hf60_0 := hfr60 0; (try simp only [show (k42).sz = 3 from rfl, Nat.mul_one, Nat.add_zero] at hf60_0); (try clear hcl60); (try clear hcc60); (try clear hfr60); (try clear hM60)) | ((with_reducible refine gate_store (t := 3) (p := 96) rfl ?_); (try (rw [drewN_self w58]; generalize hq_ : World.drewN w58 _ = w58; have n0_ := Aside0.mk (Kd.R_at hq_ HO_24.out); have n1_ := Aside0.mk (Kd.R_at hq_ HO166.out); have n2_ := Aside0.mk (blk_at hq_ BK153.out); have n3_ := Aside0.mk (below_at hq_ HB.out); clear hq_ HO_24 HO166 BK153 HB; have HO_24 := n0_; have HO166 := n1_; have BK153 := n2_; have HB := n3_; clear n0_ n1_ n2_ n3_; (try (have HX60 := Aside0.mk (show Kd.R k42 42 w58 w.heap.size (fun _ => True) (.slice (some ⟨go55, 0, none⟩) y164.length co59) y164 from (by (with_reducible repeat (first | apply Kd.R_alloc | apply Kd.R_drewN | apply Kd.R_drew)); exact HO166.out)))); (try (obtain ⟨ce60, hcl60, hM60, hcc60, hfr60⟩ := Kd.R_elem HX60.out z42 ((ji52) : Int) (of_decide_eq_true (by assumption)) (by have h_ : ((ji52) : Int) < ((y164.length : Int) : Int) := of_decide_eq_true (by assumption); first | exact h_ | (have e_ := (Kd.R_reads' HO166.out).1; omega) | simpa using h_))); (try (obtain rfl := k42_openM hM60)); (try (have HP60 := Kd.R_seg HX60.out ((ji52) : Int) (of_decide_eq_true (by assumption)) (by have h_ : ((ji52) : Int) < ((y164.length : Int) : Int) := of_decide_eq_true (by assumption); first | exact h_ | (have e_ := (Kd.R_reads' HO166.out).1; omega) | simpa using h_) (seg := [.int .i64 (wrap64 (((rd_T42 y164 (ji52)).f0) + 1))]) (j := 0) hcl60 hcc60 (show 1 ≤ 3 from by decide) (x' := (⟨wrap64 (((rd_T42 y164 (ji52)).f0) + 1), (rd_T42 y164 (ji52)).f1, (rd_T42 y164 (ji52)).f2⟩ : S42)) (k42_mkM _ _ _ (⟨wrap64 (((rd_T42 y164 (ji52)).f0) + 1), (rd_T42 y164 (ji52)).f1, (rd_T42 y164 (ji52)).f2⟩ : S42) ) (fun _ hk => hk))); (try (have hx60_0 := hcc60 0 _ rfl)); (try (try simp only [show (k42).sz = 3 from rfl, Nat.mul_one, Nat.add_zero] at hx60_0)); (try (have hf60_0 := hfr60 0)); (try (try simp only [show (k42).sz = 3 from rfl, Nat.mul_one, Nat.add_zero] at hf60_0)); (try ((try clear hcl60); (try clear hcc60); (try clear hfr60); (try clear hM60))))); refine store_event (t := 3) (p := 96) (v := ?vo_w61) (w1 := (w58.setCell ⟨go55, ((ji52) : Int).toNat * 3, none⟩ (.int .i64 (wrap64 (((rd_T42 y164 (ji52)).f0) + 1))))) ?hg ?ho ?hn ?hr ?_; (case ho => rfl); (case hg => rfl); (case hn => rfl); (case hr => first | (go_simp; done) | (go_simp; rfl) | (obtain ⟨A_, c_, e_⟩ := Kd.R_slice (HO166.out); rw [e_]; first | (go_simp; done) | (go_simp; rfl))); intro w61 hw; have hg : w58.grownBy w61 (some go55) := (by rw [hw]; exact HP60.2); have hp_ : Kd.R k42 42 w61 w.heap.size (fun _ => True) (.slice (some ⟨go55, 0, none⟩) y164.length co59) y168 := (by rw [hw, Ny168.out]; exact HP60.1); clear HP60; have n0_ := Aside0.mk (Kd.R_over' (v := (.slice (some ⟨go55, 0, none⟩) y164.length co59)) (by (with_reducible repeat (first | apply Kd.R_alloc | apply Kd.R_drewN | apply Kd.R_drew)); exact HO_24.out) (Kd.R_typed HO166.out) (by decide) hg); have n1_ := Aside0.mk (blk_grown (g := gb153) (o := .cells #[.int .i64 ((rd_T44 y149 x26_1).f0), .int .i64 ((rd_T44 y149 x26_1).f1)] 44 (0, 0)) (by (with_reducible repeat (first | refine blk_drewN ?_ _ | refine blk_drew ?_ | refine blk_alloc ?_ _)); exact BK153.out) hg (Kd.R_ne HO166.out BK153.out (by decide))); have n2_ := Aside0.mk (hp_); have n3_ := Aside0.mk ((by rw [hw]; exact below_set (HB.out) GB55.out : Below w.heap.size w w61)); clear HO_24; clear BK153; clear HO166; clear HB; have HO_24 := n0_; have BK153 := n1_; have HO166 := n2_; have HB := n3_; clear n0_ n1_ n2_ n3_; clear hg hw hp_; have hcz62_0 : w61.cell? ⟨gb153, 0, none⟩ = some (.int .i64 ((rd_T44 y149 x26_1).f0)) := (blk_cell BK153.out 0).trans rfl; have hcz62_1 : w61.cell? ⟨gb153, 1, none⟩ = some (.int .i64 ((rd_T44 y149 x26_1).f1)) := (blk_cell BK153.out 1).trans rfl; have hfz62_0 := blk_frozen BK153.out 0; have hfz62_1 := blk_frozen BK153.out 1)))
                    go_roundg kj22
                    case measure => have := HK1.out; have := HJ12.out; have := HJ18.out; have := HJ22.out; omega
                    case rel => exact ⟨(y168), (wrap64 (((rd_T44 y149 x26_1).f0) + 1)), (wrap64 (((rd_T44 y149 x26_1).f1) + 1)), (wrap64 (x26_1 + 1)), (by first | rfl | (simp; done) | (simp [*]; done)), (by first | rfl | (simp; done) | (simp [*]; done)), (by first | rfl | (simp; done) | (simp [*]; done)), H', ⟨by have := HK1.out; have := HJ12.out; have := HJ18.out; have := HJ22.out; omega⟩, ⟨by (with_reducible repeat (first | apply Kd.R_alloc | apply Kd.R_drewN | apply Kd.R_drew)); exact HO166.out⟩, ⟨by (with_reducible repeat (first | apply Kd.R_alloc | apply Kd.R_drewN | apply Kd.R_drew)); exact Kd.R_mono HO_24.out (fun _ hk => trivial)⟩, ⟨by repeat (first | (with_reducible first | exact HB.out | apply below_alloc | apply pw_below_drewN | apply below_drew1 | refine below_set ?_ GE153.out) | exact HB.out)⟩⟩
                   ·rw [if_neg c54] at H
                    exact absurd H (by simp)
                  ·rw [if_neg c53] at H
                   exact absurd H (by simp)
                 ·rw [if_neg c51] at H
                  exact absurd H (by simp)
                ·rw [if_neg c50] at H
                 have c50b0 : decide (0 < (wrap64 ((wrap64 (((rd_T44 y149 x26_1).f0) - x6_1)) + (wrap64 (((rd_T44 y149 x26_1).f1) - x7_1))))) = false := decide_eq_false c50
                 clear c50
                 obtain ⟨ji63, hji63⟩ : ∃ j_ : Int, (wrap64 ((x5_22.length : Int) - 1)) = j_ := ⟨_, rfl⟩
                 replace H : (if 0 ≤ (ji63) then (if (ji63) < (x5_22.length : Int) then (diff_Steps_string.l0 kj22 l0 (x5_22.set ((ji63) : Int).toNat (⟨wrap64 (((rd_T42 x5_22 (ji63)).f0) + 1), (rd_T42 x5_22 (ji63)).f1, (rd_T42 x5_22 (ji63)).f2⟩ : S42)) (wrap64 (((rd_T44 y149 x26_1).f0) + 1)) (wrap64 (((rd_T44 y149 x26_1).f1) + 1)) y149 (y149.length : Int) (wrap64 (x26_1 + 1))) else (none)) else (none)) = some r := by first | (rw [hji63] at H; exact H) | (simp only [hji63] at H ⊢; exact H)
                 have hji63w : (IntKind.i64.wrap ((x5_22.length : Int) - 1)) = ji63 := (i64_w _).trans hji63
                 by_cases c64 : 0 ≤ (ji63)
                 ·rw [if_pos c64] at H
                  have c64b0 : decide (0 ≤ (ji63)) = true := decide_eq_true c64
                  clear c64
                  by_cases c65 : (ji63) < (x5_22.length : Int)
                  ·rw [if_pos c65] at H
                   have c65b0 : decide ((ji63) < (x5_22.length : Int)) = true := decide_eq_true c65
                   clear c65
                   obtain ⟨y170, hy170⟩ : ∃ y_ : List (S42), y_ = (x5_22.set ((ji63) : Int).toNat (⟨wrap64 (((rd_T42 x5_22 (ji63)).f0) + 1), (rd_T42 x5_22 (ji63)).f1, (rd_T42 x5_22 (ji63)).f2⟩ : S42)) := ⟨_, rfl⟩
                   replace H : (diff_Steps_string.l0 kj22 l0 y170 (wrap64 (((rd_T44 y149 x26_1).f0) + 1)) (wrap64 (((rd_T44 y149 x26_1).f1) + 1)) y149 (y149.length : Int) (wrap64 (x26_1 + 1))) = some r := by first | (rw [hy170]; with_reducible exact H) | (have H2_ := (Option.bind_some _ _).symm.trans H; rw [hy170]; with_reducible exact H2_) | (have H2_ := (Option.bind_some _ _).symm.trans H; with_reducible exact H2_) | with_reducible exact H | (rw [hy170]; exact H) | exact H
                   have Ny170 := Aside0.mk hy170
                   clear hy170
                   have H' := Aside0.mk H
                   clear H
                   have hcz67_0 : wc.cell? ⟨gb153, 0, none⟩ = some (.int .i64 ((rd_T44 y149 x26_1).f0)) := (blk_cell BK153.out 0).trans rfl
                   have hcz67_1 : wc.cell? ⟨gb153, 1, none⟩ = some (.int .i64 ((rd_T44 y149 x26_1).f1)) := (blk_cell BK153.out 1).trans rfl
                   have hfz67_0 := blk_frozen BK153.out 0
                   have hfz67_1 := blk_frozen BK153.out 1
                   obtain ⟨Ao68, co68, eo68⟩ := Kd.R_slice HO_5.out
                   subst eo68
                   have p169 : 0 ≤ ((ji63) : Int) := of_decide_eq_true (by assumption)
                   have q169 : (ji63) < (x5_22.length : Int) := of_decide_eq_true (by assumption)
                   obtain ⟨ad169, e169, hx169_0, hx169_1, hx169_2⟩ := at_T42 (Kd.R_reads' HO_5.out).2.2 (ji63) p169 q169
                   cases e169
                   replace p169 := eq_true p169
                   replace q169 := eq_true q169
                   have p66 : 0 ≤ ((ji63) : Int) := of_decide_eq_true (by assumption)
                   have q66 : ((ji63) : Int) < ((x5_22.length : Int) : Int) := of_decide_eq_true (by assumption)
                   obtain ⟨go66, co66, eo66, gb66, gl66, cl66, HG66⟩ := Kd.R_form HO_5.out (by omega)
                   (first | cases eo66 | (injection eo66 with ea_ en_ ec_; (first | subst ea_ | (injection ea_ with ea_; subst ea_)); subst ec_; clear en_))
                   have GB66 := Aside0.mk gb66
                   have GG66 := Aside0.mk HG66
                   clear gb66 gl66 HG66
                   (first | simp only [add_plain] at hx169_0 | skip)
                   (first | simp only [add_plain] at hx169_1 | skip)
                   (first | simp only [add_plain] at hx169_2 | skip)
                   obtain ⟨ce66, hcl66, hM66, hcc66, hfr66⟩ := Kd.R_elem HO_5.out z42 ((ji63) : Int) p66 q66
                   obtain rfl := k42_openM hM66
                   have hx66_0 : wc.cell? ⟨go66, ((ji63) : Int).toNat * 3, none⟩ = some (.int .i64 ((rd_T42 x5_22 (ji63)).f0)) := hcc66 0 _ rfl
                   have hx66_1 : wc.cell? ⟨go66, ((ji63) : Int).toNat * 3 + 1, none⟩ = some (.int .i64 ((rd_T42 x5_22 (ji63)).f1)) := hcc66 1 _ rfl
                   have hx66_2 : wc.cell? ⟨go66, ((ji63) : Int).toNat * 3 + 2, none⟩ = some (.int .i64 ((rd_T42 x5_22 (ji63)).f2)) := hcc66 2 _ rfl
                   have hf66_0 : wc.frozen? ⟨go66, ((ji63) : Int).toNat * 3, none⟩ = false := hfr66 0
                   have hf66_1 : wc.frozen? ⟨go66, ((ji63) : Int).toNat * 3 + 1, none⟩ = false := hfr66 1
                   have hf66_2 : wc.frozen? ⟨go66, ((ji63) : Int).toNat * 3 + 2, none⟩ = false := hfr66 2
                   (try clear hcl66); (try clear hcc66); (try clear hfr66); (try clear hM66)
                   replace p66 := eq_true p66
                   replace q66 := eq_true q66
                   have HX69 := Aside0.mk (show Kd.R k42 42 wc w.heap.size (fun _ => True) (.slice (some ⟨go66, 0, none⟩) x5_22.length co68) x5_22 from (by (with_reducible repeat (first | apply Kd.R_alloc | apply Kd.R_drewN | apply Kd.R_drew)); exact HO_5.out))
                   obtain ⟨ce69, hcl69, hM69, hcc69, hfr69⟩ := Kd.R_elem HX69.out z42 ((ji63) : Int) (of_decide_eq_true (by assumption)) (by have h_ : ((ji63) : Int) < ((x5_22.length : Int) : Int) := of_decide_eq_true (by assumption); first | exact h_ | (have e_ := (Kd.R_reads' HO_5.out).1; omega) | simpa using h_)
                   obtain rfl := k42_openM hM69
                   have HP69 := Kd.R_seg HX69.out ((ji63) : Int) (of_decide_eq_true (by assumption)) (by have h_ : ((ji63) : Int) < ((x5_22.length : Int) : Int) := of_decide_eq_true (by assumption); first | exact h_ | (have e_ := (Kd.R_reads' HO_5.out).1; omega) | simpa using h_) (seg := [.int .i64 (wrap64 (((rd_T42 x5_22 (ji63)).f0) + 1))]) (j := 0) hcl69 hcc69 (show 1 ≤ 3 from by decide) (x' := (⟨wrap64 (((rd_T42 x5_22 (ji63)).f0) + 1), (rd_T42 x5_22 (ji63)).f1, (rd_T42 x5_22 (ji63)).f2⟩ : S42)) (k42_mkM _ _ _ (⟨wrap64 (((rd_T42 x5_22 (ji63)).f0) + 1), (rd_T42 x5_22 (ji63)).f1, (rd_T42 x5_22 (ji63)).f2⟩ : S42) ) (fun _ hk => hk)
                   have hx69_0 := hcc69 0 _ rfl
                   (try simp only [show (k42).sz = 3 from rfl, Nat.mul_one, Nat.add_zero] at hx69_0)
                   have hf69_0 := hfr69 0
                   (try simp only [show (k42).sz = 3 from rfl, Nat.mul_one, Nat.add_zero] at hf69_0)
                   (try clear hcl69); (try clear hcc69); (try clear hfr69); (try clear hM69)
                   go_wp2_with (first | ((with_reducible refine gate_store (t := 3) (p := 96) rfl ?_); (try (rw [drewN_self wc]; generalize hq_ : World.drewN wc _ = wc; have n0_ := Aside0.mk (Kd.R_at hq_ HO_5.out); have n1_ := Aside0.mk (Kd.R_at hq_ HO_24.out); have n2_ := Aside0.mk (blk_at hq_ BK153.out); have n3_ := Aside0.mk (below_at hq_ HB.out); clear hq_ HO_5 HO_24 BK153 HB; have HO_5 := n0_; have HO_24 := n1_; have BK153 := n2_; have HB := n3_; clear n0_ n1_ n2_ n3_; (try (have HX69 := Aside0.mk (show Kd.R k42 42 wc w.heap.size (fun _ => True) (.slice (some ⟨go66, 0, none⟩) x5_22.length co68) x5_22 from (by (with_reducible repeat (first | apply Kd.R_alloc | apply Kd.R_drewN | apply Kd.R_drew)); exact HO_5.out)))); (try (obtain ⟨ce69, hcl69, hM69, hcc69, hfr69⟩ := Kd.R_elem HX69.out z42 ((ji63) : Int) (of_decide_eq_true (by assumption)) (by have h_ : ((ji63) : Int) < ((x5_22.length : Int) : Int) := of_decide_eq_true (by assumption); first | exact h_ | (have e_ := (Kd.R_reads' HO_5.out).1; omega) | simpa using h_))); (try (obtain rfl := k42_openM hM69)); (try (have HP69 := Kd.R_seg HX69.out ((ji63) : Int) (of_decide_eq_true (by assumption)) (by have h_ : ((ji63) : Int) < ((x5_22.length : Int) : Int) := of_decide_eq_true (by assumption); first | exact h_ | (have e_ := (Kd.R_reads' HO_5.out).1; omega) | simpa using h_) (seg := [.int .i64 (wrap64 (((rd_T42 x5_22 (ji63)).f0) + 1))]) (j := 0) hcl69 hcc69 (show 1 ≤ 3 from by decide) (x' := (⟨wrap64 (((rd_T42 x5_22 (ji63)).f0) + 1), (rd_T42 x5_22 (ji63)).f1, (rd_T42 x5_22 (ji63)).f2⟩ : S42)) (k42_mkM _ _ _ (⟨wrap64 (((rd_T42 x5_22 (ji63)).f0) + 1), (rd_T42 x5_22 (ji63)).f1, (rd_T42 x5_22 (ji63)).f2⟩ : S42) ) (fun _ hk => hk))); (try (have hx69_0 := hcc69 0 _ rfl)); (try (try simp only [show (k42).sz = 3 from rfl, Nat.mul_one, Nat.add_zero] at hx69_0)); (try (have hf69_0 := hfr69 0)); (try (try simp only [show (k42).sz = 3 from rfl, Nat.mul_one, Nat.add_zero] at hf69_0)); (try ((try clear hcl69); (try clear hcc69); (try clear hfr69); (try clear hM69))))); refine store_event (t := 3) (p := 96) (v := ?vo_w70) (w1 := (wc.setCell ⟨go66, ((ji63) : Int).toNat * 3, none⟩ (.int .i64 (wrap64 (((rd_T42 x5_22 (ji63)).f0) + 1))))) ?hg ?ho ?hn ?hr ?_; (case ho => rfl); (case hg => rfl); (case hn => rfl); (case hr => first | (go_simp; done) | (go_simp; rfl)); intro w70 hw; have hg : wc.grownBy w70 (some go66) := (by rw [hw]; exact HP69.2); have hp_ : Kd.R k42 42 w70 w.heap.size (fun _ => True) (.slice (some ⟨go66, 0, none⟩) x5_22.length co68) y170 := (by rw [hw, Ny170.out]; exact HP69.1); clear HP69; have n0_ := Aside0.mk (hp_); have n1_ := Aside0.mk (Kd.R_over' (v := (.slice (some ⟨go66, 0, none⟩) x5_22.length co68)) (by (with_reducible repeat (first | apply Kd.R_alloc | apply Kd.R_drewN | apply Kd.R_drew)); exact HO_24.out) (Kd.R_typed HO_5.out) (by decide) hg); have n2_ := Aside0.mk (blk_grown (g := gb153) (o := .cells #[.int .i64 ((rd_T44 y149 x26_1).f0), .int .i64 ((rd_T44 y149 x26_1).f1)] 44 (0, 0)) (by (with_reducible repeat (first | refine blk_drewN ?_ _ | refine blk_drew ?_ | refine blk_alloc ?_ _)); exact BK153.out) hg (Kd.R_ne HO_5.out BK153.out (by decide))); have n3_ := Aside0.mk ((by rw [hw]; exact below_set (HB.out) GB66.out : Below w.heap.size w w70)); clear HO_5; clear HO_24; clear BK153; clear HB; have HO_5 := n0_; have HO_24 := n1_; have BK153 := n2_; have HB := n3_; clear n0_ n1_ n2_ n3_; clear hg hw hp_; have hcz71_0 : w70.cell? ⟨gb153, 0, none⟩ = some (.int .i64 ((rd_T44 y149 x26_1).f0)) := (blk_cell BK153.out 0).trans rfl; have hcz71_1 : w70.cell? ⟨gb153, 1, none⟩ = some (.int .i64 ((rd_T44 y149 x26_1).f1)) := (blk_cell BK153.out 1).trans rfl; have hfz71_0 := blk_frozen BK153.out 0; have hfz71_1 := blk_frozen BK153.out 1))
                   repeat (go_quiet (first | ((with_reducible refine gate_store (t := 3) (p := 96) rfl ?_); (try (rw [drewN_self wc]; generalize hq_ : World.drewN wc _ = wc; have n0_ := Aside0.mk (Kd.R_at hq_ HO_5.out); have n1_ := Aside0.mk (Kd.R_at hq_ HO_24.out); have n2_ := Aside0.mk (blk_at hq_ BK153.out); have n3_ := Aside0.mk (below_at hq_ HB.out); clear hq_ HO_5 HO_24 BK153 HB; have HO_5 := n0_; have HO_24 := n1_; have BK153 := n2_; have HB := n3_; clear n0_ n1_ n2_ n3_; (try (have HX69 := Aside0.mk (show Kd.R k42 42 wc w.heap.size (fun _ => True) (.slice (some ⟨go66, 0, none⟩) x5_22.length co68) x5_22 from (by (with_reducible repeat (first | apply Kd.R_alloc | apply Kd.R_drewN | apply Kd.R_drew)); exact HO_5.out)))); (try (obtain ⟨ce69, hcl69, hM69, hcc69, hfr69⟩ := Kd.R_elem HX69.out z42 ((ji63) : Int) (of_decide_eq_true (by assumption)) (by have h_ : ((ji63) : Int) < ((x5_22.length : Int) : Int) := of_decide_eq_true (by assumption); first | exact h_ | (have e_ := (Kd.R_reads' HO_5.out).1; omega) | simpa using h_))); (try (obtain rfl := k42_openM hM69)); (try (have HP69 := Kd.R_seg HX69.out ((ji63) : Int) (of_decide_eq_true (by assumption)) (by have h_ : ((ji63) : Int) < ((x5_22.length : Int) : Int) := of_decide_eq_true (by assumption); first | exact h_ | (have e_ := (Kd.R_reads' HO_5.out).1; omega) | simpa using h_) (seg := [.int .i64 (wrap64 (((rd_T42 x5_22 (ji63)).f0) + 1))]) (j := 0) hcl69 hcc69 (show 1 ≤ 3 from by decide) (x' := (⟨wrap64 (((rd_T42 x5_22 (ji63)).f0) + 1), (rd_T42 x5_22 (ji63)).f1, (rd_T42 x5_22 (ji63)).f2⟩ : S42)) (k42_mkM _ _ _ (⟨wrap64 (((rd_T42 x5_22 (ji63)).f0) + 1), (rd_T42 x5_22 (ji63)).f1, (rd_T42 x5_22 (ji63)).f2⟩ : S42) ) (fun _ hk => hk))); (try (have hx69_0 := hcc69 0 _ rfl)); (try (try simp only [show (k42).sz = 3 from rfl, Nat.mul_one, Nat.add_zero] at hx69_0)); (try (have hf69_0 := hfr69 0)); (try (try simp only [show (k42).sz = 3 from rfl, Nat.mul_one, Nat.add_zero] at hf69_0)); (try ((try clear hcl69); (try clear hcc69); (try clear hfr69); (try clear hM69))))); refine store_event (t := 3) (p := 96) (v := ?vo_w70) (w1 := (wc.setCell ⟨go66, ((ji63) : Int).toNat * 3, none⟩ (.int .i64 (wrap64 (((rd_T42 x5_22 (ji63)).f0) + 1))))) ?hg ?ho ?hn ?hr ?_; (case ho => rfl); (case hg => rfl); (case hn => rfl); (case hr => first | (go_simp; done) | (go_simp; rfl)); intro w70 hw; have hg : wc.grownBy w70 (some go66) := (by rw [hw]; exact HP69.2); have hp_ : Kd.R k42 42 w70 w.heap.size (fun _ => True) (.slice (some ⟨go66, 0, none⟩) x5_22.length co68) y170 := (by rw [hw, Ny170.out]; exact HP69.1); clear HP69; have n0_ := Aside0.mk (hp_); have n1_ := Aside0.mk (Kd.R_over' (v := (.slice (some ⟨go66, 0, none⟩) x5_22.length co68)) (by (with_reducible repeat (first | apply Kd.R_alloc | apply Kd.R_drewN | apply Kd.R_drew)); exact HO_24.out) (Kd.R_typed HO_5.out) (by decide) hg); have n2_ := Aside0.mk (blk_grown (g := gb153) (o := .cells #[.int .i64 ((rd_T44 y149 x26_1).f0), .int .i64 ((rd_T44 y149 x26_1).f1)] 44 (0, 0)) (by (with_reducible repeat (first | refine blk_drewN ?_ _ | refine blk_drew ?_ | refine blk_alloc ?_ _)); exact BK153.out) hg (Kd.R_ne HO_5.out BK153.out (by decide))); have n3_ := Aside0.mk ((by rw [hw]; exact below_set (HB.out) GB66.out : Below w.heap.size w w70)); clear HO_5; clear HO_24; clear BK153; clear HB; have HO_5 := n0_; have HO_24 := n1_; have BK153 := n2_; have HB := n3_; clear n0_ n1_ n2_ n3_; clear hg hw hp_; have hcz71_0 : w70.cell? ⟨gb153, 0, none⟩ = some (.int .i64 ((rd_T44 y149 x26_1).f0)) := (blk_cell BK153.out 0).trans rfl; have hcz71_1 : w70.cell? ⟨gb153, 1, none⟩ = some (.int .i64 ((rd_T44 y149 x26_1).f1)) := (blk_cell BK153.out 1).trans rfl; have hfz71_0 := blk_frozen BK153.out 0; have hfz71_1 := blk_frozen BK153.out 1)); try go_wp2_with (first | ((with_reducible refine gate_store (t := 3) (p := 96) rfl ?_); (try (rw [drewN_self wc]; generalize hq_ : World.drewN wc _ = wc; have n0_ := Aside0.mk (Kd.R_at hq_ HO_5.out); have n1_ := Aside0.mk (Kd.R_at hq_ HO_24.out); have n2_ := Aside0.mk (blk_at hq_ BK153.out); have n3_ := Aside0.mk (below_at hq_ HB.out); clear hq_ HO_5 HO_24 BK153 HB; have HO_5 := n0_; have HO_24 := n1_; have BK153 := n2_; have HB := n3_; clear n0_ n1_ n2_ n3_; (try (have HX69 := Aside0.mk (show Kd.R k42 42 wc w.heap.size (fun _ => True) (.slice (some ⟨go66, 0, none⟩) x5_22.length co68) x5_22 from (by (with_reducible repeat (first | apply Kd.R_alloc | apply Kd.R_drewN | apply Kd.R_drew)); exact HO_5.out)))); (try (obtain ⟨ce69, hcl69, hM69, hcc69, hfr69⟩ := Kd.R_elem HX69.out z42 ((ji63) : Int) (of_decide_eq_true (by assumption)) (by have h_ : ((ji63) : Int) < ((x5_22.length : Int) : Int) := of_decide_eq_true (by assumption); first | exact h_ | (have e_ := (Kd.R_reads' HO_5.out).1; omega) | simpa using h_))); (try (obtain rfl := k42_openM hM69)); (try (have HP69 := Kd.R_seg HX69.out ((ji63) : Int) (of_decide_eq_true (by assumption)) (by have h_ : ((ji63) : Int) < ((x5_22.length : Int) : Int) := of_decide_eq_true (by assumption); first | exact h_ | (have e_ := (Kd.R_reads' HO_5.out).1; omega) | simpa using h_) (seg := [.int .i64 (wrap64 (((rd_T42 x5_22 (ji63)).f0) + 1))]) (j := 0) hcl69 hcc69 (show 1 ≤ 3 from by decide) (x' := (⟨wrap64 (((rd_T42 x5_22 (ji63)).f0) + 1), (rd_T42 x5_22 (ji63)).f1, (rd_T42 x5_22 (ji63)).f2⟩ : S42)) (k42_mkM _ _ _ (⟨wrap64 (((rd_T42 x5_22 (ji63)).f0) + 1), (rd_T42 x5_22 (ji63)).f1, (rd_T42 x5_22 (ji63)).f2⟩ : S42) ) (fun _ hk => hk))); (try (have hx69_0 := hcc69 0 _ rfl)); (try (try simp only [show (k42).sz = 3 from rfl, Nat.mul_one, Nat.add_zero] at hx69_0)); (try (have hf69_0 := hfr69 0)); (try (try simp only [show (k42).sz = 3 from rfl, Nat.mul_one, Nat.add_zero] at hf69_0)); (try ((try clear hcl69); (try clear hcc69); (try clear hfr69); (try clear hM69))))); refine store_event (t := 3) (p := 96) (v := ?vo_w70) (w1 := (wc.setCell ⟨go66, ((ji63) : Int).toNat * 3, none⟩ (.int .i64 (wrap64 (((rd_T42 x5_22 (ji63)).f0) + 1))))) ?hg ?ho ?hn ?hr ?_; (case ho => rfl); (case hg => rfl); (case hn => rfl); (case hr => first | (go_simp; done) | (go_simp; rfl)); intro w70 hw; have hg : wc.grownBy w70 (some go66) := (by rw [hw]; exact HP69.2); have hp_ : Kd.R k42 42 w70 w.heap.size (fun _ => True) (.slice (some ⟨go66, 0, none⟩) x5_22.length co68) y170 := (by rw [hw, Ny170.out]; exact HP69.1); clear HP69; have n0_ := Aside0.mk (hp_); have n1_ := Aside0.mk (Kd.R_over' (v := (.slice (some ⟨go66, 0, none⟩) x5_22.length co68)) (by (with_reducible repeat (first | apply Kd.R_alloc | apply Kd.R_drewN | apply Kd.R_drew)); exact HO_24.out) (Kd.R_typed HO_5.out) (by decide) hg); have n2_ := Aside0.mk (blk_grown (g := gb153) (o := .cells #[.int .i64 ((rd_T44 y149 x26_1).f0), .int .i64 ((rd_T44 y149 x26_1).f1)] 44 (0, 0)) (by (with_reducible repeat (first | refine blk_drewN ?_ _ | refine blk_drew ?_ | refine blk_alloc ?_ _)); exact BK153.out) hg (Kd.R_ne HO_5.out BK153.out (by decide))); have n3_ := Aside0.mk ((by rw [hw]; exact below_set (HB.out) GB66.out : Below w.heap.size w w70)); clear HO_5; clear HO_24; clear BK153; clear HB; have HO_5 := n0_; have HO_24 := n1_; have BK153 := n2_; have HB := n3_; clear n0_ n1_ n2_ n3_; clear hg hw hp_; have hcz71_0 : w70.cell? ⟨gb153, 0, none⟩ = some (.int .i64 ((rd_T44 y149 x26_1).f0)) := (blk_cell BK153.out 0).trans rfl; have hcz71_1 : w70.cell? ⟨gb153, 1, none⟩ = some (.int .i64 ((rd_T44 y149 x26_1).f1)) := (blk_cell BK153.out 1).trans rfl; have hfz71_0 := blk_frozen BK153.out 0; have hfz71_1 := blk_frozen BK153.out 1)))
                   go_roundg kj22
                   case measure => have := HK1.out; have := HJ12.out; have := HJ18.out; have := HJ22.out; omega
                   case rel => exact ⟨(y170), (wrap64 (((rd_T44 y149 x26_1).f0) + 1)), (wrap64 (((rd_T44 y149 x26_1).f1) + 1)), (wrap64 (x26_1 + 1)), (by first | rfl | (simp; done) | (simp [*]; done)), (by first | rfl | (simp; done) | (simp [*]; done)), (by first | rfl | (simp; done) | (simp [*]; done)), H', ⟨by have := HK1.out; have := HJ12.out; have := HJ18.out; have := HJ22.out; omega⟩, ⟨by (with_reducible repeat (first | apply Kd.R_alloc | apply Kd.R_drewN | apply Kd.R_drew)); exact HO_5.out⟩, ⟨by (with_reducible repeat (first | apply Kd.R_alloc | apply Kd.R_drewN | apply Kd.R_drew)); exact Kd.R_mono HO_24.out (fun _ hk => trivial)⟩, ⟨by repeat (first | (with_reducible first | exact HB.out | apply below_alloc | apply pw_below_drewN | apply below_drew1 | refine below_set ?_ GE153.out) | exact HB.out)⟩⟩
                  ·rw [if_neg c65] at H
                   exact absurd H (by simp)
                 ·rw [if_neg c64] at H
                  exact absurd H (by simp)
       ·rw [if_neg c12] at H
        exact absurd H (by simp)
      ·rw [if_neg c11] at H
       exact absurd H (by simp)
     ·rw [if_neg c10] at H
      have c10b0 : decide (x26_1 < (y149.length : Int)) = false := decide_eq_false c10
      clear c10
      obtain rfl := Option.some.inj H
      go_wp2
      repeat (go_quiet (fail); try go_wp2)
      go_ret
      exact ⟨_, by first | rfl | (simp [errW_none, errW_some] <;> rfl) | (simp [*, errW_none, errW_some] <;> rfl), by (with_reducible repeat (first | apply Kd.R_alloc | apply Kd.R_drewN | apply Kd.R_drew)); exact HO_5.out, by repeat first | exact HB.out | apply below_alloc | apply pw_below_drewN | apply below_drew1⟩
  ·rw [if_neg c6] at H
   exact absurd H (by simp)

end Go.Proofs.YtniobphfbfnccaaDoor.PAll
