-- Printed by wip/xprint.py (a program of this repo, round the kit's print.py)
import Derived.Test.YtniobphfbfnccaaPAllx0
import Derived.Test.YtniobphfbfnccaaPAllx3
import Derived.Test.YtniobphfbfnccaaPAllx7
import Derived.Test.YtniobphfbfnccaaPAllx8
namespace Go.Proofs.Ytniobphfbfnccaa.PAll
open Go.RowKit Go.Proofs.YtniobphfbfnccaaW.PrintWords Go.Proofs.YtniobphfbfnccaaW.PrintLast Go.Proofs.YtniobphfbfnccaaW.PrintMore
attribute [local go_sem] max2_int min2_int max_two min_two max_three min_three max_four min_four   -- for this text's walks alone
set_option linter.unusedVariables false
set_option linter.unusedSimpArgs false

/-! ### cortegelaw4_DiffLeast: function 5 -/
mutual
def cortegelaw4_DiffLeast.j0 : Nat → List ByteArray → List ByteArray → Int → Bool → Option (Bool)
 | 0, _, _, _, _ => none
 | k + 1, x0, x1, x2, x22 => if x22 = true then ((cortegelaw4_awake.f k).bind fun t249 => (some t249)) else ((diff_Length_string.f k x0 x1).bind fun t250 => (cortegelaw4_DiffLeast.l0 k x0 x1 x2 t250 0 0 0))
def cortegelaw4_DiffLeast.l0 : Nat → List ByteArray → List ByteArray → Int → Int → Int → Int → Int → Option (Bool)
 | 0, _, _, _, _, _, _, _ => none
 | k + 1, x0, x1, x2, x7, x8, x9, x10 => if x10 < (x0.length : Int) then (cortegelaw4_DiffLeast.l1 k x0 x1 x2 x7 x8 x9 x10 x8) else (cortegelaw4_DiffLeast.l2 k x0 x1 x7 x9 0)
def cortegelaw4_DiffLeast.l1 : Nat → List ByteArray → List ByteArray → Int → Int → Int → Int → Int → Int → Option (Bool)
 | 0, _, _, _, _, _, _, _, _ => none
 | k + 1, x0, x1, x2, x7, x8, x9, x10, x11 => if x11 < (x1.length : Int) then (if 0 ≤ x11 then (if 0 ≤ x10 then (if x10 < (x0.length : Int) then (if (rdOf ByteArray.empty x1 x11).toList = (rdOf ByteArray.empty x0 x10).toList then (if (Go.bits .and .i64 (shr .i64 x2 x10) 1) = 1 then (cortegelaw4_DiffLeast.l0 k x0 x1 x2 x7 (wrap64 (x11 + 1)) (wrap64 (x9 + 1)) (wrap64 (x10 + 1))) else (cortegelaw4_DiffLeast.l0 k x0 x1 x2 x7 x8 x9 (wrap64 (x10 + 1)))) else (cortegelaw4_DiffLeast.l1 k x0 x1 x2 x7 x8 x9 x10 (wrap64 (x11 + 1)))) else (none)) else (none)) else (none)) else (cortegelaw4_DiffLeast.l0 k x0 x1 x2 x7 x8 x9 (wrap64 (x10 + 1)))
def cortegelaw4_DiffLeast.j4 : Nat → List ByteArray → List ByteArray → Int → Int → Int → Option (Bool)
 | 0, _, _, _, _, _ => none
 | k + 1, x0, x1, x7, x9, x12 => cortegelaw4_DiffLeast.l3 k x0 x1 x7 x9 x12 ([] : List ByteArray) (wrap64 ((x0.length : Int) - 1))
def cortegelaw4_DiffLeast.l3 : Nat → List ByteArray → List ByteArray → Int → Int → Int → List ByteArray → Int → Option (Bool)
 | 0, _, _, _, _, _, _, _ => none
 | k + 1, x0, x1, x7, x9, x12, x13, x15 => if x15 ≥ 0 then (if 0 ≤ x15 then (if x15 < (x0.length : Int) then (if x13.length < 8796093022208 then (cortegelaw4_DiffLeast.l3 k x0 x1 x7 x9 x12 (x13 ++ [rdOf ByteArray.empty x0 x15]) (wrap64 (x15 - 1))) else (none)) else (none)) else (none)) else (cortegelaw4_DiffLeast.l4 k x0 x1 x7 x9 x12 x13 ([] : List ByteArray) (wrap64 ((x1.length : Int) - 1)))
def cortegelaw4_DiffLeast.l4 : Nat → List ByteArray → List ByteArray → Int → Int → Int → List ByteArray → List ByteArray → Int → Option (Bool)
 | 0, _, _, _, _, _, _, _, _ => none
 | k + 1, x0, x1, x7, x9, x12, x13, x14, x16 => if x16 ≥ 0 then (if 0 ≤ x16 then (if x16 < (x1.length : Int) then (if x14.length < 8796093022208 then (cortegelaw4_DiffLeast.l4 k x0 x1 x7 x9 x12 x13 (x14 ++ [rdOf ByteArray.empty x1 x16]) (wrap64 (x16 - 1))) else (none)) else (none)) else (none)) else (if x9 ≤ x7 then (if x12 ≤ x7 then (if x7 ≤ (mn (x0.length : Int) (x1.length : Int)) then ((diff_Length_string.f k x1 x0).bind fun t263 => (if t263 = x7 then ((diff_Length_string.f k x13 x14).bind fun t264 => (if t264 = x7 then ((cortegelaw4_awake.f k).bind fun t265 => (some t265)) else (some false))) else (some false))) else (some false)) else (some false)) else (some false))
def cortegelaw4_DiffLeast.l2 : Nat → List ByteArray → List ByteArray → Int → Int → Int → Option (Bool)
 | 0, _, _, _, _, _ => none
 | k + 1, x0, x1, x7, x9, x12 => if x12 < (x0.length : Int) then (if x12 < (x1.length : Int) then (if 0 ≤ x12 then (if (rdOf ByteArray.empty x0 x12).toList = (rdOf ByteArray.empty x1 x12).toList then (cortegelaw4_DiffLeast.l2 k x0 x1 x7 x9 (wrap64 (x12 + 1))) else (cortegelaw4_DiffLeast.j4 k x0 x1 x7 x9 x12)) else (none)) else (cortegelaw4_DiffLeast.j4 k x0 x1 x7 x9 x12)) else (cortegelaw4_DiffLeast.j4 k x0 x1 x7 x9 x12)
end
def cortegelaw4_DiffLeast.f (k : Nat) (l0 : List ByteArray) (l1 : List ByteArray) (a2 : Int) : Option (Bool) := (cortegelaw0_GreatTexts.f k l0 30 20).bind fun t247 => (if t247 = true then (cortegelaw4_DiffLeast.j0 k l0 l1 a2 true) else ((cortegelaw0_GreatTexts.f k l1 30 20).bind fun t248 => (cortegelaw4_DiffLeast.j0 k l0 l1 a2 t248)))
theorem cortegelaw4_DiffLeast.mono_l : ∀ k, (∀ y0 y1 y2 y3, LeO (cortegelaw4_DiffLeast.j0 k y0 y1 y2 y3) (cortegelaw4_DiffLeast.j0 (k + 1) y0 y1 y2 y3)) ∧ (∀ y0 y1 y2 y3 y4 y5 y6, LeO (cortegelaw4_DiffLeast.l0 k y0 y1 y2 y3 y4 y5 y6) (cortegelaw4_DiffLeast.l0 (k + 1) y0 y1 y2 y3 y4 y5 y6)) ∧ (∀ y0 y1 y2 y3 y4 y5 y6 y7, LeO (cortegelaw4_DiffLeast.l1 k y0 y1 y2 y3 y4 y5 y6 y7) (cortegelaw4_DiffLeast.l1 (k + 1) y0 y1 y2 y3 y4 y5 y6 y7)) ∧ (∀ y0 y1 y2 y3 y4, LeO (cortegelaw4_DiffLeast.j4 k y0 y1 y2 y3 y4) (cortegelaw4_DiffLeast.j4 (k + 1) y0 y1 y2 y3 y4)) ∧ (∀ y0 y1 y2 y3 y4 y5 y6, LeO (cortegelaw4_DiffLeast.l3 k y0 y1 y2 y3 y4 y5 y6) (cortegelaw4_DiffLeast.l3 (k + 1) y0 y1 y2 y3 y4 y5 y6)) ∧ (∀ y0 y1 y2 y3 y4 y5 y6 y7, LeO (cortegelaw4_DiffLeast.l4 k y0 y1 y2 y3 y4 y5 y6 y7) (cortegelaw4_DiffLeast.l4 (k + 1) y0 y1 y2 y3 y4 y5 y6 y7)) ∧ (∀ y0 y1 y2 y3 y4, LeO (cortegelaw4_DiffLeast.l2 k y0 y1 y2 y3 y4) (cortegelaw4_DiffLeast.l2 (k + 1) y0 y1 y2 y3 y4))
 | 0 => ⟨fun _ _ _ _ r h => by simp [cortegelaw4_DiffLeast.j0] at h, fun _ _ _ _ _ _ _ r h => by simp [cortegelaw4_DiffLeast.l0] at h, fun _ _ _ _ _ _ _ _ r h => by simp [cortegelaw4_DiffLeast.l1] at h, fun _ _ _ _ _ r h => by simp [cortegelaw4_DiffLeast.j4] at h, fun _ _ _ _ _ _ _ r h => by simp [cortegelaw4_DiffLeast.l3] at h, fun _ _ _ _ _ _ _ _ r h => by simp [cortegelaw4_DiffLeast.l4] at h, fun _ _ _ _ _ r h => by simp [cortegelaw4_DiffLeast.l2] at h⟩
 | k + 1 => by
  obtain ⟨ih0, ih1, ih2, ih3, ih4, ih5, ih6⟩ := cortegelaw4_DiffLeast.mono_l k
  refine ⟨?_, ?_, ?_, ?_, ?_, ?_, ?_⟩
  ·intro y0 y1 y2 y3
   unfold cortegelaw4_DiffLeast.j0
   repeat' first
   | (with_reducible exact ih0 _ _ _ _)
   | (with_reducible exact ih1 _ _ _ _ _ _ _)
   | (with_reducible exact ih2 _ _ _ _ _ _ _ _)
   | (with_reducible exact ih3 _ _ _ _ _)
   | (with_reducible exact ih4 _ _ _ _ _ _ _)
   | (with_reducible exact ih5 _ _ _ _ _ _ _ _)
   | (with_reducible exact ih6 _ _ _ _ _)
   | (with_reducible exact cortegelaw0_GreatTexts.mono _ _ _ _)
   | (with_reducible exact cortegelaw4_awake.mono _)
   | (with_reducible exact diff_Length_string.mono _ _ _)
   | (with_reducible exact LeO.refl _)
   | (with_reducible exact LeO.none _)
   | (with_reducible refine LeO.ite ?_ ?_)
   | (with_reducible refine LeO.bind ?_ (fun _ => ?_))
   | exact ih0 _ _ _ _
   | exact ih1 _ _ _ _ _ _ _
   | exact ih2 _ _ _ _ _ _ _ _
   | exact ih3 _ _ _ _ _
   | exact ih4 _ _ _ _ _ _ _
   | exact ih5 _ _ _ _ _ _ _ _
   | exact ih6 _ _ _ _ _
   | exact cortegelaw0_GreatTexts.mono _ _ _ _
   | exact cortegelaw4_awake.mono _
   | exact diff_Length_string.mono _ _ _
   | exact LeO.none _
   | refine LeO.ite ?_ ?_
   | refine LeO.bind ?_ (fun _ => ?_)
  ·intro y0 y1 y2 y3 y4 y5 y6
   unfold cortegelaw4_DiffLeast.l0
   repeat' first
   | (with_reducible exact ih0 _ _ _ _)
   | (with_reducible exact ih1 _ _ _ _ _ _ _)
   | (with_reducible exact ih2 _ _ _ _ _ _ _ _)
   | (with_reducible exact ih3 _ _ _ _ _)
   | (with_reducible exact ih4 _ _ _ _ _ _ _)
   | (with_reducible exact ih5 _ _ _ _ _ _ _ _)
   | (with_reducible exact ih6 _ _ _ _ _)
   | (with_reducible exact cortegelaw0_GreatTexts.mono _ _ _ _)
   | (with_reducible exact cortegelaw4_awake.mono _)
   | (with_reducible exact diff_Length_string.mono _ _ _)
   | (with_reducible exact LeO.refl _)
   | (with_reducible exact LeO.none _)
   | (with_reducible refine LeO.ite ?_ ?_)
   | (with_reducible refine LeO.bind ?_ (fun _ => ?_))
   | exact ih0 _ _ _ _
   | exact ih1 _ _ _ _ _ _ _
   | exact ih2 _ _ _ _ _ _ _ _
   | exact ih3 _ _ _ _ _
   | exact ih4 _ _ _ _ _ _ _
   | exact ih5 _ _ _ _ _ _ _ _
   | exact ih6 _ _ _ _ _
   | exact cortegelaw0_GreatTexts.mono _ _ _ _
   | exact cortegelaw4_awake.mono _
   | exact diff_Length_string.mono _ _ _
   | exact LeO.none _
   | refine LeO.ite ?_ ?_
   | refine LeO.bind ?_ (fun _ => ?_)
  ·intro y0 y1 y2 y3 y4 y5 y6 y7
   unfold cortegelaw4_DiffLeast.l1
   repeat' first
   | (with_reducible exact ih0 _ _ _ _)
   | (with_reducible exact ih1 _ _ _ _ _ _ _)
   | (with_reducible exact ih2 _ _ _ _ _ _ _ _)
   | (with_reducible exact ih3 _ _ _ _ _)
   | (with_reducible exact ih4 _ _ _ _ _ _ _)
   | (with_reducible exact ih5 _ _ _ _ _ _ _ _)
   | (with_reducible exact ih6 _ _ _ _ _)
   | (with_reducible exact cortegelaw0_GreatTexts.mono _ _ _ _)
   | (with_reducible exact cortegelaw4_awake.mono _)
   | (with_reducible exact diff_Length_string.mono _ _ _)
   | (with_reducible exact LeO.refl _)
   | (with_reducible exact LeO.none _)
   | (with_reducible refine LeO.ite ?_ ?_)
   | (with_reducible refine LeO.bind ?_ (fun _ => ?_))
   | exact ih0 _ _ _ _
   | exact ih1 _ _ _ _ _ _ _
   | exact ih2 _ _ _ _ _ _ _ _
   | exact ih3 _ _ _ _ _
   | exact ih4 _ _ _ _ _ _ _
   | exact ih5 _ _ _ _ _ _ _ _
   | exact ih6 _ _ _ _ _
   | exact cortegelaw0_GreatTexts.mono _ _ _ _
   | exact cortegelaw4_awake.mono _
   | exact diff_Length_string.mono _ _ _
   | exact LeO.none _
   | refine LeO.ite ?_ ?_
   | refine LeO.bind ?_ (fun _ => ?_)
  ·intro y0 y1 y2 y3 y4
   unfold cortegelaw4_DiffLeast.j4
   repeat' first
   | (with_reducible exact ih0 _ _ _ _)
   | (with_reducible exact ih1 _ _ _ _ _ _ _)
   | (with_reducible exact ih2 _ _ _ _ _ _ _ _)
   | (with_reducible exact ih3 _ _ _ _ _)
   | (with_reducible exact ih4 _ _ _ _ _ _ _)
   | (with_reducible exact ih5 _ _ _ _ _ _ _ _)
   | (with_reducible exact ih6 _ _ _ _ _)
   | (with_reducible exact cortegelaw0_GreatTexts.mono _ _ _ _)
   | (with_reducible exact cortegelaw4_awake.mono _)
   | (with_reducible exact diff_Length_string.mono _ _ _)
   | (with_reducible exact LeO.refl _)
   | (with_reducible exact LeO.none _)
   | (with_reducible refine LeO.ite ?_ ?_)
   | (with_reducible refine LeO.bind ?_ (fun _ => ?_))
   | exact ih0 _ _ _ _
   | exact ih1 _ _ _ _ _ _ _
   | exact ih2 _ _ _ _ _ _ _ _
   | exact ih3 _ _ _ _ _
   | exact ih4 _ _ _ _ _ _ _
   | exact ih5 _ _ _ _ _ _ _ _
   | exact ih6 _ _ _ _ _
   | exact cortegelaw0_GreatTexts.mono _ _ _ _
   | exact cortegelaw4_awake.mono _
   | exact diff_Length_string.mono _ _ _
   | exact LeO.none _
   | refine LeO.ite ?_ ?_
   | refine LeO.bind ?_ (fun _ => ?_)
  ·intro y0 y1 y2 y3 y4 y5 y6
   unfold cortegelaw4_DiffLeast.l3
   repeat' first
   | (with_reducible exact ih0 _ _ _ _)
   | (with_reducible exact ih1 _ _ _ _ _ _ _)
   | (with_reducible exact ih2 _ _ _ _ _ _ _ _)
   | (with_reducible exact ih3 _ _ _ _ _)
   | (with_reducible exact ih4 _ _ _ _ _ _ _)
   | (with_reducible exact ih5 _ _ _ _ _ _ _ _)
   | (with_reducible exact ih6 _ _ _ _ _)
   | (with_reducible exact cortegelaw0_GreatTexts.mono _ _ _ _)
   | (with_reducible exact cortegelaw4_awake.mono _)
   | (with_reducible exact diff_Length_string.mono _ _ _)
   | (with_reducible exact LeO.refl _)
   | (with_reducible exact LeO.none _)
   | (with_reducible refine LeO.ite ?_ ?_)
   | (with_reducible refine LeO.bind ?_ (fun _ => ?_))
   | exact ih0 _ _ _ _
   | exact ih1 _ _ _ _ _ _ _
   | exact ih2 _ _ _ _ _ _ _ _
   | exact ih3 _ _ _ _ _
   | exact ih4 _ _ _ _ _ _ _
   | exact ih5 _ _ _ _ _ _ _ _
   | exact ih6 _ _ _ _ _
   | exact cortegelaw0_GreatTexts.mono _ _ _ _
   | exact cortegelaw4_awake.mono _
   | exact diff_Length_string.mono _ _ _
   | exact LeO.none _
   | refine LeO.ite ?_ ?_
   | refine LeO.bind ?_ (fun _ => ?_)
  ·intro y0 y1 y2 y3 y4 y5 y6 y7
   unfold cortegelaw4_DiffLeast.l4
   repeat' first
   | (with_reducible exact ih0 _ _ _ _)
   | (with_reducible exact ih1 _ _ _ _ _ _ _)
   | (with_reducible exact ih2 _ _ _ _ _ _ _ _)
   | (with_reducible exact ih3 _ _ _ _ _)
   | (with_reducible exact ih4 _ _ _ _ _ _ _)
   | (with_reducible exact ih5 _ _ _ _ _ _ _ _)
   | (with_reducible exact ih6 _ _ _ _ _)
   | (with_reducible exact cortegelaw0_GreatTexts.mono _ _ _ _)
   | (with_reducible exact cortegelaw4_awake.mono _)
   | (with_reducible exact diff_Length_string.mono _ _ _)
   | (with_reducible exact LeO.refl _)
   | (with_reducible exact LeO.none _)
   | (with_reducible refine LeO.ite ?_ ?_)
   | (with_reducible refine LeO.bind ?_ (fun _ => ?_))
   | exact ih0 _ _ _ _
   | exact ih1 _ _ _ _ _ _ _
   | exact ih2 _ _ _ _ _ _ _ _
   | exact ih3 _ _ _ _ _
   | exact ih4 _ _ _ _ _ _ _
   | exact ih5 _ _ _ _ _ _ _ _
   | exact ih6 _ _ _ _ _
   | exact cortegelaw0_GreatTexts.mono _ _ _ _
   | exact cortegelaw4_awake.mono _
   | exact diff_Length_string.mono _ _ _
   | exact LeO.none _
   | refine LeO.ite ?_ ?_
   | refine LeO.bind ?_ (fun _ => ?_)
  ·intro y0 y1 y2 y3 y4
   unfold cortegelaw4_DiffLeast.l2
   repeat' first
   | (with_reducible exact ih0 _ _ _ _)
   | (with_reducible exact ih1 _ _ _ _ _ _ _)
   | (with_reducible exact ih2 _ _ _ _ _ _ _ _)
   | (with_reducible exact ih3 _ _ _ _ _)
   | (with_reducible exact ih4 _ _ _ _ _ _ _)
   | (with_reducible exact ih5 _ _ _ _ _ _ _ _)
   | (with_reducible exact ih6 _ _ _ _ _)
   | (with_reducible exact cortegelaw0_GreatTexts.mono _ _ _ _)
   | (with_reducible exact cortegelaw4_awake.mono _)
   | (with_reducible exact diff_Length_string.mono _ _ _)
   | (with_reducible exact LeO.refl _)
   | (with_reducible exact LeO.none _)
   | (with_reducible refine LeO.ite ?_ ?_)
   | (with_reducible refine LeO.bind ?_ (fun _ => ?_))
   | exact ih0 _ _ _ _
   | exact ih1 _ _ _ _ _ _ _
   | exact ih2 _ _ _ _ _ _ _ _
   | exact ih3 _ _ _ _ _
   | exact ih4 _ _ _ _ _ _ _
   | exact ih5 _ _ _ _ _ _ _ _
   | exact ih6 _ _ _ _ _
   | exact cortegelaw0_GreatTexts.mono _ _ _ _
   | exact cortegelaw4_awake.mono _
   | exact diff_Length_string.mono _ _ _
   | exact LeO.none _
   | refine LeO.ite ?_ ?_
   | refine LeO.bind ?_ (fun _ => ?_)
theorem cortegelaw4_DiffLeast.mono : ∀ a0 a1 a2 k, LeO (cortegelaw4_DiffLeast.f k a0 a1 a2) (cortegelaw4_DiffLeast.f (k + 1) a0 a1 a2) := by
 intro a0 a1 a2 k
 obtain ⟨ih0, ih1, ih2, ih3, ih4, ih5, ih6⟩ := cortegelaw4_DiffLeast.mono_l k
 unfold cortegelaw4_DiffLeast.f
 repeat' first
  | (with_reducible exact ih0 _ _ _ _)
  | (with_reducible exact ih1 _ _ _ _ _ _ _)
  | (with_reducible exact ih2 _ _ _ _ _ _ _ _)
  | (with_reducible exact ih3 _ _ _ _ _)
  | (with_reducible exact ih4 _ _ _ _ _ _ _)
  | (with_reducible exact ih5 _ _ _ _ _ _ _ _)
  | (with_reducible exact ih6 _ _ _ _ _)
  | (with_reducible exact cortegelaw0_GreatTexts.mono _ _ _ _)
  | (with_reducible exact cortegelaw4_awake.mono _)
  | (with_reducible exact diff_Length_string.mono _ _ _)
  | (with_reducible exact LeO.refl _)
  | (with_reducible exact LeO.none _)
  | (with_reducible refine LeO.ite ?_ ?_)
  | (with_reducible refine LeO.bind ?_ (fun _ => ?_))
  | exact ih0 _ _ _ _
  | exact ih1 _ _ _ _ _ _ _
  | exact ih2 _ _ _ _ _ _ _ _
  | exact ih3 _ _ _ _ _
  | exact ih4 _ _ _ _ _ _ _
  | exact ih5 _ _ _ _ _ _ _ _
  | exact ih6 _ _ _ _ _
  | exact cortegelaw0_GreatTexts.mono _ _ _ _
  | exact cortegelaw4_awake.mono _
  | exact diff_Length_string.mono _ _ _
  | exact LeO.none _
  | refine LeO.ite ?_ ?_
  | refine LeO.bind ?_ (fun _ => ?_)
set_option maxHeartbeats 8000000 in
set_option maxRecDepth 100000 in
theorem cortegelaw4_DiffLeast.calls (k : Nat) (A0 : Option Addr) (c0 : Nat) (l0 : List ByteArray) (A1 : Option Addr) (c1 : Nat) (l1 : List ByteArray) (a2 : Int) (r : Bool) (w : World) (hr0 : Kd.C Kd.string w A0 l0.length l0) (hc0 : l0.length ≤ c0) (hr1 : Kd.C Kd.string w A1 l1.length l1) (hc1 : l1.length ≤ c1) (h : cortegelaw4_DiffLeast.f k l0 l1 a2 = some r) :
 Calls Try.prog 5 #[.slice A0 l0.length c0, .slice A1 l1.length c1, .int .i64 a2] w fun e w' => e = .returned (.bool r) ∧ Below w.heap.size w w' := by
 have HR0 := Aside0.mk hr0
 have HC0 := Aside0.mk hc0
 clear hr0 hc0
 have HR1 := Aside0.mk hr1
 have HC1 := Aside0.mk hc1
 clear hr1 hc1
 have HB := Aside0.mk (Below.refl w.heap.size w)
 have H : ((cortegelaw0_GreatTexts.f k l0 30 20).bind fun t247 => (if t247 = true then (cortegelaw4_DiffLeast.j0 k l0 l1 a2 true) else ((cortegelaw0_GreatTexts.f k l1 30 20).bind fun t248 => (cortegelaw4_DiffLeast.j0 k l0 l1 a2 t248)))) = some r := h
 clear h
 have HC4 := Aside0.mk H
 clear H
 go_enter Try.func5, Try.ntmps5
 go_upto_region 1 with (fail)
 repeat (go_quiet (fail); go_upto_region 1 with (fail))
 go_cut [22] (fun v22 wc => ∃ (kq : Nat) (x22_3 : Bool), v22 = .bool x22_3 ∧ Aside0 (cortegelaw4_DiffLeast.j0 kq l0 l1 a2 x22_3 = some r) ∧ Aside0 (kq ≤ k) ∧ Aside0 (Below w.heap.size w wc))
 case first =>
  have H := HC4.out
  clear HC4
  replace H := Option.bind_eq_some_iff.mp H
  obtain ⟨t247, A50, H⟩ := H
  replace H : (if t247 = true then (cortegelaw4_DiffLeast.j0 k l0 l1 a2 true) else ((cortegelaw0_GreatTexts.f k l1 30 20).bind fun t248 => (cortegelaw4_DiffLeast.j0 k l0 l1 a2 t248))) = some r := H
  have A5 := Aside0.mk A50
  clear A50
  by_cases c6 : t247 = true
  ·subst c6
   have H1 : (cortegelaw4_DiffLeast.j0 k l0 l1 a2 true) = some r := by rw [if_pos rfl] at H; exact H
   clear H
   have H := H1
   clear H1
   have H' := Aside0.mk H
   clear H
   go_wp2_with (first | (go_at_call 8; (with_reducible refine (cortegelaw0_GreatTexts.calls k _ _ l0 30 20 true _ ?side1 ?side2 A5.out).mono ?_); (case side1 => repeat (first | exact (Kd.C_below HR0.out HB.out) | (with_reducible refine Kd.C_alloc ?_ _) | (with_reducible refine Kd.C_drewN ?_ _) | (with_reducible refine Kd.C_drew ?_))); (case side2 => exact HC0.out); rintro e w' ⟨rfl, ⟨nd, rfl⟩⟩; (try first | exact ⟨rfl, _, World.drewN_drewN _ _ _⟩ | exact ⟨rfl, _, Eq.trans (World.drewN_drewN _ _ _) (congrArg (World.drewN _) (Nat.add_assoc _ _ _))⟩)))
   go_meet
   case rel => exact ⟨_, (true), (by first | rfl | (simp; done) | (simp [*]; done)), H', ⟨by first | omega | exact Nat.le_refl _⟩, ⟨by repeat first | exact HB.out | apply below_alloc | apply pw_below_drewN | apply below_drew1⟩⟩
  ·replace c6 := Bool.eq_false_iff.mpr c6
   subst c6
   have H1 : ((cortegelaw0_GreatTexts.f k l1 30 20).bind fun t248 => (cortegelaw4_DiffLeast.j0 k l0 l1 a2 t248)) = some r := by rw [if_neg (show ¬ (false = true) by decide)] at H; exact H
   clear H
   have H := H1
   clear H1
   replace H := Option.bind_eq_some_iff.mp H
   obtain ⟨t248, A70, H⟩ := H
   replace H : (cortegelaw4_DiffLeast.j0 k l0 l1 a2 t248) = some r := H
   have A7 := Aside0.mk A70
   clear A70
   have H' := Aside0.mk H
   clear H
   go_wp2_with (first | (go_at_call 8; (with_reducible refine (cortegelaw0_GreatTexts.calls k _ _ l0 30 20 false _ ?side1 ?side2 A5.out).mono ?_); (case side1 => repeat (first | exact (Kd.C_below HR0.out HB.out) | (with_reducible refine Kd.C_alloc ?_ _) | (with_reducible refine Kd.C_drewN ?_ _) | (with_reducible refine Kd.C_drew ?_))); (case side2 => exact HC0.out); rintro e w' ⟨rfl, ⟨nd, rfl⟩⟩; (try first | exact ⟨rfl, _, World.drewN_drewN _ _ _⟩ | exact ⟨rfl, _, Eq.trans (World.drewN_drewN _ _ _) (congrArg (World.drewN _) (Nat.add_assoc _ _ _))⟩)) | (go_at_call 8; (with_reducible refine (cortegelaw0_GreatTexts.calls k _ _ l1 30 20 t248 _ ?side1 ?side2 A7.out).mono ?_); (case side1 => repeat (first | exact (Kd.C_below HR1.out (by repeat first | exact HB.out | apply below_alloc | apply pw_below_drewN | apply below_drew1)) | (with_reducible refine Kd.C_alloc ?_ _) | (with_reducible refine Kd.C_drewN ?_ _) | (with_reducible refine Kd.C_drew ?_))); (case side2 => exact HC1.out); rintro e w' ⟨rfl, ⟨nd, rfl⟩⟩; (try first | exact ⟨rfl, _, World.drewN_drewN _ _ _⟩ | exact ⟨rfl, _, Eq.trans (World.drewN_drewN _ _ _) (congrArg (World.drewN _) (Nat.add_assoc _ _ _))⟩)))
   go_meet
   case rel => exact ⟨_, (t248), (by first | rfl | (simp; done) | (simp [*]; done)), H', ⟨by first | omega | exact Nat.le_refl _⟩, ⟨by repeat first | exact HB.out | apply below_alloc | apply pw_below_drewN | apply below_drew1⟩⟩
 case rest =>
  clear HC4
  try clear c1
  try clear p2
  try clear c5
  try clear c6
  obtain ⟨kq, x22_3, rfl, HA, HJ3, HB⟩ := hcut
  cases kq with
  | zero => exact absurd HA.out (by simp [cortegelaw4_DiffLeast.j0])
  | succ kj3 =>
   have H := HA.out
   clear HA
   simp only [cortegelaw4_DiffLeast.j0] at H
   by_cases c8 : x22_3 = true
   ·subst c8
    have H1 : ((cortegelaw4_awake.f kj3).bind fun t249 => (some t249)) = some r := by rw [if_pos rfl] at H; exact H
    clear H
    have H := H1
    clear H1
    replace H := Option.bind_eq_some_iff.mp H
    obtain ⟨t249, A90, H⟩ := H
    replace H : (some t249) = some r := H
    have A9 := Aside0.mk A90
    clear A90
    obtain rfl := Option.some.inj H
    go_wp2_with (first | (go_at_call 9; (with_reducible refine (cortegelaw4_awake.calls kj3  t249 _ A9.out).mono ?_); rintro e w10 ⟨rfl, hb⟩; have n0_ := Aside0.mk (below_step (by repeat first | exact HB.out | apply below_alloc | apply pw_below_drewN | apply below_drew1) hb); clear HB; have HB := n0_; clear n0_; (try clear hb); (try clear hb2); (try clear hk); (try clear hi)))
    go_ret
    exact ⟨by first | rfl | (simp [errW_none, errW_some] <;> rfl) | (simp [*, errW_none, errW_some] <;> rfl), by repeat first | exact HB.out | apply below_alloc | apply pw_below_drewN | apply below_drew1⟩
   ·replace c8 := Bool.eq_false_iff.mpr c8
    subst c8
    have H1 : ((diff_Length_string.f kj3 l0 l1).bind fun t250 => (cortegelaw4_DiffLeast.l0 kj3 l0 l1 a2 t250 0 0 0)) = some r := by rw [if_neg (show ¬ (false = true) by decide)] at H; exact H
    clear H
    have H := H1
    clear H1
    replace H := Option.bind_eq_some_iff.mp H
    obtain ⟨t250, A110, H⟩ := H
    replace H : (cortegelaw4_DiffLeast.l0 kj3 l0 l1 a2 t250 0 0 0) = some r := H
    have A11 := Aside0.mk A110
    clear A110
    have H' := Aside0.mk H
    clear H
    go_wp2_with (first | (go_at_call 14; (with_reducible refine (diff_Length_string.calls kj3 _ _ l0 _ _ l1 t250 _ ?side1 ?side2 ?side3 ?side4 A11.out).mono ?_); (case side1 => repeat (first | exact (Kd.C_below HR0.out HB.out) | (with_reducible refine Kd.C_alloc ?_ _) | (with_reducible refine Kd.C_drewN ?_ _) | (with_reducible refine Kd.C_drew ?_))); (case side2 => exact HC0.out); (case side3 => repeat (first | exact (Kd.C_below HR1.out HB.out) | (with_reducible refine Kd.C_alloc ?_ _) | (with_reducible refine Kd.C_drewN ?_ _) | (with_reducible refine Kd.C_drew ?_))); (case side4 => exact HC1.out); rintro e w12 ⟨rfl, hb⟩; have n0_ := Aside0.mk (below_step (by repeat first | exact HB.out | apply below_alloc | apply pw_below_drewN | apply below_drew1) hb); clear HB; have HB := n0_; clear n0_; (try clear hb); (try clear hb2); (try clear hk); (try clear hi)))
    go_loopg [8, 9, 10] kj3 (fun kq v8 v9 v10 w' => ∃ (x8_2 : Int) (x9_2 : Int) (x10_2 : Int), v8 = .int .i64 x8_2 ∧ v9 = .int .i64 x9_2 ∧ v10 = .int .i64 x10_2 ∧ Aside0 (cortegelaw4_DiffLeast.l0 kq l0 l1 a2 t250 x8_2 x9_2 x10_2 = some r) ∧ Aside0 (kq ≤ kj3) ∧ Aside0 (Below w.heap.size w w'))
    case atStart => exact ⟨(0), (0), (0), (by first | rfl | (simp; done) | (simp [*]; done)), (by first | rfl | (simp; done) | (simp [*]; done)), (by first | rfl | (simp; done) | (simp [*]; done)), H', ⟨Nat.le_refl _⟩, ⟨by repeat first | exact HB.out | apply below_alloc | apply pw_below_drewN | apply below_drew1⟩⟩
    case round =>
     clear H'
     try clear c1
     try clear p2
     try clear c5
     try clear c6
     try clear c8
     try clear p2
     obtain ⟨x8_2, x9_2, x10_2, rfl, rfl, rfl, HA, HK2, HB⟩ := hrel
     cases gk with
     | zero => exact absurd HA.out (by simp [cortegelaw4_DiffLeast.l0])
     | succ k2 =>
      have H := HA.out
      clear HA
      simp only [cortegelaw4_DiffLeast.l0] at H
      by_cases c13 : x10_2 < (l0.length : Int)
      ·rw [if_pos c13] at H
       have c13b0 : decide (x10_2 < (l0.length : Int)) = true := decide_eq_true c13
       clear c13
       have H' := Aside0.mk H
       clear H
       go_wp2
       repeat (go_quiet (fail); try go_wp2)
       go_loopg [11] k2 (fun kq v11 w' => ∃ (x11_3 : Int), v11 = .int .i64 x11_3 ∧ Aside0 (cortegelaw4_DiffLeast.l1 kq l0 l1 a2 t250 x8_2 x9_2 x10_2 x11_3 = some r) ∧ Aside0 (kq ≤ k2) ∧ Aside0 (Below w.heap.size w w'))
       case atStart => exact ⟨(x8_2), (by first | rfl | (simp; done) | (simp [*]; done)), H', ⟨Nat.le_refl _⟩, ⟨by repeat first | exact HB.out | apply below_alloc | apply pw_below_drewN | apply below_drew1⟩⟩
       case round =>
        clear H'
        try clear c1
        try clear p2
        try clear c5
        try clear c6
        try clear c8
        try clear c13
        try clear c13b0
        try clear p2
        obtain ⟨x11_3, rfl, HA, HK3, HB⟩ := hrel
        cases gk with
        | zero => exact absurd HA.out (by simp [cortegelaw4_DiffLeast.l1])
        | succ k3 =>
         have H := HA.out
         clear HA
         simp only [cortegelaw4_DiffLeast.l1] at H
         by_cases c14 : x11_3 < (l1.length : Int)
         ·rw [if_pos c14] at H
          have c14b0 : decide (x11_3 < (l1.length : Int)) = true := decide_eq_true c14
          clear c14
          by_cases c15 : 0 ≤ x11_3
          ·rw [if_pos c15] at H
           have c15b0 : decide (0 ≤ x11_3) = true := decide_eq_true c15
           clear c15
           by_cases c16 : 0 ≤ x10_2
           ·rw [if_pos c16] at H
            have c16b0 : decide (0 ≤ x10_2) = true := decide_eq_true c16
            clear c16
            by_cases c17 : x10_2 < (l0.length : Int)
            ·rw [if_pos c17] at H
             have c17b0 : decide (x10_2 < (l0.length : Int)) = true := decide_eq_true c17
             clear c17
             by_cases c18 : (rdOf ByteArray.empty l1 x11_3).toList = (rdOf ByteArray.empty l0 x10_2).toList
             ·rw [if_pos c18] at H
              have c18b0 : ((rdOf ByteArray.empty l1 x11_3).toList == (rdOf ByteArray.empty l0 x10_2).toList) = true := beq_iff_eq.mpr c18
              have c18b1 : ((rdOf ByteArray.empty l1 x11_3).toList != (rdOf ByteArray.empty l0 x10_2).toList) = false := bne_eq_false_iff_eq.mpr c18
              clear c18
              have c19b0 := eq_true (of_decide_eq_true (by assumption) : 0 ≤ x10_2)
              obtain ⟨ji20, hji20⟩ : ∃ j_ : Int, (shr .i64 a2 x10_2) = j_ := ⟨_, rfl⟩
              replace H : (if (Go.bits .and .i64 (ji20) 1) = 1 then (cortegelaw4_DiffLeast.l0 k3 l0 l1 a2 t250 (wrap64 (x11_3 + 1)) (wrap64 (x9_2 + 1)) (wrap64 (x10_2 + 1))) else (cortegelaw4_DiffLeast.l0 k3 l0 l1 a2 t250 x8_2 x9_2 (wrap64 (x10_2 + 1)))) = some r := by first | (rw [hji20] at H; exact H) | (simp only [hji20] at H ⊢; exact H)
              have hji20_ : (a2 / 2 ^ min x10_2.toNat 64) = ji20 := hji20
              have hji20z : x10_2 ≤ 64 → (a2 / 2 ^ x10_2.toNat) = ji20 := shr_small hji20
              by_cases c21 : (Go.bits .and .i64 (ji20) 1) = 1
              ·rw [if_pos c21] at H
               have c21b0 : ((Go.bits .and .i64 (ji20) 1) == 1) = true := beq_iff_eq.mpr c21
               have c21b1 : ((Go.bits .and .i64 (ji20) 1) != 1) = false := bne_eq_false_iff_eq.mpr c21
               clear c21
               have H' := Aside0.mk H
               clear H
               have p251 : 0 ≤ (x11_3 : Int) := of_decide_eq_true (by assumption)
               have q251 : x11_3 < (l1.length : Int) := of_decide_eq_true (by assumption)
               obtain ⟨ad251, e251, hx251_0⟩ := Kd.at_string HR1.out x11_3 p251 q251
               cases e251
               replace hx251_0 := (HB.out.cell (World.block_lt_of_cell? w _ hx251_0)).trans hx251_0
               replace p251 := eq_true p251
               replace q251 := eq_true q251
               have p252 : 0 ≤ (x10_2 : Int) := of_decide_eq_true (by assumption)
               have q252 : x10_2 < (l0.length : Int) := of_decide_eq_true (by assumption)
               obtain ⟨ad252, e252, hx252_0⟩ := Kd.at_string HR0.out x10_2 p252 q252
               cases e252
               replace hx252_0 := (HB.out.cell (World.block_lt_of_cell? w _ hx252_0)).trans hx252_0
               replace p252 := eq_true p252
               replace q252 := eq_true q252
               go_wp2
               repeat (go_quiet (fail); try go_wp2)
               go_roundg k3
               case measure => have := HJ3.out; have := HK2.out; have := HK3.out; omega
               case rel => exact ⟨(wrap64 (x11_3 + 1)), (wrap64 (x9_2 + 1)), (wrap64 (x10_2 + 1)), (by first | rfl | (simp; done) | (simp [*]; done)), (by first | rfl | (simp; done) | (simp [*]; done)), (by first | rfl | (simp; done) | (simp [*]; done)), H', ⟨by have := HJ3.out; have := HK2.out; have := HK3.out; omega⟩, ⟨by repeat first | exact HB.out | apply below_alloc | apply pw_below_drewN | apply below_drew1⟩⟩
              ·rw [if_neg c21] at H
               have c21b0 : ((Go.bits .and .i64 (ji20) 1) == 1) = false := beq_eq_false_iff_ne.mpr c21
               have c21b1 : ((Go.bits .and .i64 (ji20) 1) != 1) = true := bne_iff_ne.mpr c21
               have H' := Aside0.mk H
               clear H
               have p251 : 0 ≤ (x11_3 : Int) := of_decide_eq_true (by assumption)
               have q251 : x11_3 < (l1.length : Int) := of_decide_eq_true (by assumption)
               obtain ⟨ad251, e251, hx251_0⟩ := Kd.at_string HR1.out x11_3 p251 q251
               cases e251
               replace hx251_0 := (HB.out.cell (World.block_lt_of_cell? w _ hx251_0)).trans hx251_0
               replace p251 := eq_true p251
               replace q251 := eq_true q251
               have p252 : 0 ≤ (x10_2 : Int) := of_decide_eq_true (by assumption)
               have q252 : x10_2 < (l0.length : Int) := of_decide_eq_true (by assumption)
               obtain ⟨ad252, e252, hx252_0⟩ := Kd.at_string HR0.out x10_2 p252 q252
               cases e252
               replace hx252_0 := (HB.out.cell (World.block_lt_of_cell? w _ hx252_0)).trans hx252_0
               replace p252 := eq_true p252
               replace q252 := eq_true q252
               go_wp2
               repeat (go_quiet (fail); try go_wp2)
               go_roundg k3
               case measure => have := HJ3.out; have := HK2.out; have := HK3.out; omega
               case rel => exact ⟨(x8_2), (x9_2), (wrap64 (x10_2 + 1)), (by first | rfl | (simp; done) | (simp [*]; done)), (by first | rfl | (simp; done) | (simp [*]; done)), (by first | rfl | (simp; done) | (simp [*]; done)), H', ⟨by have := HJ3.out; have := HK2.out; have := HK3.out; omega⟩, ⟨by repeat first | exact HB.out | apply below_alloc | apply pw_below_drewN | apply below_drew1⟩⟩
             ·rw [if_neg c18] at H
              have c18b0 : ((rdOf ByteArray.empty l1 x11_3).toList == (rdOf ByteArray.empty l0 x10_2).toList) = false := beq_eq_false_iff_ne.mpr c18
              have c18b1 : ((rdOf ByteArray.empty l1 x11_3).toList != (rdOf ByteArray.empty l0 x10_2).toList) = true := bne_iff_ne.mpr c18
              have H' := Aside0.mk H
              clear H
              have p251 : 0 ≤ (x11_3 : Int) := of_decide_eq_true (by assumption)
              have q251 : x11_3 < (l1.length : Int) := of_decide_eq_true (by assumption)
              obtain ⟨ad251, e251, hx251_0⟩ := Kd.at_string HR1.out x11_3 p251 q251
              cases e251
              replace hx251_0 := (HB.out.cell (World.block_lt_of_cell? w _ hx251_0)).trans hx251_0
              replace p251 := eq_true p251
              replace q251 := eq_true q251
              have p252 : 0 ≤ (x10_2 : Int) := of_decide_eq_true (by assumption)
              have q252 : x10_2 < (l0.length : Int) := of_decide_eq_true (by assumption)
              obtain ⟨ad252, e252, hx252_0⟩ := Kd.at_string HR0.out x10_2 p252 q252
              cases e252
              replace hx252_0 := (HB.out.cell (World.block_lt_of_cell? w _ hx252_0)).trans hx252_0
              replace p252 := eq_true p252
              replace q252 := eq_true q252
              go_wp2
              repeat (go_quiet (fail); try go_wp2)
              go_roundg k3
              case measure => have := HJ3.out; have := HK2.out; have := HK3.out; omega
              case rel => exact ⟨(wrap64 (x11_3 + 1)), (by first | rfl | (simp; done) | (simp [*]; done)), H', ⟨by have := HJ3.out; have := HK2.out; have := HK3.out; omega⟩, ⟨by repeat first | exact HB.out | apply below_alloc | apply pw_below_drewN | apply below_drew1⟩⟩
            ·rw [if_neg c17] at H
             exact absurd H (by simp)
           ·rw [if_neg c16] at H
            exact absurd H (by simp)
          ·rw [if_neg c15] at H
           exact absurd H (by simp)
         ·rw [if_neg c14] at H
          have c14b0 : decide (x11_3 < (l1.length : Int)) = false := decide_eq_false c14
          clear c14
          have H' := Aside0.mk H
          clear H
          go_wp2
          repeat (go_quiet (fail); try go_wp2)
          go_roundg k3
          case measure => have := HJ3.out; have := HK2.out; have := HK3.out; omega
          case rel => exact ⟨(x8_2), (x9_2), (wrap64 (x10_2 + 1)), (by first | rfl | (simp; done) | (simp [*]; done)), (by first | rfl | (simp; done) | (simp [*]; done)), (by first | rfl | (simp; done) | (simp [*]; done)), H', ⟨by have := HJ3.out; have := HK2.out; have := HK3.out; omega⟩, ⟨by repeat first | exact HB.out | apply below_alloc | apply pw_below_drewN | apply below_drew1⟩⟩
      ·rw [if_neg c13] at H
       have c13b0 : decide (x10_2 < (l0.length : Int)) = false := decide_eq_false c13
       clear c13
       have HC22 := Aside0.mk H
       clear H
       go_upto_block 4 with (fail)
       repeat (go_quiet (fail); go_upto_block 4 with (fail))
       go_cut [12] (fun v12 wc => ∃ (kq : Nat) (x12_21 : Int), v12 = .int .i64 x12_21 ∧ Aside0 (cortegelaw4_DiffLeast.j4 kq l0 l1 t250 x9_2 x12_21 = some r) ∧ Aside0 (kq ≤ k2) ∧ Aside0 (Below w.heap.size w wc))
       case first =>
        have H := HC22.out
        clear HC22
        have H' := Aside0.mk H
        clear H
        go_wp2
        repeat (go_quiet (fail); try go_wp2)
        go_loopg [12] k2 (fun kq v12 w' => ∃ (x12_3 : Int), v12 = .int .i64 x12_3 ∧ Aside0 (cortegelaw4_DiffLeast.l2 kq l0 l1 t250 x9_2 x12_3 = some r) ∧ Aside0 (kq ≤ k2) ∧ Aside0 (Below w.heap.size w w'))
        case atStart => exact ⟨(0), (by first | rfl | (simp; done) | (simp [*]; done)), H', ⟨Nat.le_refl _⟩, ⟨by repeat first | exact HB.out | apply below_alloc | apply pw_below_drewN | apply below_drew1⟩⟩
        case round =>
         clear H'
         try clear c1
         try clear c2
         try clear p2
         try clear q2
         try clear hx2
         try clear c5
         try clear c6
         try clear p6
         try clear c8
         try clear c13
         try clear c13b0
         try clear c14
         try clear c14b0
         try clear c15
         try clear c15b0
         try clear c16
         try clear c16b0
         try clear c17
         try clear c17b0
         try clear c18
         try clear c18b0
         try clear c18b1
         try clear c19
         try clear c19b0
         try clear c21
         try clear c21b0
         try clear c21b1
         try clear hx251_0
         try clear hx252_0
         try clear p2
         try clear p251
         try clear p252
         try clear q251
         try clear q252
         obtain ⟨x12_3, rfl, HA, HK3, HB⟩ := hrel
         cases gk with
         | zero => exact absurd HA.out (by simp [cortegelaw4_DiffLeast.l2])
         | succ k3 =>
          have H := HA.out
          clear HA
          simp only [cortegelaw4_DiffLeast.l2] at H
          by_cases c23 : x12_3 < (l0.length : Int)
          ·rw [if_pos c23] at H
           have c23b0 : decide (x12_3 < (l0.length : Int)) = true := decide_eq_true c23
           clear c23
           (first | rw [c23b0] | (simp only [i64_w, i32_w]; rw [c23b0]) | skip)
           by_cases c24 : x12_3 < (l1.length : Int)
           ·rw [if_pos c24] at H
            have c24b0 : decide (x12_3 < (l1.length : Int)) = true := decide_eq_true c24
            clear c24
            by_cases c25 : 0 ≤ x12_3
            ·rw [if_pos c25] at H
             have c25b0 : decide (0 ≤ x12_3) = true := decide_eq_true c25
             clear c25
             by_cases c26 : (rdOf ByteArray.empty l0 x12_3).toList = (rdOf ByteArray.empty l1 x12_3).toList
             ·rw [if_pos c26] at H
              have c26b0 : ((rdOf ByteArray.empty l0 x12_3).toList == (rdOf ByteArray.empty l1 x12_3).toList) = true := beq_iff_eq.mpr c26
              have c26b1 : ((rdOf ByteArray.empty l0 x12_3).toList != (rdOf ByteArray.empty l1 x12_3).toList) = false := bne_eq_false_iff_eq.mpr c26
              clear c26
              have H' := Aside0.mk H
              clear H
              have p253 : 0 ≤ (x12_3 : Int) := of_decide_eq_true (by assumption)
              have q253 : x12_3 < (l0.length : Int) := of_decide_eq_true (by assumption)
              obtain ⟨ad253, e253, hx253_0⟩ := Kd.at_string HR0.out x12_3 p253 q253
              cases e253
              replace hx253_0 := (HB.out.cell (World.block_lt_of_cell? w _ hx253_0)).trans hx253_0
              replace p253 := eq_true p253
              replace q253 := eq_true q253
              have p254 : 0 ≤ (x12_3 : Int) := of_decide_eq_true (by assumption)
              have q254 : x12_3 < (l1.length : Int) := of_decide_eq_true (by assumption)
              obtain ⟨ad254, e254, hx254_0⟩ := Kd.at_string HR1.out x12_3 p254 q254
              cases e254
              replace hx254_0 := (HB.out.cell (World.block_lt_of_cell? w _ hx254_0)).trans hx254_0
              replace p254 := eq_true p254
              replace q254 := eq_true q254
              go_wp2
              repeat (go_quiet (fail); try go_wp2)
              go_roundg k3
              case measure => have := HJ3.out; have := HK2.out; have := HK3.out; omega
              case rel => exact ⟨(wrap64 (x12_3 + 1)), (by first | rfl | (simp; done) | (simp [*]; done)), H', ⟨by have := HJ3.out; have := HK2.out; have := HK3.out; omega⟩, ⟨by repeat first | exact HB.out | apply below_alloc | apply pw_below_drewN | apply below_drew1⟩⟩
             ·rw [if_neg c26] at H
              have c26b0 : ((rdOf ByteArray.empty l0 x12_3).toList == (rdOf ByteArray.empty l1 x12_3).toList) = false := beq_eq_false_iff_ne.mpr c26
              have c26b1 : ((rdOf ByteArray.empty l0 x12_3).toList != (rdOf ByteArray.empty l1 x12_3).toList) = true := bne_iff_ne.mpr c26
              have H' := Aside0.mk H
              clear H
              have p253 : 0 ≤ (x12_3 : Int) := of_decide_eq_true (by assumption)
              have q253 : x12_3 < (l0.length : Int) := of_decide_eq_true (by assumption)
              obtain ⟨ad253, e253, hx253_0⟩ := Kd.at_string HR0.out x12_3 p253 q253
              cases e253
              replace hx253_0 := (HB.out.cell (World.block_lt_of_cell? w _ hx253_0)).trans hx253_0
              replace p253 := eq_true p253
              replace q253 := eq_true q253
              have p254 : 0 ≤ (x12_3 : Int) := of_decide_eq_true (by assumption)
              have q254 : x12_3 < (l1.length : Int) := of_decide_eq_true (by assumption)
              obtain ⟨ad254, e254, hx254_0⟩ := Kd.at_string HR1.out x12_3 p254 q254
              cases e254
              replace hx254_0 := (HB.out.cell (World.block_lt_of_cell? w _ hx254_0)).trans hx254_0
              replace p254 := eq_true p254
              replace q254 := eq_true q254
              go_wp2
              repeat (go_quiet (fail); try go_wp2)
              go_meet
              case rel => exact ⟨_, (x12_3), (by first | rfl | (simp; done) | (simp [*]; done)), H', ⟨by have := HJ3.out; have := HK2.out; have := HK3.out; first | omega | exact Nat.le_refl _⟩, ⟨by repeat first | exact HB.out | apply below_alloc | apply pw_below_drewN | apply below_drew1⟩⟩
            ·rw [if_neg c25] at H
             exact absurd H (by simp)
           ·rw [if_neg c24] at H
            have c24b0 : decide (x12_3 < (l1.length : Int)) = false := decide_eq_false c24
            clear c24
            have H' := Aside0.mk H
            clear H
            go_wp2
            repeat (go_quiet (fail); try go_wp2)
            go_meet
            case rel => exact ⟨_, (x12_3), (by first | rfl | (simp; done) | (simp [*]; done)), H', ⟨by have := HJ3.out; have := HK2.out; have := HK3.out; first | omega | exact Nat.le_refl _⟩, ⟨by repeat first | exact HB.out | apply below_alloc | apply pw_below_drewN | apply below_drew1⟩⟩
          ·rw [if_neg c23] at H
           have c23b0 : decide (x12_3 < (l0.length : Int)) = false := decide_eq_false c23
           clear c23
           (first | rw [c23b0] | (simp only [i64_w, i32_w]; rw [c23b0]) | skip)
           have H' := Aside0.mk H
           clear H
           go_wp2
           repeat (go_quiet (fail); try go_wp2)
           go_meet
           case rel => exact ⟨_, (x12_3), (by first | rfl | (simp; done) | (simp [*]; done)), H', ⟨by have := HJ3.out; have := HK2.out; have := HK3.out; first | omega | exact Nat.le_refl _⟩, ⟨by repeat first | exact HB.out | apply below_alloc | apply pw_below_drewN | apply below_drew1⟩⟩
       case rest =>
        clear HC22
        try clear c1
        try clear c2
        try clear p2
        try clear q2
        try clear hx2
        try clear c5
        try clear c6
        try clear p6
        try clear c8
        try clear c13
        try clear c13b0
        try clear c14
        try clear c14b0
        try clear c15
        try clear c15b0
        try clear c16
        try clear c16b0
        try clear c17
        try clear c17b0
        try clear c18
        try clear c18b0
        try clear c18b1
        try clear c19
        try clear c19b0
        try clear c21
        try clear c21b0
        try clear c21b1
        try clear c23
        try clear c23b0
        try clear c24
        try clear c24b0
        try clear c25
        try clear c25b0
        try clear p25
        try clear q25
        try clear hx25
        try clear c26
        try clear c26b0
        try clear c26b1
        try clear hx251_0
        try clear hx252_0
        try clear hx253_0
        try clear hx254_0
        try clear p2
        try clear p251
        try clear p252
        try clear p253
        try clear p254
        try clear p6
        try clear q2
        try clear q251
        try clear q252
        try clear q253
        try clear q254
        obtain ⟨kq, x12_21, rfl, HA, HJ21, HB⟩ := hcut
        cases kq with
        | zero => exact absurd HA.out (by simp [cortegelaw4_DiffLeast.j4])
        | succ kj21 =>
         have H := HA.out
         clear HA
         simp only [cortegelaw4_DiffLeast.j4] at H
         have H' := Aside0.mk H
         clear H
         go_wp2
         repeat (go_quiet (fail); try go_wp2)
         go_loopg [13, 15] kj21 (fun kq v13 v15 w' => ∃ (x13_4 : List ByteArray) (x15_4 : Int), v15 = .int .i64 x15_4 ∧ Aside0 (cortegelaw4_DiffLeast.l3 kq l0 l1 t250 x9_2 x12_21 x13_4 x15_4 = some r) ∧ Aside0 (kq ≤ kj21) ∧ Aside0 (Kd.R Kd.string 9 w' w.heap.size (fun _ => True) v13 x13_4) ∧ Aside0 (Below w.heap.size w w'))
         case atStart => exact ⟨(([] : List ByteArray)), (wrap64 ((l0.length : Int) - 1)), (by first | rfl | (simp; done) | (simp [*]; done)), H', ⟨Nat.le_refl _⟩, ⟨by first | exact Kd.R_nil _ _ _ _ _ | exact Kd.N_nil _ _ _ _ _ | exact Kd.V_nil _ _ _ _ _ | exact Kd.Q_nil _ _ _ _ _ | exact Kd.S_nil _ _ _ _ _⟩, ⟨by repeat first | exact HB.out | apply below_alloc | apply pw_below_drewN | apply below_drew1⟩⟩
         case round =>
          clear H'
          try clear c1
          try clear c2
          try clear p2
          try clear q2
          try clear hx2
          try clear c5
          try clear c6
          try clear p6
          try clear c8
          try clear c13
          try clear c13b0
          try clear c14
          try clear c14b0
          try clear c15
          try clear c15b0
          try clear c16
          try clear c16b0
          try clear c17
          try clear c17b0
          try clear c18
          try clear c18b0
          try clear c18b1
          try clear c19
          try clear c19b0
          try clear c21
          try clear c21b0
          try clear c21b1
          try clear c23
          try clear c23b0
          try clear c24
          try clear c24b0
          try clear c25
          try clear c25b0
          try clear p25
          try clear q25
          try clear hx25
          try clear c26
          try clear c26b0
          try clear c26b1
          try clear hx251_0
          try clear hx252_0
          try clear hx253_0
          try clear hx254_0
          try clear p2
          try clear p25
          try clear p251
          try clear p252
          try clear p253
          try clear p254
          try clear p6
          try clear q2
          try clear q25
          try clear q251
          try clear q252
          try clear q253
          try clear q254
          obtain ⟨x13_4, x15_4, rfl, HA, HK4, HO_13, HB⟩ := hrel
          cases gk with
          | zero => exact absurd HA.out (by simp [cortegelaw4_DiffLeast.l3])
          | succ k4 =>
           have H := HA.out
           clear HA
           simp only [cortegelaw4_DiffLeast.l3] at H
           by_cases c27 : x15_4 ≥ 0
           ·rw [if_pos c27] at H
            have c27b0 : decide (0 ≤ x15_4) = true := decide_eq_true c27
            clear c27
            by_cases c28 : 0 ≤ x15_4
            ·rw [if_pos c28] at H
             have c28b0 : decide (0 ≤ x15_4) = true := decide_eq_true c28
             clear c28
             by_cases c29 : x15_4 < (l0.length : Int)
             ·rw [if_pos c29] at H
              have c29b0 : decide (x15_4 < (l0.length : Int)) = true := decide_eq_true c29
              clear c29
              by_cases c30 : x13_4.length < 8796093022208
              ·rw [if_pos c30] at H
               have LMc30 := Aside0.mk c30
               clear c30
               obtain ⟨y256, hy256⟩ : ∃ y_ : List ByteArray, y_ = (x13_4 ++ [rdOf ByteArray.empty l0 x15_4]) := ⟨_, rfl⟩
               replace H : (cortegelaw4_DiffLeast.l3 k4 l0 l1 t250 x9_2 x12_21 y256 (wrap64 (x15_4 - 1))) = some r := by first | (rw [hy256]; with_reducible exact H) | (have H2_ := (Option.bind_some _ _).symm.trans H; rw [hy256]; with_reducible exact H2_) | (have H2_ := (Option.bind_some _ _).symm.trans H; with_reducible exact H2_) | with_reducible exact H | (rw [hy256]; exact H) | exact H
               have Ny256 := Aside0.mk hy256
               clear hy256
               have H' := Aside0.mk H
               clear H
               have p255 : 0 ≤ (x15_4 : Int) := of_decide_eq_true (by assumption)
               have q255 : x15_4 < (l0.length : Int) := of_decide_eq_true (by assumption)
               obtain ⟨ad255, e255, hx255_0⟩ := Kd.at_string HR0.out x15_4 p255 q255
               cases e255
               replace hx255_0 := (HB.out.cell (World.block_lt_of_cell? w _ hx255_0)).trans hx255_0
               replace p255 := eq_true p255
               replace q255 := eq_true q255
               go_wp2_with (first | ((with_reducible refine gate_builtin (b := .append) (xs := #[.tmp 96, .tmp 101]) rfl ?_); (try (refine gate_guard (by rfl) ?_; dsimp only)); at_builtin; refine Kd.R_append Kd.string (w0 := w) w.heap.size rfl (.tmp 96) (.tmp 101) 22 9 (.string ⟨#[]⟩) 16 rfl Try.underlying22 info9 rfl (by decide) (by omega) u13 x13_4 (rdOf ByteArray.empty l0 x15_4) [.string (rdOf ByteArray.empty l0 x15_4)] (fun _ => True) (fun _ => False) rfl rfl ?aP (fun _ hk => hk.elim) ?aF ?aO ?aB ?aS ?aL ?_; (case aP => exact rfl); (case aB => exact (by repeat first | exact HB.out | apply below_alloc | apply pw_below_drewN | apply below_drew1)); (case aF => exact (fun _ _ => trivial)); (case aO => exact (by (with_reducible repeat (first | apply Kd.R_alloc | apply Kd.R_drewN | apply Kd.R_drew)); exact HO_13.out)); (case aS => exact (below_size (by repeat first | exact HB.out | apply below_alloc | apply pw_below_drewN | apply below_drew1))); (case aL => have := LMc30.out; omega); intro v257 w31 ho hb hg hat; rw [← Ny256.out] at ho; have n0_ := Aside0.mk (hb); have n1_ := Aside0.mk (ho); clear HB; clear HO_13; have HB := n0_; have HO258 := n1_; clear n0_ n1_; clear ho hb hg hat))
               go_roundg k4
               case measure => have := HJ3.out; have := HK2.out; have := HJ21.out; have := HK4.out; omega
               case rel => exact ⟨(y256), (wrap64 (x15_4 - 1)), (by first | rfl | (simp; done) | (simp [*]; done)), H', ⟨by have := HJ3.out; have := HK2.out; have := HJ21.out; have := HK4.out; omega⟩, ⟨by (with_reducible repeat (first | apply Kd.R_alloc | apply Kd.R_drewN | apply Kd.R_drew)); exact HO258.out⟩, ⟨by repeat first | exact HB.out | apply below_alloc | apply pw_below_drewN | apply below_drew1⟩⟩
              ·rw [if_neg c30] at H
               exact absurd H (by simp)
             ·rw [if_neg c29] at H
              exact absurd H (by simp)
            ·rw [if_neg c28] at H
             exact absurd H (by simp)
           ·rw [if_neg c27] at H
            have c27b0 : decide (0 ≤ x15_4) = false := decide_eq_false c27
            clear c27
            have H' := Aside0.mk H
            clear H
            go_wp2
            repeat (go_quiet (fail); try go_wp2)
            go_loopg [14, 16] k4 (fun kq v14 v16 w' => ∃ (x14_5 : List ByteArray) (x16_5 : Int), v16 = .int .i64 x16_5 ∧ Aside0 (cortegelaw4_DiffLeast.l4 kq l0 l1 t250 x9_2 x12_21 x13_4 x14_5 x16_5 = some r) ∧ Aside0 (kq ≤ k4) ∧ Aside0 (Kd.R Kd.string 9 w' w.heap.size (fun k_ => some k_ ≠ (v14 : Value).ownBlock) u13 x13_4) ∧ Aside0 (Kd.R Kd.string 9 w' w.heap.size (fun k_ => some k_ ≠ (u13 : Value).ownBlock) v14 x14_5) ∧ Aside0 (Below w.heap.size w w'))
            case atStart => exact ⟨(([] : List ByteArray)), (wrap64 ((l1.length : Int) - 1)), (by first | rfl | (simp; done) | (simp [*]; done)), H', ⟨Nat.le_refl _⟩, ⟨by (with_reducible repeat (first | apply Kd.R_alloc | apply Kd.R_drewN | apply Kd.R_drew)); exact Kd.R_mono HO_13.out (fun _ hk => (by simp [Value.ownBlock]))⟩, ⟨by first | exact Kd.R_nil _ _ _ _ _ | exact Kd.N_nil _ _ _ _ _ | exact Kd.V_nil _ _ _ _ _ | exact Kd.Q_nil _ _ _ _ _ | exact Kd.S_nil _ _ _ _ _⟩, ⟨by repeat first | exact HB.out | apply below_alloc | apply pw_below_drewN | apply below_drew1⟩⟩
            case round =>
             clear H'
             try clear c1
             try clear c2
             try clear p2
             try clear q2
             try clear hx2
             try clear c3
             try clear c5
             try clear c6
             try clear p6
             try clear c8
             try clear c13
             try clear c13b0
             try clear c14
             try clear c14b0
             try clear c15
             try clear c15b0
             try clear c16
             try clear c16b0
             try clear c17
             try clear c17b0
             try clear c18
             try clear c18b0
             try clear c18b1
             try clear c19
             try clear c19b0
             try clear c21
             try clear c21b0
             try clear c21b1
             try clear c23
             try clear c23b0
             try clear c24
             try clear c24b0
             try clear c25
             try clear c25b0
             try clear p25
             try clear q25
             try clear hx25
             try clear c26
             try clear c26b0
             try clear c26b1
             try clear c27
             try clear c27b0
             try clear c28
             try clear c28b0
             try clear c29
             try clear c29b0
             try clear c30
             try clear hx251_0
             try clear hx252_0
             try clear hx253_0
             try clear hx254_0
             try clear hx255_0
             try clear p2
             try clear p25
             try clear p251
             try clear p252
             try clear p253
             try clear p254
             try clear p255
             try clear p6
             try clear q2
             try clear q25
             try clear q251
             try clear q252
             try clear q253
             try clear q254
             try clear q255
             obtain ⟨x14_5, x16_5, rfl, HA, HK5, HO_13, HO_14, HB⟩ := hrel
             cases gk with
             | zero => exact absurd HA.out (by simp [cortegelaw4_DiffLeast.l4])
             | succ k5 =>
              have H := HA.out
              clear HA
              simp only [cortegelaw4_DiffLeast.l4] at H
              by_cases c32 : x16_5 ≥ 0
              ·rw [if_pos c32] at H
               have c32b0 : decide (0 ≤ x16_5) = true := decide_eq_true c32
               clear c32
               by_cases c33 : 0 ≤ x16_5
               ·rw [if_pos c33] at H
                have c33b0 : decide (0 ≤ x16_5) = true := decide_eq_true c33
                clear c33
                by_cases c34 : x16_5 < (l1.length : Int)
                ·rw [if_pos c34] at H
                 have c34b0 : decide (x16_5 < (l1.length : Int)) = true := decide_eq_true c34
                 clear c34
                 by_cases c35 : x14_5.length < 8796093022208
                 ·rw [if_pos c35] at H
                  have LMc35 := Aside0.mk c35
                  clear c35
                  obtain ⟨y260, hy260⟩ : ∃ y_ : List ByteArray, y_ = (x14_5 ++ [rdOf ByteArray.empty l1 x16_5]) := ⟨_, rfl⟩
                  replace H : (cortegelaw4_DiffLeast.l4 k5 l0 l1 t250 x9_2 x12_21 x13_4 y260 (wrap64 (x16_5 - 1))) = some r := by first | (rw [hy260]; with_reducible exact H) | (have H2_ := (Option.bind_some _ _).symm.trans H; rw [hy260]; with_reducible exact H2_) | (have H2_ := (Option.bind_some _ _).symm.trans H; with_reducible exact H2_) | with_reducible exact H | (rw [hy260]; exact H) | exact H
                  have Ny260 := Aside0.mk hy260
                  clear hy260
                  have H' := Aside0.mk H
                  clear H
                  have p259 : 0 ≤ (x16_5 : Int) := of_decide_eq_true (by assumption)
                  have q259 : x16_5 < (l1.length : Int) := of_decide_eq_true (by assumption)
                  obtain ⟨ad259, e259, hx259_0⟩ := Kd.at_string HR1.out x16_5 p259 q259
                  cases e259
                  replace hx259_0 := (HB.out.cell (World.block_lt_of_cell? w _ hx259_0)).trans hx259_0
                  replace p259 := eq_true p259
                  replace q259 := eq_true q259
                  go_wp2_with (first | ((with_reducible refine gate_builtin (b := .append) (xs := #[.tmp 110, .tmp 115]) rfl ?_); (try (refine gate_guard (by rfl) ?_; dsimp only)); at_builtin; refine Kd.R_append Kd.string (w0 := w) w.heap.size rfl (.tmp 110) (.tmp 115) 22 9 (.string ⟨#[]⟩) 16 rfl Try.underlying22 info9 rfl (by decide) (by omega) u14 x14_5 (rdOf ByteArray.empty l1 x16_5) [.string (rdOf ByteArray.empty l1 x16_5)] (fun k_ => some k_ ≠ (u13 : Value).ownBlock) (fun _ => False) rfl rfl ?aP (fun _ hk => hk.elim) ?aF ?aO ?aB ?aS ?aL ?_; (case aP => exact rfl); (case aB => exact (by repeat first | exact HB.out | apply below_alloc | apply pw_below_drewN | apply below_drew1)); (case aF => exact (fun k_ hk => Kd.fresh' (Kd.R_lt (by (with_reducible repeat (first | apply Kd.R_alloc | apply Kd.R_drewN | apply Kd.R_drew)); exact HO_13.out)) k_ hk)); (case aO => exact (by (with_reducible repeat (first | apply Kd.R_alloc | apply Kd.R_drewN | apply Kd.R_drew)); exact HO_14.out)); (case aS => exact (below_size (by repeat first | exact HB.out | apply below_alloc | apply pw_below_drewN | apply below_drew1))); (case aL => have := LMc35.out; omega); intro v261 w36 ho hb hg hat; rw [← Ny260.out] at ho; have n0_ := Aside0.mk (Kd.R_after (ok := (fun _ => True)) (by (with_reducible repeat (first | apply Kd.R_alloc | apply Kd.R_drewN | apply Kd.R_drew)); exact Kd.R_mono HO_13.out (fun _ hk => ⟨trivial, hk⟩)) hg hat); have n1_ := Aside0.mk (hb); have n2_ := Aside0.mk (ho); clear HO_13; clear HB; clear HO_14; have HO_13 := n0_; have HB := n1_; have HO262 := n2_; clear n0_ n1_ n2_; clear ho hb hg hat))
                  go_roundg k5
                  case measure => have := HJ3.out; have := HK2.out; have := HJ21.out; have := HK4.out; have := HK5.out; omega
                  case rel => exact ⟨(y260), (wrap64 (x16_5 - 1)), (by first | rfl | (simp; done) | (simp [*]; done)), H', ⟨by have := HJ3.out; have := HK2.out; have := HJ21.out; have := HK4.out; have := HK5.out; omega⟩, ⟨by (with_reducible repeat (first | apply Kd.R_alloc | apply Kd.R_drewN | apply Kd.R_drew)); exact Kd.R_mono HO_13.out (fun _ hk => hk.2)⟩, ⟨by (with_reducible repeat (first | apply Kd.R_alloc | apply Kd.R_drewN | apply Kd.R_drew)); exact HO262.out⟩, ⟨by repeat first | exact HB.out | apply below_alloc | apply pw_below_drewN | apply below_drew1⟩⟩
                 ·rw [if_neg c35] at H
                  exact absurd H (by simp)
                ·rw [if_neg c34] at H
                 exact absurd H (by simp)
               ·rw [if_neg c33] at H
                exact absurd H (by simp)
              ·rw [if_neg c32] at H
               have c32b0 : decide (0 ≤ x16_5) = false := decide_eq_false c32
               clear c32
               by_cases c37 : x9_2 ≤ t250
               ·rw [if_pos c37] at H
                have c37b0 : decide (x9_2 ≤ t250) = true := decide_eq_true c37
                clear c37
                by_cases c38 : x12_21 ≤ t250
                ·rw [if_pos c38] at H
                 have c38b0 : decide (x12_21 ≤ t250) = true := decide_eq_true c38
                 clear c38
                 obtain ⟨ji39, hji39⟩ : ∃ j_ : Int, (mn (l0.length : Int) (l1.length : Int)) = j_ := ⟨_, rfl⟩
                 replace H : (if t250 ≤ (ji39) then ((diff_Length_string.f k5 l1 l0).bind fun t263 => (if t263 = t250 then ((diff_Length_string.f k5 x13_4 x14_5).bind fun t264 => (if t264 = t250 then ((cortegelaw4_awake.f k5).bind fun t265 => (some t265)) else (some false))) else (some false))) else (some false)) = some r := by first | (rw [hji39] at H; exact H) | (simp only [hji39] at H ⊢; exact H)
                 have hji39_ : (if (l1.length : Int) < (l0.length : Int) then (l1.length : Int) else (l0.length : Int)) = ji39 := hji39
                 have hji39_n : (if l1.length < l0.length then (l1.length : Int) else (l0.length : Int)) = ji39 := by rw [← hji39_]; simp only [Int.ofNat_lt]
                 by_cases c40 : t250 ≤ (ji39)
                 ·rw [if_pos c40] at H
                  have c40b0 : decide (t250 ≤ (ji39)) = true := decide_eq_true c40
                  clear c40
                  replace H := Option.bind_eq_some_iff.mp H
                  obtain ⟨t263, A410, H⟩ := H
                  replace H : (if t263 = t250 then ((diff_Length_string.f k5 x13_4 x14_5).bind fun t264 => (if t264 = t250 then ((cortegelaw4_awake.f k5).bind fun t265 => (some t265)) else (some false))) else (some false)) = some r := H
                  have A41 := Aside0.mk A410
                  clear A410
                  by_cases c42 : t263 = t250
                  ·rw [if_pos c42] at H
                   have c42b0 : (t263 == t250) = true := beq_iff_eq.mpr c42
                   have c42b1 : (t263 != t250) = false := bne_eq_false_iff_eq.mpr c42
                   clear c42
                   replace H := Option.bind_eq_some_iff.mp H
                   obtain ⟨t264, A430, H⟩ := H
                   replace H : (if t264 = t250 then ((cortegelaw4_awake.f k5).bind fun t265 => (some t265)) else (some false)) = some r := H
                   have A43 := Aside0.mk A430
                   clear A430
                   by_cases c44 : t264 = t250
                   ·rw [if_pos c44] at H
                    have c44b0 : (t264 == t250) = true := beq_iff_eq.mpr c44
                    have c44b1 : (t264 != t250) = false := bne_eq_false_iff_eq.mpr c44
                    clear c44
                    replace H := Option.bind_eq_some_iff.mp H
                    obtain ⟨t265, A450, H⟩ := H
                    replace H : (some t265) = some r := H
                    have A45 := Aside0.mk A450
                    clear A450
                    obtain rfl := Option.some.inj H
                    go_wp2_with (first | (go_at_call 14; (with_reducible refine (diff_Length_string.calls k5 _ _ l1 _ _ l0 t263 _ ?side1 ?side2 ?side3 ?side4 A41.out).mono ?_); (case side1 => repeat (first | exact (Kd.C_below HR1.out HB.out) | (with_reducible refine Kd.C_alloc ?_ _) | (with_reducible refine Kd.C_drewN ?_ _) | (with_reducible refine Kd.C_drew ?_))); (case side2 => exact HC1.out); (case side3 => repeat (first | exact (Kd.C_below HR0.out HB.out) | (with_reducible refine Kd.C_alloc ?_ _) | (with_reducible refine Kd.C_drewN ?_ _) | (with_reducible refine Kd.C_drew ?_))); (case side4 => exact HC0.out); rintro e w46 ⟨rfl, hb⟩; have n0_ := Aside0.mk (Kd.R_below (by (with_reducible repeat (first | apply Kd.R_alloc | apply Kd.R_drewN | apply Kd.R_drew)); exact HO_13.out) hb); have n1_ := Aside0.mk (Kd.R_below (by (with_reducible repeat (first | apply Kd.R_alloc | apply Kd.R_drewN | apply Kd.R_drew)); exact HO_14.out) hb); have n2_ := Aside0.mk (below_step (by repeat first | exact HB.out | apply below_alloc | apply pw_below_drewN | apply below_drew1) hb); clear HO_13; clear HO_14; clear HB; have HO_13 := n0_; have HO_14 := n1_; have HB := n2_; clear n0_ n1_ n2_; (try clear hb); (try clear hb2); (try clear hk); (try clear hi); obtain ⟨Ao47, co47, eo47⟩ := Kd.R_slice HO_13.out; subst eo47; obtain ⟨Ao48, co48, eo48⟩ := Kd.R_slice HO_14.out; subst eo48) | (go_at_call 14; (with_reducible refine (diff_Length_string.calls k5 _ _ x13_4 _ _ x14_5 t264 _ ?side1 ?side2 ?side3 ?side4 A43.out).mono ?_); (case side1 => repeat (first | exact (Kd.R_reads' HO_13.out).2.2 | (with_reducible refine Kd.C_alloc ?_ _) | (with_reducible refine Kd.C_drewN ?_ _) | (with_reducible refine Kd.C_drew ?_))); (case side2 => exact (Kd.R_reads' HO_13.out).2.1); (case side3 => repeat (first | exact (Kd.R_reads' HO_14.out).2.2 | (with_reducible refine Kd.C_alloc ?_ _) | (with_reducible refine Kd.C_drewN ?_ _) | (with_reducible refine Kd.C_drew ?_))); (case side4 => exact (Kd.R_reads' HO_14.out).2.1); rintro e w49 ⟨rfl, hb⟩; have n0_ := Aside0.mk (Kd.R_below (by (with_reducible repeat (first | apply Kd.R_alloc | apply Kd.R_drewN | apply Kd.R_drew)); exact HO_13.out) hb); have n1_ := Aside0.mk (Kd.R_below (by (with_reducible repeat (first | apply Kd.R_alloc | apply Kd.R_drewN | apply Kd.R_drew)); exact HO_14.out) hb); have n2_ := Aside0.mk (below_step (by repeat first | exact HB.out | apply below_alloc | apply pw_below_drewN | apply below_drew1) hb); clear HO_13; clear HO_14; clear HB; have HO_13 := n0_; have HO_14 := n1_; have HB := n2_; clear n0_ n1_ n2_; (try clear hb); (try clear hb2); (try clear hk); (try clear hi)) | (go_at_call 9; (with_reducible refine (cortegelaw4_awake.calls k5  t265 _ A45.out).mono ?_); rintro e w50 ⟨rfl, hb⟩; have n0_ := Aside0.mk (Kd.R_below (by (with_reducible repeat (first | apply Kd.R_alloc | apply Kd.R_drewN | apply Kd.R_drew)); exact HO_13.out) hb); have n1_ := Aside0.mk (Kd.R_below (by (with_reducible repeat (first | apply Kd.R_alloc | apply Kd.R_drewN | apply Kd.R_drew)); exact HO_14.out) hb); have n2_ := Aside0.mk (below_step (by repeat first | exact HB.out | apply below_alloc | apply pw_below_drewN | apply below_drew1) hb); clear HO_13; clear HO_14; clear HB; have HO_13 := n0_; have HO_14 := n1_; have HB := n2_; clear n0_ n1_ n2_; (try clear hb); (try clear hb2); (try clear hk); (try clear hi)))
                    go_ret
                    exact ⟨by first | rfl | (simp [errW_none, errW_some] <;> rfl) | (simp only [← hji39]; first | rfl | (simp [errW_none, errW_some] <;> rfl)) | (simp [*, errW_none, errW_some] <;> rfl), by repeat first | exact HB.out | apply below_alloc | apply pw_below_drewN | apply below_drew1⟩
                   ·rw [if_neg c44] at H
                    have c44b0 : (t264 == t250) = false := beq_eq_false_iff_ne.mpr c44
                    have c44b1 : (t264 != t250) = true := bne_iff_ne.mpr c44
                    obtain rfl := Option.some.inj H
                    go_wp2_with (first | (go_at_call 14; (with_reducible refine (diff_Length_string.calls k5 _ _ l1 _ _ l0 t263 _ ?side1 ?side2 ?side3 ?side4 A41.out).mono ?_); (case side1 => repeat (first | exact (Kd.C_below HR1.out HB.out) | (with_reducible refine Kd.C_alloc ?_ _) | (with_reducible refine Kd.C_drewN ?_ _) | (with_reducible refine Kd.C_drew ?_))); (case side2 => exact HC1.out); (case side3 => repeat (first | exact (Kd.C_below HR0.out HB.out) | (with_reducible refine Kd.C_alloc ?_ _) | (with_reducible refine Kd.C_drewN ?_ _) | (with_reducible refine Kd.C_drew ?_))); (case side4 => exact HC0.out); rintro e w51 ⟨rfl, hb⟩; have n0_ := Aside0.mk (Kd.R_below (by (with_reducible repeat (first | apply Kd.R_alloc | apply Kd.R_drewN | apply Kd.R_drew)); exact HO_13.out) hb); have n1_ := Aside0.mk (Kd.R_below (by (with_reducible repeat (first | apply Kd.R_alloc | apply Kd.R_drewN | apply Kd.R_drew)); exact HO_14.out) hb); have n2_ := Aside0.mk (below_step (by repeat first | exact HB.out | apply below_alloc | apply pw_below_drewN | apply below_drew1) hb); clear HO_13; clear HO_14; clear HB; have HO_13 := n0_; have HO_14 := n1_; have HB := n2_; clear n0_ n1_ n2_; (try clear hb); (try clear hb2); (try clear hk); (try clear hi); obtain ⟨Ao52, co52, eo52⟩ := Kd.R_slice HO_13.out; subst eo52; obtain ⟨Ao53, co53, eo53⟩ := Kd.R_slice HO_14.out; subst eo53) | (go_at_call 14; (with_reducible refine (diff_Length_string.calls k5 _ _ x13_4 _ _ x14_5 t264 _ ?side1 ?side2 ?side3 ?side4 A43.out).mono ?_); (case side1 => repeat (first | exact (Kd.R_reads' HO_13.out).2.2 | (with_reducible refine Kd.C_alloc ?_ _) | (with_reducible refine Kd.C_drewN ?_ _) | (with_reducible refine Kd.C_drew ?_))); (case side2 => exact (Kd.R_reads' HO_13.out).2.1); (case side3 => repeat (first | exact (Kd.R_reads' HO_14.out).2.2 | (with_reducible refine Kd.C_alloc ?_ _) | (with_reducible refine Kd.C_drewN ?_ _) | (with_reducible refine Kd.C_drew ?_))); (case side4 => exact (Kd.R_reads' HO_14.out).2.1); rintro e w54 ⟨rfl, hb⟩; have n0_ := Aside0.mk (Kd.R_below (by (with_reducible repeat (first | apply Kd.R_alloc | apply Kd.R_drewN | apply Kd.R_drew)); exact HO_13.out) hb); have n1_ := Aside0.mk (Kd.R_below (by (with_reducible repeat (first | apply Kd.R_alloc | apply Kd.R_drewN | apply Kd.R_drew)); exact HO_14.out) hb); have n2_ := Aside0.mk (below_step (by repeat first | exact HB.out | apply below_alloc | apply pw_below_drewN | apply below_drew1) hb); clear HO_13; clear HO_14; clear HB; have HO_13 := n0_; have HO_14 := n1_; have HB := n2_; clear n0_ n1_ n2_; (try clear hb); (try clear hb2); (try clear hk); (try clear hi)))
                    go_ret
                    exact ⟨by first | rfl | (simp [errW_none, errW_some] <;> rfl) | (simp only [← hji39]; first | rfl | (simp [errW_none, errW_some] <;> rfl)) | (simp [*, errW_none, errW_some] <;> rfl), by repeat first | exact HB.out | apply below_alloc | apply pw_below_drewN | apply below_drew1⟩
                  ·rw [if_neg c42] at H
                   have c42b0 : (t263 == t250) = false := beq_eq_false_iff_ne.mpr c42
                   have c42b1 : (t263 != t250) = true := bne_iff_ne.mpr c42
                   obtain rfl := Option.some.inj H
                   go_wp2_with (first | (go_at_call 14; (with_reducible refine (diff_Length_string.calls k5 _ _ l1 _ _ l0 t263 _ ?side1 ?side2 ?side3 ?side4 A41.out).mono ?_); (case side1 => repeat (first | exact (Kd.C_below HR1.out HB.out) | (with_reducible refine Kd.C_alloc ?_ _) | (with_reducible refine Kd.C_drewN ?_ _) | (with_reducible refine Kd.C_drew ?_))); (case side2 => exact HC1.out); (case side3 => repeat (first | exact (Kd.C_below HR0.out HB.out) | (with_reducible refine Kd.C_alloc ?_ _) | (with_reducible refine Kd.C_drewN ?_ _) | (with_reducible refine Kd.C_drew ?_))); (case side4 => exact HC0.out); rintro e w55 ⟨rfl, hb⟩; have n0_ := Aside0.mk (Kd.R_below (by (with_reducible repeat (first | apply Kd.R_alloc | apply Kd.R_drewN | apply Kd.R_drew)); exact HO_13.out) hb); have n1_ := Aside0.mk (Kd.R_below (by (with_reducible repeat (first | apply Kd.R_alloc | apply Kd.R_drewN | apply Kd.R_drew)); exact HO_14.out) hb); have n2_ := Aside0.mk (below_step (by repeat first | exact HB.out | apply below_alloc | apply pw_below_drewN | apply below_drew1) hb); clear HO_13; clear HO_14; clear HB; have HO_13 := n0_; have HO_14 := n1_; have HB := n2_; clear n0_ n1_ n2_; (try clear hb); (try clear hb2); (try clear hk); (try clear hi)))
                   go_ret
                   exact ⟨by first | rfl | (simp [errW_none, errW_some] <;> rfl) | (simp only [← hji39]; first | rfl | (simp [errW_none, errW_some] <;> rfl)) | (simp [*, errW_none, errW_some] <;> rfl), by repeat first | exact HB.out | apply below_alloc | apply pw_below_drewN | apply below_drew1⟩
                 ·rw [if_neg c40] at H
                  have c40b0 : decide (t250 ≤ (ji39)) = false := decide_eq_false c40
                  clear c40
                  obtain rfl := Option.some.inj H
                  go_wp2
                  repeat (go_quiet (fail); try go_wp2)
                  go_ret
                  exact ⟨by first | rfl | (simp [errW_none, errW_some] <;> rfl) | (simp only [← hji39]; first | rfl | (simp [errW_none, errW_some] <;> rfl)) | (simp [*, errW_none, errW_some] <;> rfl), by repeat first | exact HB.out | apply below_alloc | apply pw_below_drewN | apply below_drew1⟩
                ·rw [if_neg c38] at H
                 have c38b0 : decide (x12_21 ≤ t250) = false := decide_eq_false c38
                 clear c38
                 obtain rfl := Option.some.inj H
                 go_wp2
                 repeat (go_quiet (fail); try go_wp2)
                 go_ret
                 exact ⟨by first | rfl | (simp [errW_none, errW_some] <;> rfl) | (simp [*, errW_none, errW_some] <;> rfl), by repeat first | exact HB.out | apply below_alloc | apply pw_below_drewN | apply below_drew1⟩
               ·rw [if_neg c37] at H
                have c37b0 : decide (x9_2 ≤ t250) = false := decide_eq_false c37
                clear c37
                obtain rfl := Option.some.inj H
                go_wp2
                repeat (go_quiet (fail); try go_wp2)
                go_ret
                exact ⟨by first | rfl | (simp [errW_none, errW_some] <;> rfl) | (simp [*, errW_none, errW_some] <;> rfl), by repeat first | exact HB.out | apply below_alloc | apply pw_below_drewN | apply below_drew1⟩

end Go.Proofs.Ytniobphfbfnccaa.PAll
