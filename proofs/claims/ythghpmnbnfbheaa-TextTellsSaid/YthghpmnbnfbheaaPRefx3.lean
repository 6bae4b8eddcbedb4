-- Printed by wip/xprint.py (a program of this repo, round the kit's print.py)
import Derived.Test.YthghpmnbnfbheaaPRefx0
import Derived.Test.YthghpmnbnfbheaaPRefx1
import Derived.Test.YthghpmnbnfbheaaPRefx2
namespace Go.Proofs.Ythghpmnbnfbheaa.PRef
open Go.RowKit Go.Proofs.YthghpmnbnfbheaaW.PrintWords Go.Proofs.YthghpmnbnfbheaaW.PrintLast Go.Proofs.YthghpmnbnfbheaaW.PrintMore
attribute [local go_sem] max2_int min2_int max_two min_two max_three min_three max_four min_four   -- for this text's walks alone
set_option linter.unusedVariables false
set_option linter.unusedSimpArgs false

/-! ### diff_Pairs_string: function 51 -/
mutual
def diff_Pairs_string.l0 : Nat → List ByteArray → List ByteArray → List (List Int) → List (S81) → Int → Int → Option ((List (S81)))
 | 0, _, _, _, _, _, _ => none
 | k + 1, x0, x1, x5, x6, x7, x8 => if x7 < (x0.length : Int) then (diff_Pairs_string.j1 k x0 x1 x5 x6 x7 x8 (decide (x8 < (x1.length : Int)))) else (diff_Pairs_string.j1 k x0 x1 x5 x6 x7 x8 false)
def diff_Pairs_string.j1 : Nat → List ByteArray → List ByteArray → List (List Int) → List (S81) → Int → Int → Bool → Option ((List (S81)))
 | 0, _, _, _, _, _, _, _ => none
 | k + 1, x0, x1, x5, x6, x7, x8, x24 => if x24 = true then (if 0 ≤ x7 then (if x7 < (x0.length : Int) then (if 0 ≤ x8 then (if x8 < (x1.length : Int) then (if (rdOf ByteArray.empty x0 x7).toList = (rdOf ByteArray.empty x1 x8).toList then (if x6.length < 8796093022208 then (diff_Pairs_string.l0 k x0 x1 x5 (x6 ++ [(⟨x7, x8⟩ : S81)]) (wrap64 (x7 + 1)) (wrap64 (x8 + 1))) else (none)) else (if 0 ≤ (wrap64 (x7 + 1)) then (if (wrap64 (x7 + 1)) < (x5.length : Int) then (if x8 < ((rd_L3 x5 (wrap64 (x7 + 1))).length : Int) then (if x7 < (x5.length : Int) then (if 0 ≤ (wrap64 (x8 + 1)) then (if (wrap64 (x8 + 1)) < ((rd_L3 x5 x7).length : Int) then (if (rd (rd_L3 x5 (wrap64 (x7 + 1))) x8) ≥ (rd (rd_L3 x5 x7) (wrap64 (x8 + 1))) then (diff_Pairs_string.l0 k x0 x1 x5 x6 (wrap64 (x7 + 1)) x8) else (diff_Pairs_string.l0 k x0 x1 x5 x6 x7 (wrap64 (x8 + 1)))) else (none)) else (none)) else (none)) else (none)) else (none)) else (none))) else (none)) else (none)) else (none)) else (none)) else (some x6)
end
def diff_Pairs_string.f (k : Nat) (l0 : List ByteArray) (l1 : List ByteArray) : Option ((List (S81))) := (diff_long_string.f l0 l1).bind fun t139 => (if t139 = true then (some ([] : List (S81))) else ((diff_table_string.f k l0 l1).bind fun t140 => (diff_Pairs_string.l0 k l0 l1 t140 ([] : List (S81)) 0 0)))
theorem diff_Pairs_string.mono_l : ∀ k, (∀ y0 y1 y2 y3 y4 y5, LeO (diff_Pairs_string.l0 k y0 y1 y2 y3 y4 y5) (diff_Pairs_string.l0 (k + 1) y0 y1 y2 y3 y4 y5)) ∧ (∀ y0 y1 y2 y3 y4 y5 y6, LeO (diff_Pairs_string.j1 k y0 y1 y2 y3 y4 y5 y6) (diff_Pairs_string.j1 (k + 1) y0 y1 y2 y3 y4 y5 y6))
 | 0 => ⟨fun _ _ _ _ _ _ r h => by simp [diff_Pairs_string.l0] at h, fun _ _ _ _ _ _ _ r h => by simp [diff_Pairs_string.j1] at h⟩
 | k + 1 => by
  obtain ⟨ih0, ih1⟩ := diff_Pairs_string.mono_l k
  refine ⟨?_, ?_⟩
  ·intro y0 y1 y2 y3 y4 y5
   unfold diff_Pairs_string.l0
   repeat' first
   | (with_reducible exact ih0 _ _ _ _ _ _)
   | (with_reducible exact ih1 _ _ _ _ _ _ _)
   | (with_reducible exact diff_table_string.mono _ _ _)
   | (with_reducible exact LeO.refl _)
   | (with_reducible exact LeO.none _)
   | (with_reducible refine LeO.ite ?_ ?_)
   | (with_reducible refine LeO.bind ?_ (fun _ => ?_))
   | exact ih0 _ _ _ _ _ _
   | exact ih1 _ _ _ _ _ _ _
   | exact diff_table_string.mono _ _ _
   | exact LeO.none _
   | refine LeO.ite ?_ ?_
   | refine LeO.bind ?_ (fun _ => ?_)
  ·intro y0 y1 y2 y3 y4 y5 y6
   unfold diff_Pairs_string.j1
   repeat' first
   | (with_reducible exact ih0 _ _ _ _ _ _)
   | (with_reducible exact ih1 _ _ _ _ _ _ _)
   | (with_reducible exact diff_table_string.mono _ _ _)
   | (with_reducible exact LeO.refl _)
   | (with_reducible exact LeO.none _)
   | (with_reducible refine LeO.ite ?_ ?_)
   | (with_reducible refine LeO.bind ?_ (fun _ => ?_))
   | exact ih0 _ _ _ _ _ _
   | exact ih1 _ _ _ _ _ _ _
   | exact diff_table_string.mono _ _ _
   | exact LeO.none _
   | refine LeO.ite ?_ ?_
   | refine LeO.bind ?_ (fun _ => ?_)
theorem diff_Pairs_string.mono : ∀ a0 a1 k, LeO (diff_Pairs_string.f k a0 a1) (diff_Pairs_string.f (k + 1) a0 a1) := by
 intro a0 a1 k
 obtain ⟨ih0, ih1⟩ := diff_Pairs_string.mono_l k
 unfold diff_Pairs_string.f
 repeat' first
  | (with_reducible exact ih0 _ _ _ _ _ _)
  | (with_reducible exact ih1 _ _ _ _ _ _ _)
  | (with_reducible exact diff_table_string.mono _ _ _)
  | (with_reducible exact LeO.refl _)
  | (with_reducible exact LeO.none _)
  | (with_reducible refine LeO.ite ?_ ?_)
  | (with_reducible refine LeO.bind ?_ (fun _ => ?_))
  | exact ih0 _ _ _ _ _ _
  | exact ih1 _ _ _ _ _ _ _
  | exact diff_table_string.mono _ _ _
  | exact LeO.none _
  | refine LeO.ite ?_ ?_
  | refine LeO.bind ?_ (fun _ => ?_)
set_option maxHeartbeats 8000000 in
set_option maxRecDepth 100000 in
theorem diff_Pairs_string.calls (k : Nat) (A0 : Option Addr) (c0 : Nat) (l0 : List ByteArray) (A1 : Option Addr) (c1 : Nat) (l1 : List ByteArray) (r : List (S81)) (w : World) (hr0 : Kd.C Kd.string w A0 l0.length l0) (hc0 : l0.length ≤ c0) (hr1 : Kd.C Kd.string w A1 l1.length l1) (hc1 : l1.length ≤ c1) (h : diff_Pairs_string.f k l0 l1 = some r) :
 Calls Try.prog 51 #[.slice A0 l0.length c0, .slice A1 l1.length c1] w fun e w' => ∃ v0_ : Value, e = .returned (v0_) ∧ Kd.R k81 81 w' w.heap.size (fun _ => True) v0_ r ∧ Below w.heap.size w w' := by
 have hu81 := Try.underlying81
 have HR0 := Aside0.mk hr0
 have HC0 := Aside0.mk hc0
 clear hr0 hc0
 have HR1 := Aside0.mk hr1
 have HC1 := Aside0.mk hc1
 clear hr1 hc1
 have HB := Aside0.mk (Below.refl w.heap.size w)
 have H : ((diff_long_string.f l0 l1).bind fun t139 => (if t139 = true then (some ([] : List (S81))) else ((diff_table_string.f k l0 l1).bind fun t140 => (diff_Pairs_string.l0 k l0 l1 t140 ([] : List (S81)) 0 0)))) = some r := h
 clear h
 replace H := Option.bind_eq_some_iff.mp H
 obtain ⟨t139, A30, H⟩ := H
 replace H : (if t139 = true then (some ([] : List (S81))) else ((diff_table_string.f k l0 l1).bind fun t140 => (diff_Pairs_string.l0 k l0 l1 t140 ([] : List (S81)) 0 0))) = some r := H
 have A3 := Aside0.mk A30
 clear A30
 by_cases c4 : t139 = true
 ·subst c4
  have H1 : (some ([] : List (S81))) = some r := by rw [if_pos rfl] at H; exact H
  clear H
  have H := H1
  clear H1
  obtain rfl := Option.some.inj H
  go_enter Try.func51, Try.ntmps51
  go_wp2_with (first | (go_at_call 59; (with_reducible refine (diff_long_string.calls _ _ l0 _ _ l1 true _ ?side1 ?side2 ?side3 ?side4 A3.out).mono ?_); (case side1 => repeat (first | exact HR0.out | (with_reducible refine Kd.C_alloc ?_ _) | (with_reducible refine Kd.C_drewN ?_ _) | (with_reducible refine Kd.C_drew ?_))); (case side2 => exact HC0.out); (case side3 => repeat (first | exact HR1.out | (with_reducible refine Kd.C_alloc ?_ _) | (with_reducible refine Kd.C_drewN ?_ _) | (with_reducible refine Kd.C_drew ?_))); (case side4 => exact HC1.out); rintro e w' ⟨rfl, ⟨nd, rfl⟩⟩; (try first | exact ⟨rfl, _, World.drewN_drewN _ _ _⟩ | exact ⟨rfl, _, Eq.trans (World.drewN_drewN _ _ _) (congrArg (World.drewN _) (Nat.add_assoc _ _ _))⟩)))
  go_ret
  exact ⟨_, by first | rfl | (simp [errW_none, errW_some] <;> rfl) | (simp [*, errW_none, errW_some] <;> rfl), by first | exact Kd.R_nil _ _ _ _ _ | exact Kd.N_nil _ _ _ _ _ | exact Kd.V_nil _ _ _ _ _ | exact Kd.Q_nil _ _ _ _ _ | exact Kd.S_nil _ _ _ _ _, by repeat first | exact HB.out | apply below_alloc | apply pw_below_drewN | apply below_drew1⟩
 ·replace c4 := Bool.eq_false_iff.mpr c4
  subst c4
  have H1 : ((diff_table_string.f k l0 l1).bind fun t140 => (diff_Pairs_string.l0 k l0 l1 t140 ([] : List (S81)) 0 0)) = some r := by rw [if_neg (show ¬ (false = true) by decide)] at H; exact H
  clear H
  have H := H1
  clear H1
  replace H := Option.bind_eq_some_iff.mp H
  obtain ⟨t140, A50, H⟩ := H
  replace H : (diff_Pairs_string.l0 k l0 l1 t140 ([] : List (S81)) 0 0) = some r := H
  have A5 := Aside0.mk A50
  clear A50
  have H' := Aside0.mk H
  clear H
  go_enter Try.func51, Try.ntmps51
  go_wp2_with (first | (go_at_call 59; (with_reducible refine (diff_long_string.calls _ _ l0 _ _ l1 false _ ?side1 ?side2 ?side3 ?side4 A3.out).mono ?_); (case side1 => repeat (first | exact HR0.out | (with_reducible refine Kd.C_alloc ?_ _) | (with_reducible refine Kd.C_drewN ?_ _) | (with_reducible refine Kd.C_drew ?_))); (case side2 => exact HC0.out); (case side3 => repeat (first | exact HR1.out | (with_reducible refine Kd.C_alloc ?_ _) | (with_reducible refine Kd.C_drewN ?_ _) | (with_reducible refine Kd.C_drew ?_))); (case side4 => exact HC1.out); rintro e w' ⟨rfl, ⟨nd, rfl⟩⟩; (try first | exact ⟨rfl, _, World.drewN_drewN _ _ _⟩ | exact ⟨rfl, _, Eq.trans (World.drewN_drewN _ _ _) (congrArg (World.drewN _) (Nat.add_assoc _ _ _))⟩)) | (go_at_call 60; (with_reducible refine (diff_table_string.calls k _ _ l0 _ _ l1 t140 _ ?side1 ?side2 ?side3 ?side4 A5.out).mono ?_); (case side1 => repeat (first | exact HR0.out | (with_reducible refine Kd.C_alloc ?_ _) | (with_reducible refine Kd.C_drewN ?_ _) | (with_reducible refine Kd.C_drew ?_))); (case side2 => exact HC0.out); (case side3 => repeat (first | exact HR1.out | (with_reducible refine Kd.C_alloc ?_ _) | (with_reducible refine Kd.C_drewN ?_ _) | (with_reducible refine Kd.C_drew ?_))); (case side4 => exact HC1.out); rintro e w6 ⟨v141, rfl, ho0, hb⟩; have n0_ := Aside0.mk (Kd.S_lower ho0 (below_size (by repeat first | exact HB.out | apply below_alloc | apply pw_below_drewN | apply below_drew1))); have n1_ := Aside0.mk (below_step (by repeat first | exact HB.out | apply below_alloc | apply pw_below_drewN | apply below_drew1) hb); clear HB; have HO142 := n0_; have HB := n1_; clear n0_ n1_; (try clear hb); (try clear hb2); (try clear hk); (try clear hi); (try clear ho0)))
  go_loopg [6, 7, 8] k (fun kq v6 v7 v8 w' => ∃ (x6_1 : List (S81)) (x7_1 : Int) (x8_1 : Int), v7 = .int .i64 x7_1 ∧ v8 = .int .i64 x8_1 ∧ Aside0 (diff_Pairs_string.l0 kq l0 l1 t140 x6_1 x7_1 x8_1 = some r) ∧ Aside0 (kq ≤ k) ∧ Aside0 (Kd.S (Kd.slice 3 (Kd.int .i64)) 60 w' w.heap.size (fun _ => True) v141 t140) ∧ Aside0 (Kd.R k81 81 w' w.heap.size (fun _ => True) v6 x6_1) ∧ Aside0 (Below w.heap.size w w'))
  case atStart => exact ⟨(([] : List (S81))), (0), (0), (by first | rfl | (simp; done) | (simp [*]; done)), (by first | rfl | (simp; done) | (simp [*]; done)), H', ⟨Nat.le_refl _⟩, ⟨by (with_reducible repeat (first | apply Kd.S_alloc | apply Kd.S_drewN | apply Kd.S_drew)); exact HO142.out⟩, ⟨by first | exact Kd.R_nil _ _ _ _ _ | exact Kd.N_nil _ _ _ _ _ | exact Kd.V_nil _ _ _ _ _ | exact Kd.Q_nil _ _ _ _ _ | exact Kd.S_nil _ _ _ _ _⟩, ⟨by repeat first | exact HB.out | apply below_alloc | apply pw_below_drewN | apply below_drew1⟩⟩
  case round =>
   clear H'
   try clear c1
   try clear p2
   try clear c4
   try clear c5
   obtain ⟨x6_1, x7_1, x8_1, rfl, rfl, HA, HK1, HO_5, HO_6, HB⟩ := hrel
   cases gk with
   | zero => exact absurd HA.out (by simp [diff_Pairs_string.l0])
   | succ k1 =>
    have H := HA.out
    clear HA
    simp only [diff_Pairs_string.l0] at H
    have HC7 := Aside0.mk H
    clear H
    go_upto_region 6 with (fail)
    repeat (go_quiet (fail); go_upto_region 6 with (fail))
    go_cut [24] (fun v24 wc => ∃ (kq : Nat) (x24_6 : Bool), v24 = .bool x24_6 ∧ Aside0 (diff_Pairs_string.j1 kq l0 l1 t140 x6_1 x7_1 x8_1 x24_6 = some r) ∧ Aside0 (kq ≤ k1) ∧ Aside0 (Kd.S (Kd.slice 3 (Kd.int .i64)) 60 wc w.heap.size (fun _ => True) v141 t140) ∧ Aside0 (Kd.R k81 81 wc w.heap.size (fun _ => True) u6 x6_1) ∧ Aside0 (Below w.heap.size w wc))
    case first =>
     have H := HC7.out
     clear HC7
     by_cases c8 : x7_1 < (l0.length : Int)
     ·rw [if_pos c8] at H
      have c8b0 : decide (x7_1 < (l0.length : Int)) = true := decide_eq_true c8
      clear c8
      (first | rw [c8b0] | (simp only [i64_w, i32_w]; rw [c8b0]) | skip)
      have H' := Aside0.mk H
      clear H
      go_wp2
      repeat (go_quiet (fail); try go_wp2)
      go_meet
      case rel => exact ⟨_, (decide (x8_1 < (l1.length : Int))), (by first | rfl | (simp; done) | (simp [*]; done)), H', ⟨by have := HK1.out; first | omega | exact Nat.le_refl _⟩, ⟨by (with_reducible repeat (first | apply Kd.S_alloc | apply Kd.S_drewN | apply Kd.S_drew)); exact HO_5.out⟩, ⟨by (with_reducible repeat (first | apply Kd.R_alloc | apply Kd.R_drewN | apply Kd.R_drew)); exact HO_6.out⟩, ⟨by repeat first | exact HB.out | apply below_alloc | apply pw_below_drewN | apply below_drew1⟩⟩
     ·rw [if_neg c8] at H
      have c8b0 : decide (x7_1 < (l0.length : Int)) = false := decide_eq_false c8
      clear c8
      (first | rw [c8b0] | (simp only [i64_w, i32_w]; rw [c8b0]) | skip)
      have H' := Aside0.mk H
      clear H
      go_wp2
      repeat (go_quiet (fail); try go_wp2)
      go_meet
      case rel => exact ⟨_, (false), (by first | rfl | (simp; done) | (simp [*]; done)), H', ⟨by have := HK1.out; first | omega | exact Nat.le_refl _⟩, ⟨by (with_reducible repeat (first | apply Kd.S_alloc | apply Kd.S_drewN | apply Kd.S_drew)); exact HO_5.out⟩, ⟨by (with_reducible repeat (first | apply Kd.R_alloc | apply Kd.R_drewN | apply Kd.R_drew)); exact HO_6.out⟩, ⟨by repeat first | exact HB.out | apply below_alloc | apply pw_below_drewN | apply below_drew1⟩⟩
    case rest =>
     clear HC7
     try clear c1
     try clear p2
     try clear c4
     try clear c5
     try clear c8
     try clear c8b0
     try clear p2
     obtain ⟨kq, x24_6, rfl, HA, HJ6, HO_5, HO_6, HB⟩ := hcut
     cases kq with
     | zero => exact absurd HA.out (by simp [diff_Pairs_string.j1])
     | succ kj6 =>
      have H := HA.out
      clear HA
      simp only [diff_Pairs_string.j1] at H
      by_cases c9 : x24_6 = true
      ·subst c9
       have H1 : (if 0 ≤ x7_1 then (if x7_1 < (l0.length : Int) then (if 0 ≤ x8_1 then (if x8_1 < (l1.length : Int) then (if (rdOf ByteArray.empty l0 x7_1).toList = (rdOf ByteArray.empty l1 x8_1).toList then (if x6_1.length < 8796093022208 then (diff_Pairs_string.l0 kj6 l0 l1 t140 (x6_1 ++ [(⟨x7_1, x8_1⟩ : S81)]) (wrap64 (x7_1 + 1)) (wrap64 (x8_1 + 1))) else (none)) else (if 0 ≤ (wrap64 (x7_1 + 1)) then (if (wrap64 (x7_1 + 1)) < (t140.length : Int) then (if x8_1 < ((rd_L3 t140 (wrap64 (x7_1 + 1))).length : Int) then (if x7_1 < (t140.length : Int) then (if 0 ≤ (wrap64 (x8_1 + 1)) then (if (wrap64 (x8_1 + 1)) < ((rd_L3 t140 x7_1).length : Int) then (if (rd (rd_L3 t140 (wrap64 (x7_1 + 1))) x8_1) ≥ (rd (rd_L3 t140 x7_1) (wrap64 (x8_1 + 1))) then (diff_Pairs_string.l0 kj6 l0 l1 t140 x6_1 (wrap64 (x7_1 + 1)) x8_1) else (diff_Pairs_string.l0 kj6 l0 l1 t140 x6_1 x7_1 (wrap64 (x8_1 + 1)))) else (none)) else (none)) else (none)) else (none)) else (none)) else (none))) else (none)) else (none)) else (none)) else (none)) = some r := by rw [if_pos rfl] at H; exact H
       clear H
       have H := H1
       clear H1
       by_cases c10 : 0 ≤ x7_1
       ·rw [if_pos c10] at H
        have c10b0 : decide (0 ≤ x7_1) = true := decide_eq_true c10
        clear c10
        by_cases c11 : x7_1 < (l0.length : Int)
        ·rw [if_pos c11] at H
         have c11b0 : decide (x7_1 < (l0.length : Int)) = true := decide_eq_true c11
         clear c11
         by_cases c12 : 0 ≤ x8_1
         ·rw [if_pos c12] at H
          have c12b0 : decide (0 ≤ x8_1) = true := decide_eq_true c12
          clear c12
          by_cases c13 : x8_1 < (l1.length : Int)
          ·rw [if_pos c13] at H
           have c13b0 : decide (x8_1 < (l1.length : Int)) = true := decide_eq_true c13
           clear c13
           by_cases c14 : (rdOf ByteArray.empty l0 x7_1).toList = (rdOf ByteArray.empty l1 x8_1).toList
           ·rw [if_pos c14] at H
            have c14b0 : ((rdOf ByteArray.empty l0 x7_1).toList == (rdOf ByteArray.empty l1 x8_1).toList) = true := beq_iff_eq.mpr c14
            have c14b1 : ((rdOf ByteArray.empty l0 x7_1).toList != (rdOf ByteArray.empty l1 x8_1).toList) = false := bne_eq_false_iff_eq.mpr c14
            clear c14
            by_cases c15 : x6_1.length < 8796093022208
            ·rw [if_pos c15] at H
             have LMc15 := Aside0.mk c15
             clear c15
             obtain ⟨y145, hy145⟩ : ∃ y_ : List (S81), y_ = (x6_1 ++ [(⟨x7_1, x8_1⟩ : S81)]) := ⟨_, rfl⟩
             replace H : (diff_Pairs_string.l0 kj6 l0 l1 t140 y145 (wrap64 (x7_1 + 1)) (wrap64 (x8_1 + 1))) = some r := by first | (rw [hy145]; with_reducible exact H) | (have H2_ := (Option.bind_some _ _).symm.trans H; rw [hy145]; with_reducible exact H2_) | (have H2_ := (Option.bind_some _ _).symm.trans H; with_reducible exact H2_) | with_reducible exact H | (rw [hy145]; exact H) | exact H
             have Ny145 := Aside0.mk hy145
             clear hy145
             have H' := Aside0.mk H
             clear H
             have p143 : 0 ≤ (x7_1 : Int) := of_decide_eq_true (by assumption)
             have q143 : x7_1 < (l0.length : Int) := of_decide_eq_true (by assumption)
             obtain ⟨ad143, e143, hx143_0⟩ := Kd.at_string HR0.out x7_1 p143 q143
             cases e143
             replace hx143_0 := (HB.out.cell (World.block_lt_of_cell? w _ hx143_0)).trans hx143_0
             replace p143 := eq_true p143
             replace q143 := eq_true q143
             have p144 : 0 ≤ (x8_1 : Int) := of_decide_eq_true (by assumption)
             have q144 : x8_1 < (l1.length : Int) := of_decide_eq_true (by assumption)
             obtain ⟨ad144, e144, hx144_0⟩ := Kd.at_string HR1.out x8_1 p144 q144
             cases e144
             replace hx144_0 := (HB.out.cell (World.block_lt_of_cell? w _ hx144_0)).trans hx144_0
             replace p144 := eq_true p144
             replace q144 := eq_true q144
             go_wp2_with (first | ((with_reducible refine gate_builtin (b := .append) (xs := #[.tmp 37, .tmp 41]) rfl ?_); (try (refine gate_guard (by rfl) ?_; dsimp only)); at_builtin; refine Kd.R_append k81 (w0 := w) w.heap.size rfl (.tmp 37) (.tmp 41) 79 81 (.agg #[(.int .i64 0), (.int .i64 0)]) 16 rfl Try.underlying79 info81 rfl (by decide) (by omega) u6 x6_1 (⟨x7_1, x8_1⟩ : S81) [.int .i64 x7_1, .int .i64 x8_1] (fun _ => True) (fun _ => False) rfl rfl ?aP (fun _ hk => hk.elim) ?aF ?aO ?aB ?aS ?aL ?_; (case aP => exact k81_mkM _ _ _ (⟨x7_1, x8_1⟩ : S81)); (case aB => exact (by repeat first | exact HB.out | apply below_alloc | apply pw_below_drewN | apply below_drew1)); (case aF => exact (fun _ _ => trivial)); (case aO => exact (by (with_reducible repeat (first | apply Kd.R_alloc | apply Kd.R_drewN | apply Kd.R_drew)); exact HO_6.out)); (case aS => exact (below_size (by repeat first | exact HB.out | apply below_alloc | apply pw_below_drewN | apply below_drew1))); (case aL => have := LMc15.out; omega); intro v146 w16 ho hb hg hat; rw [← Ny145.out] at ho; have n0_ := Aside0.mk (Kd.S_over' (by (with_reducible repeat (first | apply Kd.S_alloc | apply Kd.S_drewN | apply Kd.S_drew)); exact HO_5.out) (Kd.R_typed (by (with_reducible repeat (first | apply Kd.R_alloc | apply Kd.R_drewN | apply Kd.R_drew)); exact HO_6.out)) (by decide) hg); have n1_ := Aside0.mk (hb); have n2_ := Aside0.mk (ho); clear HO_5; clear HB; clear HO_6; have HO_5 := n0_; have HB := n1_; have HO147 := n2_; clear n0_ n1_ n2_; clear ho hb hg hat))
             repeat (go_quiet (first | ((with_reducible refine gate_builtin (b := .append) (xs := #[.tmp 37, .tmp 41]) rfl ?_); (try (refine gate_guard (by rfl) ?_; dsimp only)); at_builtin; refine Kd.R_append k81 (w0 := w) w.heap.size rfl (.tmp 37) (.tmp 41) 79 81 (.agg #[(.int .i64 0), (.int .i64 0)]) 16 rfl Try.underlying79 info81 rfl (by decide) (by omega) u6 x6_1 (⟨x7_1, x8_1⟩ : S81) [.int .i64 x7_1, .int .i64 x8_1] (fun _ => True) (fun _ => False) rfl rfl ?aP (fun _ hk => hk.elim) ?aF ?aO ?aB ?aS ?aL ?_; (case aP => exact k81_mkM _ _ _ (⟨x7_1, x8_1⟩ : S81)); (case aB => exact (by repeat first | exact HB.out | apply below_alloc | apply pw_below_drewN | apply below_drew1)); (case aF => exact (fun _ _ => trivial)); (case aO => exact (by (with_reducible repeat (first | apply Kd.R_alloc | apply Kd.R_drewN | apply Kd.R_drew)); exact HO_6.out)); (case aS => exact (below_size (by repeat first | exact HB.out | apply below_alloc | apply pw_below_drewN | apply below_drew1))); (case aL => have := LMc15.out; omega); intro v146 w16 ho hb hg hat; rw [← Ny145.out] at ho; have n0_ := Aside0.mk (Kd.S_over' (by (with_reducible repeat (first | apply Kd.S_alloc | apply Kd.S_drewN | apply Kd.S_drew)); exact HO_5.out) (Kd.R_typed (by (with_reducible repeat (first | apply Kd.R_alloc | apply Kd.R_drewN | apply Kd.R_drew)); exact HO_6.out)) (by decide) hg); have n1_ := Aside0.mk (hb); have n2_ := Aside0.mk (ho); clear HO_5; clear HB; clear HO_6; have HO_5 := n0_; have HB := n1_; have HO147 := n2_; clear n0_ n1_ n2_; clear ho hb hg hat)); try go_wp2_with (first | ((with_reducible refine gate_builtin (b := .append) (xs := #[.tmp 37, .tmp 41]) rfl ?_); (try (refine gate_guard (by rfl) ?_; dsimp only)); at_builtin; refine Kd.R_append k81 (w0 := w) w.heap.size rfl (.tmp 37) (.tmp 41) 79 81 (.agg #[(.int .i64 0), (.int .i64 0)]) 16 rfl Try.underlying79 info81 rfl (by decide) (by omega) u6 x6_1 (⟨x7_1, x8_1⟩ : S81) [.int .i64 x7_1, .int .i64 x8_1] (fun _ => True) (fun _ => False) rfl rfl ?aP (fun _ hk => hk.elim) ?aF ?aO ?aB ?aS ?aL ?_; (case aP => exact k81_mkM _ _ _ (⟨x7_1, x8_1⟩ : S81)); (case aB => exact (by repeat first | exact HB.out | apply below_alloc | apply pw_below_drewN | apply below_drew1)); (case aF => exact (fun _ _ => trivial)); (case aO => exact (by (with_reducible repeat (first | apply Kd.R_alloc | apply Kd.R_drewN | apply Kd.R_drew)); exact HO_6.out)); (case aS => exact (below_size (by repeat first | exact HB.out | apply below_alloc | apply pw_below_drewN | apply below_drew1))); (case aL => have := LMc15.out; omega); intro v146 w16 ho hb hg hat; rw [← Ny145.out] at ho; have n0_ := Aside0.mk (Kd.S_over' (by (with_reducible repeat (first | apply Kd.S_alloc | apply Kd.S_drewN | apply Kd.S_drew)); exact HO_5.out) (Kd.R_typed (by (with_reducible repeat (first | apply Kd.R_alloc | apply Kd.R_drewN | apply Kd.R_drew)); exact HO_6.out)) (by decide) hg); have n1_ := Aside0.mk (hb); have n2_ := Aside0.mk (ho); clear HO_5; clear HB; clear HO_6; have HO_5 := n0_; have HB := n1_; have HO147 := n2_; clear n0_ n1_ n2_; clear ho hb hg hat)))
             go_roundg kj6
             case measure => have := HK1.out; have := HJ6.out; omega
             case rel => exact ⟨(y145), (wrap64 (x7_1 + 1)), (wrap64 (x8_1 + 1)), (by first | rfl | (simp; done) | (simp [*]; done)), (by first | rfl | (simp; done) | (simp [*]; done)), H', ⟨by have := HK1.out; have := HJ6.out; omega⟩, ⟨by (with_reducible repeat (first | apply Kd.S_alloc | apply Kd.S_drewN | apply Kd.S_drew)); exact HO_5.out⟩, ⟨by (with_reducible repeat (first | apply Kd.R_alloc | apply Kd.R_drewN | apply Kd.R_drew)); exact HO147.out⟩, ⟨by repeat first | exact HB.out | apply below_alloc | apply pw_below_drewN | apply below_drew1⟩⟩
            ·rw [if_neg c15] at H
             exact absurd H (by simp)
           ·rw [if_neg c14] at H
            have c14b0 : ((rdOf ByteArray.empty l0 x7_1).toList == (rdOf ByteArray.empty l1 x8_1).toList) = false := beq_eq_false_iff_ne.mpr c14
            have c14b1 : ((rdOf ByteArray.empty l0 x7_1).toList != (rdOf ByteArray.empty l1 x8_1).toList) = true := bne_iff_ne.mpr c14
            obtain ⟨ji17, hji17⟩ : ∃ j_ : Int, (wrap64 (x7_1 + 1)) = j_ := ⟨_, rfl⟩
            replace H : (if 0 ≤ (ji17) then (if (ji17) < (t140.length : Int) then (if x8_1 < ((rd_L3 t140 (ji17)).length : Int) then (if x7_1 < (t140.length : Int) then (if 0 ≤ (wrap64 (x8_1 + 1)) then (if (wrap64 (x8_1 + 1)) < ((rd_L3 t140 x7_1).length : Int) then (if (rd (rd_L3 t140 (ji17)) x8_1) ≥ (rd (rd_L3 t140 x7_1) (wrap64 (x8_1 + 1))) then (diff_Pairs_string.l0 kj6 l0 l1 t140 x6_1 ji17 x8_1) else (diff_Pairs_string.l0 kj6 l0 l1 t140 x6_1 x7_1 (wrap64 (x8_1 + 1)))) else (none)) else (none)) else (none)) else (none)) else (none)) else (none)) = some r := by first | (rw [hji17] at H; exact H) | (simp only [hji17] at H ⊢; exact H)
            have hji17w : (IntKind.i64.wrap (x7_1 + 1)) = ji17 := (i64_w _).trans hji17
            by_cases c18 : 0 ≤ (ji17)
            ·rw [if_pos c18] at H
             have c18b0 : decide (0 ≤ (ji17)) = true := decide_eq_true c18
             clear c18
             by_cases c19 : (ji17) < (t140.length : Int)
             ·rw [if_pos c19] at H
              have c19b0 : decide ((ji17) < (t140.length : Int)) = true := decide_eq_true c19
              clear c19
              by_cases c20 : x8_1 < ((rd_L3 t140 (ji17)).length : Int)
              ·rw [if_pos c20] at H
               have c20b0 : decide (x8_1 < ((rd_L3 t140 (ji17)).length : Int)) = true := decide_eq_true c20
               clear c20
               by_cases c21 : x7_1 < (t140.length : Int)
               ·rw [if_pos c21] at H
                have c21b0 : decide (x7_1 < (t140.length : Int)) = true := decide_eq_true c21
                clear c21
                obtain ⟨ji22, hji22⟩ : ∃ j_ : Int, (wrap64 (x8_1 + 1)) = j_ := ⟨_, rfl⟩
                replace H : (if 0 ≤ (ji22) then (if (ji22) < ((rd_L3 t140 x7_1).length : Int) then (if (rd (rd_L3 t140 (ji17)) x8_1) ≥ (rd (rd_L3 t140 x7_1) (ji22)) then (diff_Pairs_string.l0 kj6 l0 l1 t140 x6_1 ji17 x8_1) else (diff_Pairs_string.l0 kj6 l0 l1 t140 x6_1 x7_1 ji22)) else (none)) else (none)) = some r := by first | (rw [hji22] at H; exact H) | (simp only [hji22] at H ⊢; exact H)
                have hji22w : (IntKind.i64.wrap (x8_1 + 1)) = ji22 := (i64_w _).trans hji22
                by_cases c23 : 0 ≤ (ji22)
                ·rw [if_pos c23] at H
                 have c23b0 : decide (0 ≤ (ji22)) = true := decide_eq_true c23
                 clear c23
                 by_cases c24 : (ji22) < ((rd_L3 t140 x7_1).length : Int)
                 ·rw [if_pos c24] at H
                  have c24b0 : decide ((ji22) < ((rd_L3 t140 x7_1).length : Int)) = true := decide_eq_true c24
                  clear c24
                  by_cases c25 : (rd (rd_L3 t140 (ji17)) x8_1) ≥ (rd (rd_L3 t140 x7_1) (ji22))
                  ·rw [if_pos c25] at H
                   have c25b0 : decide ((rd (rd_L3 t140 x7_1) (ji22)) ≤ (rd (rd_L3 t140 (ji17)) x8_1)) = true := decide_eq_true c25
                   clear c25
                   have H' := Aside0.mk H
                   clear H
                   have p143 : 0 ≤ (x7_1 : Int) := of_decide_eq_true (by assumption)
                   have q143 : x7_1 < (l0.length : Int) := of_decide_eq_true (by assumption)
                   obtain ⟨ad143, e143, hx143_0⟩ := Kd.at_string HR0.out x7_1 p143 q143
                   cases e143
                   replace hx143_0 := (HB.out.cell (World.block_lt_of_cell? w _ hx143_0)).trans hx143_0
                   replace p143 := eq_true p143
                   replace q143 := eq_true q143
                   have p144 : 0 ≤ (x8_1 : Int) := of_decide_eq_true (by assumption)
                   have q144 : x8_1 < (l1.length : Int) := of_decide_eq_true (by assumption)
                   obtain ⟨ad144, e144, hx144_0⟩ := Kd.at_string HR1.out x8_1 p144 q144
                   cases e144
                   replace hx144_0 := (HB.out.cell (World.block_lt_of_cell? w _ hx144_0)).trans hx144_0
                   replace p144 := eq_true p144
                   replace q144 := eq_true q144
                   obtain ⟨Ao26, co26, eo26⟩ := Kd.S_slice HO_5.out
                   subst eo26
                   have p148 : 0 ≤ ((ji17) : Int) := of_decide_eq_true (by assumption)
                   have q148 : (ji17) < (t140.length : Int) := of_decide_eq_true (by assumption)
                   obtain ⟨ad148, A148_0, c148_0, e148, hx148_0, hl148_0, hi148_0⟩ := at_L3 (Kd.S_reads' HO_5.out).2.2 (ji17) p148 q148
                   cases e148
                   obtain ⟨ce148, hce148, hMe148, hcc148⟩ := Kd.S_get HO_5.out [] (ji17) p148 (by first | exact q148 | exact of_decide_eq_true (by assumption) | (have e_ := (Kd.S_reads' HO_5.out).1; omega))
                   obtain ⟨ve148_0, rfl, ge148_0⟩ := hMe148
                   have hv148_0 := hcc148 0 _ rfl
                   rw [Nat.add_zero, show ((Kd.slice 3 (Kd.int .i64))).sz = 1 from rfl, Nat.mul_one] at hv148_0
                   replace hv148_0 := Option.some.inj (hv148_0.symm.trans hx148_0)
                   rw [hv148_0] at ge148_0
                   have HL148_0 := Aside0.mk (show Kd.R (Kd.int .i64) 3 _ _ _ _ (rd_L3 t140 (ji17)) from ge148_0)
                   clear hv148_0 ge148_0
                   clear hcc148 hce148
                   have HR148_0 := Aside0.mk hi148_0
                   have HC148_0 := Aside0.mk hl148_0
                   clear hi148_0 hl148_0
                   replace p148 := eq_true p148
                   replace q148 := eq_true q148
                   have p149 : 0 ≤ (x8_1 : Int) := of_decide_eq_true (by assumption)
                   have q149 : x8_1 < ((rd_L3 t140 (ji17)).length : Int) := of_decide_eq_true (by assumption)
                   obtain ⟨ad149, e149, hx149_0⟩ := Kd.at_int (by repeat (first | (with_reducible exact HR148_0.out) | (with_reducible refine Kd.C_alloc ?_ _) | (with_reducible refine Kd.C_drewN ?_ _) | (with_reducible refine Kd.C_drew ?_) | exact HR148_0.out)) x8_1 p149 q149
                   cases e149
                   replace p149 := eq_true p149
                   replace q149 := eq_true q149
                   have p150 : 0 ≤ (x7_1 : Int) := of_decide_eq_true (by assumption)
                   have q150 : x7_1 < (t140.length : Int) := of_decide_eq_true (by assumption)
                   obtain ⟨ad150, A150_0, c150_0, e150, hx150_0, hl150_0, hi150_0⟩ := at_L3 (Kd.S_reads' HO_5.out).2.2 x7_1 p150 q150
                   obtain rfl : ad148 = ad150 := (by injection e150)
                   obtain ⟨ce150, hce150, hMe150, hcc150⟩ := Kd.S_get HO_5.out [] x7_1 p150 (by first | exact q150 | exact of_decide_eq_true (by assumption) | (have e_ := (Kd.S_reads' HO_5.out).1; omega))
                   obtain ⟨ve150_0, rfl, ge150_0⟩ := hMe150
                   have hv150_0 := hcc150 0 _ rfl
                   rw [Nat.add_zero, show ((Kd.slice 3 (Kd.int .i64))).sz = 1 from rfl, Nat.mul_one] at hv150_0
                   replace hv150_0 := Option.some.inj (hv150_0.symm.trans hx150_0)
                   rw [hv150_0] at ge150_0
                   have HL150_0 := Aside0.mk (show Kd.R (Kd.int .i64) 3 _ _ _ _ (rd_L3 t140 x7_1) from ge150_0)
                   clear hv150_0 ge150_0
                   clear hcc150 hce150
                   have HR150_0 := Aside0.mk hi150_0
                   have HC150_0 := Aside0.mk hl150_0
                   clear hi150_0 hl150_0
                   replace p150 := eq_true p150
                   replace q150 := eq_true q150
                   have p151 : 0 ≤ ((ji22) : Int) := of_decide_eq_true (by assumption)
                   have q151 : (ji22) < ((rd_L3 t140 x7_1).length : Int) := of_decide_eq_true (by assumption)
                   obtain ⟨ad151, e151, hx151_0⟩ := Kd.at_int (by repeat (first | (with_reducible exact HR150_0.out) | (with_reducible refine Kd.C_alloc ?_ _) | (with_reducible refine Kd.C_drewN ?_ _) | (with_reducible refine Kd.C_drew ?_) | exact HR150_0.out)) (ji22) p151 q151
                   cases e151
                   replace p151 := eq_true p151
                   replace q151 := eq_true q151
                   go_wp2
                   repeat (go_quiet (fail); try go_wp2)
                   go_roundg kj6
                   case measure => have := HK1.out; have := HJ6.out; omega
                   case rel => exact ⟨(x6_1), (ji17), (x8_1), (by first | rfl | (simp; done) | (simp only [← hji17] <;> (first | rfl | simp)) | (simp [*]; done)), (by first | rfl | (simp; done) | (simp [*]; done)), H', ⟨by have := HK1.out; have := HJ6.out; omega⟩, ⟨by (with_reducible repeat (first | apply Kd.S_alloc | apply Kd.S_drewN | apply Kd.S_drew)); exact HO_5.out⟩, ⟨by (with_reducible repeat (first | apply Kd.R_alloc | apply Kd.R_drewN | apply Kd.R_drew)); exact HO_6.out⟩, ⟨by repeat first | exact HB.out | apply below_alloc | apply pw_below_drewN | apply below_drew1⟩⟩
                  ·rw [if_neg c25] at H
                   have c25b0 : decide ((rd (rd_L3 t140 x7_1) (ji22)) ≤ (rd (rd_L3 t140 (ji17)) x8_1)) = false := decide_eq_false c25
                   clear c25
                   have H' := Aside0.mk H
                   clear H
                   have p143 : 0 ≤ (x7_1 : Int) := of_decide_eq_true (by assumption)
                   have q143 : x7_1 < (l0.length : Int) := of_decide_eq_true (by assumption)
                   obtain ⟨ad143, e143, hx143_0⟩ := Kd.at_string HR0.out x7_1 p143 q143
                   cases e143
                   replace hx143_0 := (HB.out.cell (World.block_lt_of_cell? w _ hx143_0)).trans hx143_0
                   replace p143 := eq_true p143
                   replace q143 := eq_true q143
                   have p144 : 0 ≤ (x8_1 : Int) := of_decide_eq_true (by assumption)
                   have q144 : x8_1 < (l1.length : Int) := of_decide_eq_true (by assumption)
                   obtain ⟨ad144, e144, hx144_0⟩ := Kd.at_string HR1.out x8_1 p144 q144
                   cases e144
                   replace hx144_0 := (HB.out.cell (World.block_lt_of_cell? w _ hx144_0)).trans hx144_0
                   replace p144 := eq_true p144
                   replace q144 := eq_true q144
                   obtain ⟨Ao27, co27, eo27⟩ := Kd.S_slice HO_5.out
                   subst eo27
                   have p148 : 0 ≤ ((ji17) : Int) := of_decide_eq_true (by assumption)
                   have q148 : (ji17) < (t140.length : Int) := of_decide_eq_true (by assumption)
                   obtain ⟨ad148, A148_0, c148_0, e148, hx148_0, hl148_0, hi148_0⟩ := at_L3 (Kd.S_reads' HO_5.out).2.2 (ji17) p148 q148
                   cases e148
                   obtain ⟨ce148, hce148, hMe148, hcc148⟩ := Kd.S_get HO_5.out [] (ji17) p148 (by first | exact q148 | exact of_decide_eq_true (by assumption) | (have e_ := (Kd.S_reads' HO_5.out).1; omega))
                   obtain ⟨ve148_0, rfl, ge148_0⟩ := hMe148
                   have hv148_0 := hcc148 0 _ rfl
                   rw [Nat.add_zero, show ((Kd.slice 3 (Kd.int .i64))).sz = 1 from rfl, Nat.mul_one] at hv148_0
                   replace hv148_0 := Option.some.inj (hv148_0.symm.trans hx148_0)
                   rw [hv148_0] at ge148_0
                   have HL148_0 := Aside0.mk (show Kd.R (Kd.int .i64) 3 _ _ _ _ (rd_L3 t140 (ji17)) from ge148_0)
                   clear hv148_0 ge148_0
                   clear hcc148 hce148
                   have HR148_0 := Aside0.mk hi148_0
                   have HC148_0 := Aside0.mk hl148_0
                   clear hi148_0 hl148_0
                   replace p148 := eq_true p148
                   replace q148 := eq_true q148
                   have p149 : 0 ≤ (x8_1 : Int) := of_decide_eq_true (by assumption)
                   have q149 : x8_1 < ((rd_L3 t140 (ji17)).length : Int) := of_decide_eq_true (by assumption)
                   obtain ⟨ad149, e149, hx149_0⟩ := Kd.at_int (by repeat (first | (with_reducible exact HR148_0.out) | (with_reducible refine Kd.C_alloc ?_ _) | (with_reducible refine Kd.C_drewN ?_ _) | (with_reducible refine Kd.C_drew ?_) | exact HR148_0.out)) x8_1 p149 q149
                   cases e149
                   replace p149 := eq_true p149
                   replace q149 := eq_true q149
                   have p150 : 0 ≤ (x7_1 : Int) := of_decide_eq_true (by assumption)
                   have q150 : x7_1 < (t140.length : Int) := of_decide_eq_true (by assumption)
                   obtain ⟨ad150, A150_0, c150_0, e150, hx150_0, hl150_0, hi150_0⟩ := at_L3 (Kd.S_reads' HO_5.out).2.2 x7_1 p150 q150
                   obtain rfl : ad148 = ad150 := (by injection e150)
                   obtain ⟨ce150, hce150, hMe150, hcc150⟩ := Kd.S_get HO_5.out [] x7_1 p150 (by first | exact q150 | exact of_decide_eq_true (by assumption) | (have e_ := (Kd.S_reads' HO_5.out).1; omega))
                   obtain ⟨ve150_0, rfl, ge150_0⟩ := hMe150
                   have hv150_0 := hcc150 0 _ rfl
                   rw [Nat.add_zero, show ((Kd.slice 3 (Kd.int .i64))).sz = 1 from rfl, Nat.mul_one] at hv150_0
                   replace hv150_0 := Option.some.inj (hv150_0.symm.trans hx150_0)
                   rw [hv150_0] at ge150_0
                   have HL150_0 := Aside0.mk (show Kd.R (Kd.int .i64) 3 _ _ _ _ (rd_L3 t140 x7_1) from ge150_0)
                   clear hv150_0 ge150_0
                   clear hcc150 hce150
                   have HR150_0 := Aside0.mk hi150_0
                   have HC150_0 := Aside0.mk hl150_0
                   clear hi150_0 hl150_0
                   replace p150 := eq_true p150
                   replace q150 := eq_true q150
                   have p151 : 0 ≤ ((ji22) : Int) := of_decide_eq_true (by assumption)
                   have q151 : (ji22) < ((rd_L3 t140 x7_1).length : Int) := of_decide_eq_true (by assumption)
                   obtain ⟨ad151, e151, hx151_0⟩ := Kd.at_int (by repeat (first | (with_reducible exact HR150_0.out) | (with_reducible refine Kd.C_alloc ?_ _) | (with_reducible refine Kd.C_drewN ?_ _) | (with_reducible refine Kd.C_drew ?_) | exact HR150_0.out)) (ji22) p151 q151
                   cases e151
                   replace p151 := eq_true p151
                   replace q151 := eq_true q151
                   go_wp2
                   repeat (go_quiet (fail); try go_wp2)
                   go_roundg kj6
                   case measure => have := HK1.out; have := HJ6.out; omega
                   case rel => exact ⟨(x6_1), (x7_1), (ji22), (by first | rfl | (simp; done) | (simp [*]; done)), (by first | rfl | (simp; done) | (simp only [← hji22] <;> (first | rfl | simp)) | (simp [*]; done)), H', ⟨by have := HK1.out; have := HJ6.out; omega⟩, ⟨by (with_reducible repeat (first | apply Kd.S_alloc | apply Kd.S_drewN | apply Kd.S_drew)); exact HO_5.out⟩, ⟨by (with_reducible repeat (first | apply Kd.R_alloc | apply Kd.R_drewN | apply Kd.R_drew)); exact HO_6.out⟩, ⟨by repeat first | exact HB.out | apply below_alloc | apply pw_below_drewN | apply below_drew1⟩⟩
                 ·rw [if_neg c24] at H
                  exact absurd H (by simp)
                ·rw [if_neg c23] at H
                 exact absurd H (by simp)
               ·rw [if_neg c21] at H
                exact absurd H (by simp)
              ·rw [if_neg c20] at H
               exact absurd H (by simp)
             ·rw [if_neg c19] at H
              exact absurd H (by simp)
            ·rw [if_neg c18] at H
             exact absurd H (by simp)
          ·rw [if_neg c13] at H
           exact absurd H (by simp)
         ·rw [if_neg c12] at H
          exact absurd H (by simp)
        ·rw [if_neg c11] at H
         exact absurd H (by simp)
       ·rw [if_neg c10] at H
        exact absurd H (by simp)
      ·replace c9 := Bool.eq_false_iff.mpr c9
       subst c9
       have H1 : (some x6_1) = some r := by rw [if_neg (show ¬ (false = true) by decide)] at H; exact H
       clear H
       have H := H1
       clear H1
       obtain rfl := Option.some.inj H
       go_wp2
       repeat (go_quiet (fail); try go_wp2)
       go_ret
       exact ⟨_, by first | rfl | (simp [errW_none, errW_some] <;> rfl) | (simp [*, errW_none, errW_some] <;> rfl), by (with_reducible repeat (first | apply Kd.R_alloc | apply Kd.R_drewN | apply Kd.R_drew)); exact HO_6.out, by repeat first | exact HB.out | apply below_alloc | apply pw_below_drewN | apply below_drew1⟩

/-! ### three_standing_string: function 36 -/
/-- The places that stand in all three, and the last one behind all. -/
def three_standing_string.g (p q : List S81) (n m o : Int) : List S56 :=
 (q.filterMap fun e => (Go.Proofs.Ythghpmnbnfbheaa.XMap.lastOf (p.map fun d => (d.f0, d.f1)) e.f0).map fun j => (⟨e.f0, e.f1, j⟩ : S56)) ++ [⟨n, m, o⟩]
def three_standing_string.ok (p : List S81) : Bool := decide (p.length ≤ 1000000) && p.all fun e => (Lit.int .i64 e.f0).wf && (Lit.int .i64 e.f1).wf
def three_standing_string.f (k : Nat) (l0 : List ByteArray) (l1 : List ByteArray) (l2 : List ByteArray) : Option (List S56) := (diff_Pairs_string.f k l0 l2).bind fun p => (diff_Pairs_string.f k l0 l1).bind fun q => if three_standing_string.ok p = true then (if three_standing_string.ok q = true then some (three_standing_string.g p q (l0.length : Int) (l1.length : Int) (l2.length : Int)) else none) else none
theorem three_standing_string.mono : ∀ a0 a1 a2 k, LeO (three_standing_string.f k a0 a1 a2) (three_standing_string.f (k + 1) a0 a1 a2) := by
 intro a0 a1 a2 k
 unfold three_standing_string.f
 exact LeO.bind (diff_Pairs_string.mono _ _ _) (fun _ => LeO.bind (diff_Pairs_string.mono _ _ _) (fun _ => LeO.refl _))
set_option maxHeartbeats 8000000 in
set_option maxRecDepth 100000 in
theorem three_standing_string.calls (k : Nat) (A0 : Option Addr) (c0 : Nat) (l0 : List ByteArray) (A1 : Option Addr) (c1 : Nat) (l1 : List ByteArray) (A2 : Option Addr) (c2 : Nat) (l2 : List ByteArray) (r : List S56) (w : World) (hr0 : Kd.C Kd.string w A0 l0.length l0) (hc0 : l0.length ≤ c0) (hr1 : Kd.C Kd.string w A1 l1.length l1) (hc1 : l1.length ≤ c1) (hr2 : Kd.C Kd.string w A2 l2.length l2) (hc2 : l2.length ≤ c2) (h : three_standing_string.f k l0 l1 l2 = some r) :
 Calls Try.prog 36 #[.slice A0 l0.length c0, .slice A1 l1.length c1, .slice A2 l2.length c2] w fun e w' => ∃ v0_ : Value, e = .returned v0_ ∧ Kd.R k56 56 w' w.heap.size (fun _ => True) v0_ r ∧ Below w.heap.size w w' := by
 unfold three_standing_string.f at h
 obtain ⟨p, hp, h⟩ := Option.bind_eq_some_iff.mp h
 obtain ⟨q, hq, h⟩ := Option.bind_eq_some_iff.mp h
 split at h
 case isFalse => cases h
 rename_i hokp
 split at h
 case isFalse => cases h
 rename_i hokq
 obtain rfl := Option.some.inj h
 have HR0 := Aside0.mk hr0
 have HR1 := Aside0.mk hr1
 have HR2 := Aside0.mk hr2
 have HP := Aside0.mk hp
 have HQ := Aside0.mk hq
 have OKP := Aside0.mk hokp
 have OKQ := Aside0.mk hokq
 clear hr0 hr1 hr2 hp hq hokp hokq h
 have hmm := @run_makeMap Try.prog
 go_enter Try.func36, Try.ntmps36
 go_wp2_with (first | (go_at_call 51; (with_reducible refine (diff_Pairs_string.calls k _ _ l0 _ _ l2 p _ ?side1 ?side2 ?side3 ?side4 HP.out).mono ?_); (case side1 => exact Kd.C_below HR0.out (below_alloc (Below.refl _ _) _)); (case side2 => exact hc0); (case side3 => exact Kd.C_below HR2.out (below_alloc (Below.refl _ _) _)); (case side4 => exact hc2); rintro e w1 ⟨v1, rfl, ho1, hb1⟩; have HO1 := Aside0.mk ho1; have HB1 := Aside0.mk hb1; clear ho1 hb1; obtain ⟨A3, c3, e3⟩ := Kd.R_slice HO1.out; subst e3))
 have HMAP : Aside0 (World.ownsMap (H := Unit) w1 Try.prog 3 (plainElem Try.prog 3) w.heap.size 0 (.map [])) := ⟨(World.ownsMap_made w Try.prog _ _).kept (grown_of_below HB1.out none) (by simp)⟩
 have HB : Aside0 (Below w.heap.size w w1) := ⟨below_then (below_alloc (Below.refl _ _) _) (by simp) HB1.out⟩
 go_loopg [20] p.length (fun kq v20 w' => ∃ (i : Nat) (D : DataW Unit), v20 = .int .i64 (i : Int) ∧ Aside0 (i + kq = p.length) ∧ Aside0 (w'.ownsMap Try.prog 3 (plainElem Try.prog 3) w.heap.size i D) ∧ Aside0 (Go.Proofs.Ythghpmnbnfbheaa.XMap.MapIs D (Go.Proofs.Ythghpmnbnfbheaa.XMap.lastOf ((p.take i).map fun d => (d.f0, d.f1)))) ∧ Aside0 (Kd.R k81 81 w' (w.heap.size + 1) (fun k => k ≠ w.heap.size) (.slice A3 p.length c3) p) ∧ Aside0 (Below w.heap.size w w'))
 case atStart => exact ⟨0, _, rfl, ⟨by simp⟩, HMAP, ⟨Go.Proofs.Ythghpmnbnfbheaa.XMap.MapIs.nil⟩, ⟨Kd.R_mono (Kd.R_bound (by simpa using HO1.out : Kd.R k81 81 w1 (w.heap.size + 1) (fun _ => True) (.slice A3 p.length c3) p)) (fun k hk => by have := hk.2.1; omega)⟩, HB⟩
 case round =>
  clear HMAP HB HO1 HB1
  obtain ⟨i, D, rfl, HI, HM, HD, HO1, HB⟩ := hrel
  by_cases hlt : i < p.length
  ·obtain ⟨ad1, e1, hx0, hx1⟩ := at_T81 (Kd.R_reads' HO1.out).2.2 (i : Int) (by omega) (by omega)
   cases e1
   have hz : rd_T81 p (i : Int) = p[i] := by unfold rd_T81; simp [hlt]
   simp only [Int.toNat_natCast, hz] at hx0 hx1
   clear hz
   obtain ⟨wf0, wf1⟩ : (Lit.int .i64 p[i].f0).wf ∧ (Lit.int .i64 p[i].f1).wf := by
    have hh := OKP.out
    unfold three_standing_string.ok at hh
    rw [Bool.and_eq_true, List.all_eq_true] at hh
    have := hh.2 p[i] (List.getElem_mem hlt)
    simpa using this
   have WF0 := Aside0.mk wf0
   have WF1 := Aside0.mk wf1
   have hlen : p.length ≤ 1000000 := by
    have hh := OKP.out
    unfold three_standing_string.ok at hh
    rw [Bool.and_eq_true] at hh
    simpa using hh.1
   clear wf0 wf1
   go_wp2_with (first | (at_mapUpdate; refine wpList_mapUpdate_own _ rfl _ _ _ 78 rfl 3 3 (Maps.int_keyed Try.underlying3) Try.underlying78 _ w.heap.size i D rfl (HM.out.alloc _) (by unfold maxLen; omega) _ _ _ rfl rfl (Maps.keyOf_int_mk Try.underlying3 WF0.out) _ [] (plainElem_int Try.underlying3 WF1.out) ?_; intro w2 hm2 hg2; have HM2 := Aside0.mk hm2; have HG2 := Aside0.mk hg2; clear hm2 hg2))
   go_roundg (p.length - (i + 1))
   case measure => have := HI.out; omega
   case rel =>
    refine ⟨i + 1, _, ?_, ⟨by omega⟩, HM2, ⟨?_⟩, ⟨Kd.R_grown (Kd.R_alloc HO1.out _) HG2.out (fun k hk => by simpa using hk)⟩, ⟨Below.grown (below_alloc HB.out _) HG2.out (by have := HB.out.size; simp; omega) (fun k hk => by cases hk; exact Nat.le_refl _)⟩⟩
    ·have hwr : wrap64 ((i : Int) + 1) = ((i + 1 : Nat) : Int) := by unfold wrap64; omega
     first | rw [hwr] | (simp [hwr]; done)
    ·have hh := Go.Proofs.Ythghpmnbnfbheaa.XMap.MapIs.put HD.out p[i].f0 p[i].f1
     have he : (fun u => if u = p[i].f0 then some p[i].f1 else Go.Proofs.Ythghpmnbnfbheaa.XMap.lastOf ((p.take i).map fun d => (d.f0, d.f1)) u) = Go.Proofs.Ythghpmnbnfbheaa.XMap.lastOf ((p.take (i + 1)).map fun d => (d.f0, d.f1)) := by
      funext u
      rw [List.take_succ_eq_append_getElem hlt, List.map_append, List.map_singleton, Go.Proofs.Ythghpmnbnfbheaa.XMap.lastOf_snoc]
     rw [he] at hh
     exact hh
  ·have hi : i = p.length := by have := HI.out; omega
   subst hi
   clear hlt HI
   rw [List.take_length] at HD
   go_wp2_with (first | (go_at_call 51; (with_reducible refine (diff_Pairs_string.calls k _ _ l0 _ _ l1 q _ ?side1 ?side2 ?side3 ?side4 HQ.out).mono ?_); (case side1 => exact Kd.C_below HR0.out HB.out); (case side2 => exact hc0); (case side3 => exact Kd.C_below HR1.out HB.out); (case side4 => exact hc1); rintro e w2 ⟨v2, rfl, ho2, hb2⟩; have HO2 := Aside0.mk ho2; have HB2 := Aside0.mk hb2; clear ho2 hb2; obtain ⟨A4, c4, e4⟩ := Kd.R_slice HO2.out; subst e4))
   have HSZ : Aside0 (w.heap.size < wr.heap.size) := ⟨HM.out.lt⟩
   have HM2 : Aside0 (World.ownsMap (H := Unit) w2 Try.prog 3 (plainElem Try.prog 3) w.heap.size p.length D) := ⟨HM.out.kept (grown_of_below HB2.out none) (by simp)⟩
   have HB3 : Aside0 (Below w.heap.size w w2) := ⟨below_then HB.out (by have := HSZ.out; omega) HB2.out⟩
   have HB2S : Aside0 (wr.heap.size ≤ w2.heap.size) := ⟨HB2.out.size⟩
   clear HB HM HO1 HB2
   have hlen : q.length ≤ 1000000 := by
    have hh := OKQ.out
    unfold three_standing_string.ok at hh
    rw [Bool.and_eq_true] at hh
    simpa using hh.1
   generalize hF : (fun e : S81 => (Go.Proofs.Ythghpmnbnfbheaa.XMap.lastOf (p.map fun d => (d.f0, d.f1)) e.f0).map fun j => (⟨e.f0, e.f1, j⟩ : S56)) = F
   have HF := Aside0.mk hF
   clear hF
   go_loopg [10, 34] q.length (fun kq v10 v34 w' => ∃ (i : Nat), v34 = .int .i64 (i : Int) ∧ Aside0 (i + kq = q.length) ∧ Aside0 (w.heap.size < w'.heap.size) ∧ Aside0 (w'.ownsMap Try.prog 3 (plainElem Try.prog 3) w.heap.size p.length D) ∧ Aside0 (Kd.R k81 81 w' wr.heap.size (fun _ => True) (.slice A4 q.length c4) q) ∧ Aside0 (Kd.R k56 56 w' w.heap.size (fun k => k ≠ w.heap.size ∧ some k ≠ (Value.slice A4 q.length c4).ownBlock) v10 ((q.take i).filterMap F)) ∧ Aside0 (Below w.heap.size w w'))
   case atStart => exact ⟨0, rfl, ⟨by simp⟩, ⟨by have := HSZ.out; have := HB2S.out; omega⟩, HM2, ⟨by simpa using HO2.out⟩, ⟨by simpa using Kd.R_nil _ _ _ _ _⟩, HB3⟩
   case round =>
    clear HM2 HB3 HO2 HB2S HSZ
    obtain ⟨i, rfl, HI, HS, HM, HO2, HL, HB⟩ := hrel
    by_cases hlt : i < q.length
    ·obtain ⟨ad2, e2, hx0, hx1⟩ := at_T81 (Kd.R_reads' HO2.out).2.2 (i : Int) (by omega) (by omega)
     cases e2
     have hz : rd_T81 q (i : Int) = q[i] := by unfold rd_T81; simp [hlt]
     simp only [Int.toNat_natCast, hz] at hx0 hx1
     clear hz
     obtain ⟨wf0, wf1⟩ : (Lit.int .i64 q[i].f0).wf ∧ (Lit.int .i64 q[i].f1).wf := by
      have hh := OKQ.out
      unfold three_standing_string.ok at hh
      rw [Bool.and_eq_true, List.all_eq_true] at hh
      have := hh.2 q[i] (List.getElem_mem hlt)
      simpa using this
     have WF0 := Aside0.mk wf0
     clear wf0 wf1
     have hwr : wrap64 ((i : Int) + 1) = ((i + 1 : Nat) : Int) := by unfold wrap64; omega
     have hsnoc : (q.take (i + 1)).filterMap F = (q.take i).filterMap F ++ (F q[i]).toList := by
      rw [List.take_succ_eq_append_getElem hlt, List.filterMap_append]
      cases hc : F q[i] <;> simp [hc]
     rcases hl : Go.Proofs.Ythghpmnbnfbheaa.XMap.lastOf (p.map fun d => (d.f0, d.f1)) q[i].f0 with _ | j
     ·have hhit := (HD.out.2 q[i].f0).2 hl
      have hFi : F q[i] = none := by rw [← HF.out]; simp [hl]
      rw [hFi] at hsnoc
      simp only [Option.toList_none, List.append_nil] at hsnoc
      have HSN := Aside0.mk hsnoc
      have HWR := Aside0.mk hwr
      clear hsnoc hwr hFi hl
      go_wp2_with (first | (at_lookup; refine wpList_lookup_own_ok_int _ rfl _ _ 78 rfl 3 3 .i64 (Maps.int_keyed Try.underlying3) Try.underlying78 Try.underlying3 (by kernel_rfl) w.heap.size p.length D rfl (HM.out.alloc _) _ _ rfl (Maps.keyOf_int_mk Try.underlying3 WF0.out) ?_; intro cL hat hwc; rw [hhit]; clear hat hwc))
      go_roundg (q.length - (i + 1))
      case measure => have := HI.out; omega
      case rel =>
       refine ⟨i + 1, ?_, ⟨by omega⟩, ⟨by have := HS.out; simp; omega⟩, ⟨HM.out.alloc _⟩, ⟨Kd.R_alloc HO2.out _⟩, ⟨by rw [HSN.out]; exact Kd.R_alloc HL.out _⟩, ⟨below_alloc HB.out _⟩⟩
       first | rw [HWR.out] | (simp [HWR.out]; done)
     ·obtain ⟨hhit, hatk⟩ := (HD.out.2 q[i].f0).1 j hl
      have hFi : F q[i] = some (⟨q[i].f0, q[i].f1, j⟩ : S56) := by rw [← HF.out]; simp [hl]
      rw [hFi] at hsnoc
      simp only [Option.toList_some] at hsnoc
      have HSN := Aside0.mk hsnoc
      have HWR := Aside0.mk hwr
      have hle : ((q.take i).filterMap F).length ≤ 1000000 := Nat.le_trans (List.length_filterMap_le _ _) (by simp; omega)
      clear hsnoc hwr hFi hl
      go_wp2_with (first | (at_lookup; refine wpList_lookup_own_ok_int _ rfl _ _ 78 rfl 3 3 .i64 (Maps.int_keyed Try.underlying3) Try.underlying78 Try.underlying3 (by kernel_rfl) w.heap.size p.length D rfl (HM.out.alloc _) _ _ rfl (Maps.keyOf_int_mk Try.underlying3 WF0.out) ?_; intro cL hat hwc; rw [hhit]; (have hcj : cL = j := (by have h1 := (hatk _).symm.trans hat; injection h1 with h1; injection h1 with _ h1; exact h1.symm)); rw [hcj]; clear hat hwc hcj) | ((with_reducible refine gate_builtin (b := .append) (xs := #[.tmp 46, .tmp 53]) rfl ?_); (try (refine gate_guard (by rfl) ?_; dsimp only)); at_builtin; refine Kd.R_append k56 (w0 := w) w.heap.size rfl (.tmp 46) (.tmp 53) 58 56 (.agg #[(.int .i64 0), (.int .i64 0), (.int .i64 0)]) 24 rfl Try.underlying58 info56 rfl (by decide) (by omega) u10 ((q.take i).filterMap F) (⟨q[i].f0, q[i].f1, j⟩ : S56) [.int .i64 q[i].f0, .int .i64 q[i].f1, .int .i64 j] (fun k => k ≠ w.heap.size ∧ some k ≠ (Value.slice (some ad2) q.length c4).ownBlock) (fun _ => False) rfl (Eq.trans (b := .slice (some ⟨wr.heap.size + 1, 0, none⟩) 1 1) rfl (by simp)) ?aP (fun _ hk => hk.elim) ?aF ?aO ?aB ?aS ?aL ?_; (case aP => exact k56_mkM _ _ _ (⟨q[i].f0, q[i].f1, j⟩ : S56)); (case aB => exact (below_alloc HB.out _)); (case aF => exact (fun k hk => ⟨by have := HS.out; simp at hk; omega, fun e => by have := Kd.R_lt HO2.out k e.symm; simp at hk; omega⟩)); (case aO => exact (Kd.R_alloc HL.out _)); (case aS => have := HS.out; simp; omega); (case aL => omega); intro v217 w16 ho hb hg hat; have HM3 : Aside0 (World.ownsMap (H := Unit) w16 Try.prog 3 (plainElem Try.prog 3) w.heap.size p.length D) := ⟨(HM.out.alloc _).kept hg (fun e => (HL.out.1 _ e.symm).1 rfl)⟩; have HO3 : Aside0 (Kd.R k81 81 w16 _ (fun _ => True) (.slice (some ad2) q.length c4) q) := ⟨Kd.R_grown2 (Kd.R_alloc HO2.out _) rfl hg (fun k hk => (HL.out.1 k hk).2)⟩; have HL3 := Aside0.mk ho; have HB3 := Aside0.mk hb; have HS3 : Aside0 (w.heap.size < w16.heap.size) := ⟨by have := HS.out; have := hg.size; simp at this; omega⟩; clear ho hb hg hat))
      go_roundg (q.length - (i + 1))
      case measure => have := HI.out; omega
      case rel =>
       refine ⟨i + 1, ?_, ⟨by omega⟩, HS3, HM3, HO3, ⟨by rw [HSN.out]; exact HL3.out⟩, HB3⟩
       first | rw [HWR.out] | (simp [HWR.out]; done)
    ·have hi : i = q.length := by have := HI.out; omega
     subst hi
     clear hlt HI
     rw [List.take_length] at HL
     have hle : (q.filterMap F).length ≤ 1000000 := Nat.le_trans (List.length_filterMap_le _ _) hlen
     go_wp2_with (first | ((with_reducible refine gate_builtin (b := .append) (xs := #[.tmp 56, .tmp 64]) rfl ?_); (try (refine gate_guard (by rfl) ?_; dsimp only)); at_builtin; refine Kd.R_append k56 (w0 := w) w.heap.size rfl (.tmp 56) (.tmp 64) 58 56 (.agg #[(.int .i64 0), (.int .i64 0), (.int .i64 0)]) 24 rfl Try.underlying58 info56 rfl (by decide) (by omega) u10 (q.filterMap F) (⟨(l0.length : Int), (l1.length : Int), (l2.length : Int)⟩ : S56) [.int .i64 (l0.length : Int), .int .i64 (l1.length : Int), .int .i64 (l2.length : Int)] (fun k => k ≠ w.heap.size ∧ some k ≠ (Value.slice A4 q.length c4).ownBlock) (fun _ => False) rfl rfl ?aP (fun _ hk => hk.elim) ?aF ?aO ?aB ?aS ?aL ?_; (case aP => exact k56_mkM _ _ _ (⟨(l0.length : Int), (l1.length : Int), (l2.length : Int)⟩ : S56)); (case aB => exact HB.out); (case aF => exact (fun k hk => ⟨by have := HS.out; (try simp at hk); omega, fun e => by have := Kd.R_lt HO2.out k e.symm; (try simp at hk); omega⟩)); (case aO => exact HL.out); (case aS => have := HS.out; (try simp); omega); (case aL => omega); intro v217 w16 ho hb hg hat; have HL3 := Aside0.mk ho; have HB3 := Aside0.mk hb; clear ho hb hg hat))
     go_ret
     refine ⟨_, rfl, ?_, HB3.out⟩
     have hg' : three_standing_string.g p q (l0.length : Int) (l1.length : Int) (l2.length : Int) = q.filterMap F ++ [(⟨(l0.length : Int), (l1.length : Int), (l2.length : Int)⟩ : S56)] := by
      unfold three_standing_string.g
      rw [← HF.out]
     rw [hg']
     exact Kd.R_mono HL3.out (fun _ _ => trivial)

/-! ### slices_Equal_string_string: function 37 -/
def slices_Equal_string_string.l0 : Nat → List ByteArray → List ByteArray → Int → Int → Option (Bool)
 | 0, _, _, _, _ => none
 | k + 1, x0, x1, x12, x13 => if x13 < x12 then (if 0 ≤ x13 then (if x13 < (x0.length : Int) then (if x13 < (x1.length : Int) then (if (rdOf ByteArray.empty x0 x13).toList = (rdOf ByteArray.empty x1 x13).toList then (slices_Equal_string_string.l0 k x0 x1 x12 (wrap64 (x13 + 1))) else (some false)) else (none)) else (none)) else (none)) else (some true)
def slices_Equal_string_string.f (k : Nat) (l0 : List ByteArray) (l1 : List ByteArray) : Option (Bool) := if (l0.length : Int) = (l1.length : Int) then (slices_Equal_string_string.l0 k l0 l1 (l0.length : Int) 0) else (some false)
theorem slices_Equal_string_string.mono_l : ∀ k, (∀ y0 y1 y2 y3, LeO (slices_Equal_string_string.l0 k y0 y1 y2 y3) (slices_Equal_string_string.l0 (k + 1) y0 y1 y2 y3))
 | 0 => fun _ _ _ _ r h => by simp [slices_Equal_string_string.l0] at h
 | k + 1 => by
  have ih0 := slices_Equal_string_string.mono_l k
  ·intro y0 y1 y2 y3
   unfold slices_Equal_string_string.l0
   repeat' first
   | (with_reducible exact ih0 _ _ _ _)
   | (with_reducible exact LeO.refl _)
   | (with_reducible exact LeO.none _)
   | (with_reducible refine LeO.ite ?_ ?_)
   | (with_reducible refine LeO.bind ?_ (fun _ => ?_))
   | exact ih0 _ _ _ _
   | exact LeO.none _
   | refine LeO.ite ?_ ?_
   | refine LeO.bind ?_ (fun _ => ?_)
theorem slices_Equal_string_string.mono : ∀ a0 a1 k, LeO (slices_Equal_string_string.f k a0 a1) (slices_Equal_string_string.f (k + 1) a0 a1) := by
 intro a0 a1 k
 have ih0 := slices_Equal_string_string.mono_l k
 unfold slices_Equal_string_string.f
 repeat' first
  | (with_reducible exact ih0 _ _ _ _)
  | (with_reducible exact LeO.refl _)
  | (with_reducible exact LeO.none _)
  | (with_reducible refine LeO.ite ?_ ?_)
  | (with_reducible refine LeO.bind ?_ (fun _ => ?_))
  | exact ih0 _ _ _ _
  | exact LeO.none _
  | refine LeO.ite ?_ ?_
  | refine LeO.bind ?_ (fun _ => ?_)
set_option maxHeartbeats 8000000 in
set_option maxRecDepth 100000 in
theorem slices_Equal_string_string.calls (k : Nat) (A0 : Option Addr) (c0 : Nat) (l0 : List ByteArray) (A1 : Option Addr) (c1 : Nat) (l1 : List ByteArray) (r : Bool) (w : World) (hr0 : Kd.C Kd.string w A0 l0.length l0) (hc0 : l0.length ≤ c0) (hr1 : Kd.C Kd.string w A1 l1.length l1) (hc1 : l1.length ≤ c1) (h : slices_Equal_string_string.f k l0 l1 = some r) :
 Calls Try.prog 37 #[.slice A0 l0.length c0, .slice A1 l1.length c1] w fun e w' => e = .returned (.bool r) ∧ Drawn0 w w' := by
 have HR0 := Aside0.mk hr0
 have HC0 := Aside0.mk hc0
 clear hr0 hc0
 have HR1 := Aside0.mk hr1
 have HC1 := Aside0.mk hc1
 clear hr1 hc1
 have H : (if (l0.length : Int) = (l1.length : Int) then (slices_Equal_string_string.l0 k l0 l1 (l0.length : Int) 0) else (some false)) = some r := h
 clear h
 by_cases c3 : (l0.length : Int) = (l1.length : Int)
 ·rw [if_pos c3] at H
  have c3b0 : ((l0.length : Int) == (l1.length : Int)) = true := beq_iff_eq.mpr c3
  have c3b1 : ((l0.length : Int) != (l1.length : Int)) = false := bne_eq_false_iff_eq.mpr c3
  have c3b2 : (l0.length == l1.length) = true := by first | simpa using c3 | (simp at c3 ⊢; omega)
  clear c3
  have H' := Aside0.mk H
  clear H
  go_enter Try.func37, Try.ntmps37
  go_wp2
  repeat (go_quiet (fail); try go_wp2)
  go_loopg [13] k (fun kq v13 w' => ∃ (x13_1 : Int), v13 = .int .i64 x13_1 ∧ Aside0 (slices_Equal_string_string.l0 kq l0 l1 (l0.length : Int) x13_1 = some r) ∧ Aside0 (kq ≤ k) ∧ Drawn0 w w')
  case atStart => exact ⟨(0), (by first | rfl | (simp; done) | (simp [*]; done)), H', ⟨Nat.le_refl _⟩, by repeat (first | exact Drawn0.refl _ | apply Drawn0.step)⟩
  case round =>
   clear H'
   try clear c1
   try clear p2
   try clear c3
   try clear c3b0
   try clear c3b1
   try clear c3b2
   obtain ⟨x13_1, rfl, HA, HK1, ⟨m1, rfl⟩⟩ := hrel
   cases gk with
   | zero => exact absurd HA.out (by simp [slices_Equal_string_string.l0])
   | succ k1 =>
    have H := HA.out
    clear HA
    simp only [slices_Equal_string_string.l0] at H
    by_cases c4 : x13_1 < (l0.length : Int)
    ·rw [if_pos c4] at H
     have c4b0 : decide (x13_1 < (l0.length : Int)) = true := decide_eq_true c4
     clear c4
     by_cases c5 : 0 ≤ x13_1
     ·rw [if_pos c5] at H
      have c5b0 : decide (0 ≤ x13_1) = true := decide_eq_true c5
      clear c5
      by_cases c6 : x13_1 < (l0.length : Int)
      ·rw [if_pos c6] at H
       have c6b0 : decide (x13_1 < (l0.length : Int)) = true := decide_eq_true c6
       clear c6
       by_cases c7 : x13_1 < (l1.length : Int)
       ·rw [if_pos c7] at H
        have c7b0 : decide (x13_1 < (l1.length : Int)) = true := decide_eq_true c7
        clear c7
        by_cases c8 : (rdOf ByteArray.empty l0 x13_1).toList = (rdOf ByteArray.empty l1 x13_1).toList
        ·rw [if_pos c8] at H
         have c8b0 : ((rdOf ByteArray.empty l0 x13_1).toList == (rdOf ByteArray.empty l1 x13_1).toList) = true := beq_iff_eq.mpr c8
         have c8b1 : ((rdOf ByteArray.empty l0 x13_1).toList != (rdOf ByteArray.empty l1 x13_1).toList) = false := bne_eq_false_iff_eq.mpr c8
         clear c8
         have H' := Aside0.mk H
         clear H
         have p152 : 0 ≤ (x13_1 : Int) := of_decide_eq_true (by assumption)
         have q152 : x13_1 < (l0.length : Int) := of_decide_eq_true (by assumption)
         obtain ⟨ad152, e152, hx152_0⟩ := Kd.at_string HR0.out x13_1 p152 q152
         cases e152
         replace p152 := eq_true p152
         replace q152 := eq_true q152
         have p153 : 0 ≤ (x13_1 : Int) := of_decide_eq_true (by assumption)
         have q153 : x13_1 < (l1.length : Int) := of_decide_eq_true (by assumption)
         obtain ⟨ad153, e153, hx153_0⟩ := Kd.at_string HR1.out x13_1 p153 q153
         cases e153
         replace p153 := eq_true p153
         replace q153 := eq_true q153
         go_wp2
         repeat (go_quiet (fail); try go_wp2)
         go_roundg k1
         case measure => have := HK1.out; omega
         case rel => exact ⟨(wrap64 (x13_1 + 1)), (by first | rfl | (simp; done) | (simp [*]; done)), H', ⟨by have := HK1.out; omega⟩, by repeat (first | exact Drawn0.refl _ | apply Drawn0.step)⟩
        ·rw [if_neg c8] at H
         have c8b0 : ((rdOf ByteArray.empty l0 x13_1).toList == (rdOf ByteArray.empty l1 x13_1).toList) = false := beq_eq_false_iff_ne.mpr c8
         have c8b1 : ((rdOf ByteArray.empty l0 x13_1).toList != (rdOf ByteArray.empty l1 x13_1).toList) = true := bne_iff_ne.mpr c8
         obtain rfl := Option.some.inj H
         have p152 : 0 ≤ (x13_1 : Int) := of_decide_eq_true (by assumption)
         have q152 : x13_1 < (l0.length : Int) := of_decide_eq_true (by assumption)
         obtain ⟨ad152, e152, hx152_0⟩ := Kd.at_string HR0.out x13_1 p152 q152
         cases e152
         replace p152 := eq_true p152
         replace q152 := eq_true q152
         have p153 : 0 ≤ (x13_1 : Int) := of_decide_eq_true (by assumption)
         have q153 : x13_1 < (l1.length : Int) := of_decide_eq_true (by assumption)
         obtain ⟨ad153, e153, hx153_0⟩ := Kd.at_string HR1.out x13_1 p153 q153
         cases e153
         replace p153 := eq_true p153
         replace q153 := eq_true q153
         go_wp2
         repeat (go_quiet (fail); try go_wp2)
         go_ret
         exact ⟨by first | rfl | (simp; done) | (simp [*]; done), by repeat (first | exact Drawn0.refl _ | apply Drawn0.step)⟩
       ·rw [if_neg c7] at H
        exact absurd H (by simp)
      ·rw [if_neg c6] at H
       exact absurd H (by simp)
     ·rw [if_neg c5] at H
      exact absurd H (by simp)
    ·rw [if_neg c4] at H
     have c4b0 : decide (x13_1 < (l0.length : Int)) = false := decide_eq_false c4
     clear c4
     obtain rfl := Option.some.inj H
     go_wp2
     repeat (go_quiet (fail); try go_wp2)
     go_ret
     exact ⟨by first | rfl | (simp; done) | (simp [*]; done), by repeat (first | exact Drawn0.refl _ | apply Drawn0.step)⟩
 ·rw [if_neg c3] at H
  have c3b0 : ((l0.length : Int) == (l1.length : Int)) = false := beq_eq_false_iff_ne.mpr c3
  have c3b1 : ((l0.length : Int) != (l1.length : Int)) = true := bne_iff_ne.mpr c3
  have c3b2 : (l0.length == l1.length) = false := by first | simpa using c3 | (simp at c3 ⊢; omega)
  obtain rfl := Option.some.inj H
  go_enter Try.func37, Try.ntmps37
  go_wp2
  repeat (go_quiet (fail); try go_wp2)
  go_ret
  exact ⟨by first | rfl | (simp; done) | (simp [*]; done), by repeat (first | exact Drawn0.refl _ | apply Drawn0.step)⟩

/-! ### cortegeref4_great: function 61 -/
def cortegeref4_great.f (l0 : List ByteArray) (l1 : List ByteArray) : Option (Bool) := if (l0.length : Int) > 400 then (some true) else (some (decide ((l1.length : Int) > 400)))
set_option maxHeartbeats 8000000 in
set_option maxRecDepth 100000 in
theorem cortegeref4_great.calls (A0 : Option Addr) (c0 : Nat) (l0 : List ByteArray) (A1 : Option Addr) (c1 : Nat) (l1 : List ByteArray) (r : Bool) (w : World) (hr0 : Kd.C Kd.string w A0 l0.length l0) (hc0 : l0.length ≤ c0) (hr1 : Kd.C Kd.string w A1 l1.length l1) (hc1 : l1.length ≤ c1) (h : cortegeref4_great.f l0 l1 = some r) :
 Calls Try.prog 61 #[.slice A0 l0.length c0, .slice A1 l1.length c1] w fun e w' => e = .returned (.bool r) ∧ Drawn0 w w' := by
 have HR0 := Aside0.mk hr0
 have HC0 := Aside0.mk hc0
 clear hr0 hc0
 have HR1 := Aside0.mk hr1
 have HC1 := Aside0.mk hc1
 clear hr1 hc1
 have H : (if (l0.length : Int) > 400 then (some true) else (some (decide ((l1.length : Int) > 400)))) = some r := h
 clear h
 by_cases c3 : (l0.length : Int) > 400
 ·rw [if_pos c3] at H
  have c3b0 : decide (400 < (l0.length : Int)) = true := decide_eq_true c3
  have c3b1 : decide (400 < l0.length) = true := decide_eq_true (by omega)
  clear c3
  obtain rfl := Option.some.inj H
  go_enter Try.func61, Try.ntmps61
  go_wp2
  go_ret
  exact ⟨by first | rfl | (simp; done) | (simp [*]; done), by repeat (first | exact Drawn0.refl _ | apply Drawn0.step)⟩
 ·rw [if_neg c3] at H
  have c3b0 : decide (400 < (l0.length : Int)) = false := decide_eq_false c3
  have c3b1 : decide (400 < l0.length) = false := decide_eq_false (by omega)
  clear c3
  obtain rfl := Option.some.inj H
  go_enter Try.func61, Try.ntmps61
  go_wp2
  go_ret
  exact ⟨by first | rfl | (simp; done) | (simp [*]; done), by repeat (first | exact Drawn0.refl _ | apply Drawn0.step)⟩

end Go.Proofs.Ythghpmnbnfbheaa.PRef
