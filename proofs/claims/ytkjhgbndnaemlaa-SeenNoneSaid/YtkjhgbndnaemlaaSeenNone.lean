/- The walk of the law SeenNone answers true, whatever the number. -/
import Derived.Test.YtkjhgbndnaemlaaSeenAwake
namespace Go.Proofs.Ytkjhgbndnaemlaa.SeenS
open Go.RowKit Go.Shelf
attribute [local go_sem] Oper.semAt_some
set_option linter.unusedVariables false

theorem fn_neq (w : World) (p : Value) : (binOp .neq 55 (.func (.func 29) #[] #[p]) Value.nilFunc).run Try.prog w = .ok (.bool true) w := by kernel_rfl

set_option maxHeartbeats 4000000 in
set_option maxRecDepth 100000 in
theorem none_in (k : Int) (w : World) : CallsIn Fence.wide 20 Try.prog 5 #[.int .i64 k] w fun e w' => e = .returned (.bool true) ∧ Below w.heap.size w w' := by
  refine callsIn_of_wp_marks Try.func5 rfl trivial ?_ rfl
  simp only [Try.ntmps5, List.size_toArray, List.length_cons, List.length_nil, Nat.reduceAdd, Nat.reduceSub, Array.replicate_succ, Array.replicate_zero, List.push_toArray, List.append_toArray, List.nil_append, List.cons_append]
  have h19 : Fence.wide.fn 19 := trivial
  have h20 : Fence.wide.fn 20 := trivial
  have hne := fn_neq
  gi_wp2_with (first
    | (gi_at_call 19; refine (callsIn_wide.2 (get_nil k _)).mono ?_; rintro e w1 ⟨rfl, hB⟩; have HB1 := Lib.hid hB; clear hB)
    | (gi_at_call 20; refine (all_in _ _ _).mono ?_; rintro e w' ⟨rfl, rfl⟩))
  have bN := (Boxed.new w1 3 (.int .i64 0)).alloc (.cells #[.pointer none] 51)
  have bP := Boxed.new (w1.alloc (.cells #[.int .i64 0] 3)) 51 (.pointer none)
  have hBl : Below w.heap.size w ((w1.alloc (.cells #[.int .i64 0] 3)).alloc (.cells #[.pointer none] 51)) :=
    (HB1.out.alloc HB1.out.size _).alloc (by have := HB1.out.size; simp; omega) _
  have hs1 := HB1.out.size
  simp only [World.size_alloc] at bP
  have hsz : ((w1.alloc (.cells #[.int .i64 0] 3)).alloc (.cells #[.pointer none] 51)).heap.size = w1.heap.size + 2 := by simp
  obtain ⟨W0, hW0⟩ : ∃ W0, ((w1.alloc (.cells #[.int .i64 0] 3)).alloc (.cells #[.pointer none] 51)) = W0 := ⟨_, rfl⟩
  rw [hW0] at bN bP hBl hsz ⊢
  clear hW0
  refine wpIn_rangeFunc_ownH rfl (by omega) (gf := 29) (lb := #[.pointer (some ⟨w1.heap.size + 1, 0, none⟩)]) rfl trivial (enters_of Try.func29 (by kernel_rfl) rfl)
    (all_stops_nil 19 _ W0.heap.size W0 bP.cell) (fun h k => h.trans k) (fun W l o o' _ h ho _ => KpC.putObj W l o o' h ho) (Below.refl _ _) (fun _ => rfl)
    (fun pre W => (Boxed W w1.heap.size 3 (.int .i64 0)) ∧ Below w.heap.size w W)
    (fun c pre W => False)
    (OwnFrom.and (Own.from (fun s X Y row hs hg hr => boxed_own _ _ (fun _ => _) () X Y row hs hg hr) _) (ownFrom_below (Nat.le_refl _) (by omega)))
    (fun c => fun _ _ _ _ hs _ _ => hs)
    ⟨bN, hBl⟩
    (fun x a' _ => True)
    (fun x a' => ownFrom_pure _ _) ?assign ?body ?done ?stop
  case assign =>
    intro l pre x W K hi hK
    gi_wp2
    exact hK _ _ (KeepsFrom.refl _ _) (KpC.refl _ _) hi trivial
  case body =>
    rintro l pre x a' W hl hr hi _ hlt
    exact absurd hlt (by omega)
  case done =>
    rintro D ys W hD rfl ⟨hb, hB⟩ hK
    have HBW := Lib.hid hB
    have HK := Lib.hid hK
    have HBX := Lib.hid hb
    have hlt := hb.lt
    clear hB hK hb
    have h21 : Fence.wide.fn 21 := trivial
    have h22 : Fence.wide.fn 22 := trivial
    have h6 : Fence.wide.fn 6 := trivial
    gi_wp2_with (first
      | (gi_at_call 21; refine (callsIn_wide.2 (put_nil k _ _)).mono ?_; rintro e w2 ⟨rfl, hB⟩; have HB2 := Lib.hid hB; have hb2 : w2.cell? ⟨w1.heap.size, 0, none⟩ = some (.int .i64 0) := (hB.cell (p := ⟨w1.heap.size, 0, none⟩) hlt).trans HBX.out.cell; clear hB)
      | (gi_at_call 22; refine (callsIn_wide.2 (len_nil _)).mono ?_; rintro e w3 ⟨rfl, rfl⟩)
      | (gi_at_call 6; refine (callsIn_wide.2 (awake_calls _)).mono ?_; rintro e w4 ⟨rfl, hB⟩; have HB4 := Lib.hid hB; clear hB))
    have hD2 : w4.heap[D]? = some (.deferred (some [])) := by
      have hDl := (Array.getElem?_eq_some_iff.1 HK.out).1
      rw [HB4.out.block D (by have := HB2.out.size; omega), HB2.out.block D hDl]
      exact HK.out
    refine ⟨by simp, .inl ⟨_, _, rfl, run_takeDeferred hD2, ?_⟩⟩
    refine ⟨_, results_tmp rfl _ _ _, rfl, ?_⟩
    exact ((HBW.out.trans (HB2.out.mono HBW.out.size)).trans (HB4.out.mono (Nat.le_trans HBW.out.size HB2.out.size))).trans (belowK_b (w := w) (Nat.le_refl _) w4 D _ _ (by omega) hD2 rfl rfl)
  case stop =>
    rintro D c pre W _ _ h _
    exact h.elim

theorem none_calls (k : Int) (w : World) (_ : (Lit.int .i64 k).wf = true) : Calls Try.prog 5 #[.int .i64 k] w fun e w' => e = .returned (.bool true) ∧ Below w.heap.size w w' := callsIn_wide.1 (none_in k w)
end Go.Proofs.Ytkjhgbndnaemlaa.SeenS
