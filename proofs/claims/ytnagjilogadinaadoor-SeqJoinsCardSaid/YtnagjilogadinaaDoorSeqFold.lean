/- Fold, Low and SameInts do what the plain functions say. -/
import Derived.Test.YtnagjilogadinaaDoorSeqF

namespace Go.Proofs.YtnagjilogadinaaDoor.SeqI
open Go.RowKit Go.Shelf Go.Proofs.YtnagjilogadinaaDoor.SeqM
attribute [local go_sem] Oper.semAt_some
set_option linter.unusedVariables false

set_option maxRecDepth 100000 in
theorem plus_calls (a b : Int) (w : World) : Calls Tryd.prog 8 #[.int .i64 a, .int .i64 b] w fun e w' => e = .returned (.int .i64 (wrap64 (a + b))) ∧ w' = w := by
  go_enter Tryd.func8, Tryd.ntmps8
  go_wp2
  go_ret
  exact ⟨rfl, rfl⟩

def foldW (a : Int) (xs : List Int) : Int := xs.foldl (fun s v => wrap64 (s + v)) a
theorem foldW_snoc (a : Int) (pre : List Int) (x : Int) : foldW a (pre ++ [x]) = wrap64 (foldW a pre + x) := by simp [foldW]

def FoldI (a : Int) (n₀ : Nat) (M0 : Fp) (w : World) (pre : List Int) (M : Fp) (W : World) : Prop :=
  ((W.heap[n₀]? = some (.cells #[.int .i64 (foldW a pre)] 3 (0, 0)) ∧ ¬ M n₀) ∧ (W.heap[n₀ + 1]? = some (.cells #[.func (.func 8) #[] #[]] 27 (0, 0)) ∧ ¬ M (n₀ + 1))) ∧ (TurnM M0 w W ∧ ∀ k, M k → M0 k ∨ w.heap.size ≤ k)
theorem foldI_stable (a : Int) (n₀ : Nat) (M0 : Fp) (w : World) : Stable (FoldI a n₀ M0 w) :=
  ((stable_block n₀ (fun pre => .cells #[.int .i64 (foldW a pre)] 3 (0, 0))).and (stable_block (n₀ + 1) (fun _ => .cells #[.func (.func 8) #[] #[]] 27 (0, 0)))).and (stable_frame M0 w)

def FoldPost (w : World) (a : Int) (xs : List Int) (M0 : Fp) (e : Ending) (w' : World) : Prop := e = .returned (.int .i64 (foldW a xs)) ∧ TurnM M0 w w'
theorem fn_eq29 (w : World) : (binOp .eql 27 (.func (.func 8) #[] #[]) Value.nilFunc).run Tryd.prog w = .ok (.bool false) w := by kernel_rfl

set_option maxHeartbeats 2000000 in
set_option maxRecDepth 100000 in
theorem fold_in (n : Nat) (fv : Value) (a : Int) (xs : List Int) (R M0 : Fp) (w : World) (hs : SeqG fv xs R M0 w) :
    CallsIn Fence.wide n Tryd.prog 17 #[fv, .int .i64 a, .func (.func 8) #[] #[]] w (FoldPost w a xs M0) := by
  obtain ⟨hR, hM0, gf, lb, rfl, eg, hrun⟩ := hs
  have HRun := Lib.hid hrun
  have HR := Lib.hid hR
  have HM0 := Lib.hid hM0
  have EG := Lib.hid eg
  clear hrun hR hM0 eg
  have hd : Fence.wide.depth = none := rfl
  have hq := fn_eq26
  have hq2 := fn_eq29
  refine callsIn_of_wp_marks Tryd.func17 rfl trivial ?_ rfl
  simp only [Tryd.ntmps17, List.size_toArray, List.length_cons, List.length_nil, Nat.reduceAdd, Nat.reduceSub, Array.replicate_succ, Array.replicate_zero, List.push_toArray, List.append_toArray, List.nil_append, List.cons_append]
  gi_wp2
  have bA : ((w.alloc (.cells #[.int .i64 a] 3)).alloc (.cells #[.func (.func 8) #[] #[]] 27)).heap[w.heap.size]? = some (.cells #[.int .i64 a] 3 (0, 0)) := (Boxed.new w 3 (.int .i64 a)).alloc _
  have bF : ((w.alloc (.cells #[.int .i64 a] 3)).alloc (.cells #[.func (.func 8) #[] #[]] 27)).heap[w.heap.size + 1]? = some (.cells #[.func (.func 8) #[] #[]] 27 (0, 0)) := by
    have := Boxed.new (w.alloc (.cells #[.int .i64 a] 3)) 27 (.func (.func 8) #[] #[])
    rw [World.size_alloc] at this
    exact this
  have hB0 : Below w.heap.size w ((w.alloc (.cells #[.int .i64 a] 3)).alloc (.cells #[.func (.func 8) #[] #[]] 27)) := ((Below.refl _ w).alloc (Nat.le_refl _) _).alloc (by simp) _
  have hsz : ((w.alloc (.cells #[.int .i64 a] 3)).alloc (.cells #[.func (.func 8) #[] #[]] 27)).heap.size = w.heap.size + 2 := by simp
  obtain ⟨W0, hW0⟩ : ∃ W0, (w.alloc (.cells #[.int .i64 a] 3)).alloc (.cells #[.func (.func 8) #[] #[]] 27) = W0 := ⟨_, rfl⟩
  rw [hW0] at bA bF hsz hB0 ⊢
  clear hW0
  refine wpIn_rangeM (xs := xs) (R0 := R) (M0 := M0) rfl EG.out (fun W2 h2 => HRun.out W2 ⟨Nat.le_trans hB0.size h2.size, fun k hk _ => (h2.block k (by omega)).trans (hB0.block k hk)⟩) (fun k hk => by have := HR.out k hk; omega) (fun k hk => by have := HM0.out k hk; omega) (fun _ => rfl)
    (FoldI a w.heap.size M0 w) (fun _ _ _ _ => False) (foldI_stable _ _ _ _) (fun _ => stable_false) ?_
    (fun x a' _ => a' = { tmps := #[.func (.func gf) #[] lb, .int .i64 a, .func (.func 8) #[] #[], undef, .pointer (some ⟨w.heap.size, 0, none⟩), .pointer (some ⟨w.heap.size + 1, 0, none⟩), .int .i64 0, .int .i64 x, .func (.func gf) #[] lb, .bool false, .bool false, .func (.func 8) #[] #[], .bool false, .bool false, undef, .func (.func gf) #[] lb, .int .i64 x, undef, undef, undef, undef, undef], defers := [] }) (fun _ _ _ _ h _ => h) ?assign ?body ?done ?stop
  · exact ⟨⟨⟨bA, fun h => by have := HM0.out _ h; omega⟩, bF, fun h => by have := HM0.out _ h; omega⟩, TurnM.of_below hB0, fun k hk => .inl hk⟩
  case assign =>
    intro m l pre x M W K hi hin hK
    have HK := Lib.hid hK
    have HI := Lib.hid hi
    clear hK hi
    gi_wp2
    exact HK.out _ _ (KeepM.refl _ _) HI.out rfl
  case body =>
    rintro m l pre x M a' W ⟨⟨⟨hba, hna⟩, hbf, hnf⟩, hfr⟩ hin rfl ⟨rest, hx⟩
    have HFr := Lib.hid hfr
    have HIn := Lib.hid hin
    have HBA := Lib.hid hba
    have HBF := Lib.hid hbf
    have hla := (Array.getElem?_eq_some_iff.1 hba).1
    have ca : W.cell? ⟨w.heap.size, 0, none⟩ = some (.int .i64 (foldW a pre)) := by simp [World.cell?, hba]
    have fa : W.frozen? ⟨w.heap.size, 0, none⟩ = false := by simp [World.frozen?, hba]
    have cf : W.cell? ⟨w.heap.size + 1, 0, none⟩ = some (.func (.func 8) #[] #[]) := by simp [World.cell?, hbf]
    have h23 : Fence.wide.fn 8 := trivial
    clear hx hfr hin hba hbf
    gi_wp2_with (gi_at_call 8; refine (CallsIn.inRound l (callsIn_wide.2 (plus_calls _ _ _))).mono ?_; rintro e w2 ⟨rfl, rfl⟩)
    have hT : TurnM (fun k => k = w.heap.size) w2 (w2.setCell ⟨w.heap.size, 0, none⟩ (.int .i64 (wrap64 (foldW a pre + x)))) := TurnM.setCell (M := fun k => k = w.heap.size) w2 (p := ⟨w.heap.size, 0, none⟩) rfl _
    refine ⟨KeepM.of_turn hT ?_, ⟨⟨?_, hna⟩, (hT.block _ (Array.getElem?_eq_some_iff.1 HBF.out).1 (by omega)).trans HBF.out, hnf⟩, HFr.out.1.on hT (fun k hk e => by omega), HFr.out.2⟩
    · rintro k hk (hR | hM) rfl
      · have := HR.out _ hR; omega
      · exact hna hM
    · rw [foldW_snoc]
      exact Boxed.set (W := w2) (t := 3) _ HBA.out
  case done =>
    rintro M W ⟨⟨⟨hba, hna⟩, _, _⟩, hfr⟩ hin hK
    have HFr := Lib.hid hfr
    have HK := Lib.hid hK
    have ca : W.cell? ⟨w.heap.size, 0, none⟩ = some (.int .i64 (foldW a xs)) := by simp [World.cell?, hba]
    clear hfr hin hK hba
    gi_wp2
    refine ⟨by simp, .inl ⟨_, _, rfl, run_takeDeferred HK.out, ?_⟩⟩
    exact ⟨_, results_tmp rfl _ _ _, rfl, HFr.out.1.on (TurnM.putObj (M := fun k => k = W0.heap.size) W rfl _) (fun k hk e => by omega)⟩
  case stop =>
    intro c pre M W _ h _ _
    exact h.elim

theorem fold_calls (fv : Value) (a : Int) (xs : List Int) (R M0 : Fp) (w : World) (hs : SeqG fv xs R M0 w) :
    Calls Tryd.prog 17 #[fv, .int .i64 a, .func (.func 8) #[] #[]] w (FoldPost w a xs M0) := callsIn_wide.1 (fold_in 9 fv a xs R M0 w hs)
set_option maxRecDepth 100000 in
theorem fold_nil (a : Int) (w : World) : Calls Tryd.prog 17 #[Value.nilFunc, .int .i64 a, .func (.func 8) #[] #[]] w fun e w' => e = .returned (.int .i64 a) ∧ Below w.heap.size w w' := by
  have hq := fn_nil26
  go_enter Tryd.func17, Tryd.ntmps17
  go_wp2
  go_ret
  exact ⟨rfl, ((Below.refl _ w).alloc (Nat.le_refl _) _).alloc (by simp) _⟩

/-! ### what the laws share -/
set_option maxHeartbeats 2000000 in
set_option maxRecDepth 100000 in
/-- Like lists are the same. -/
theorem same_calls (A B : Option Addr) (c d : Nat) (zs : List Int) (w : World) (hlen : zs.length ≤ 1000000) (ha : Cells w A zs) (hb : Cells w B zs) :
    Calls Tryd.prog 14 #[.slice A zs.length c, .slice B zs.length d] w fun e w' => e = .returned (.bool true) ∧ Below w.heap.size w w' := by
  have HA := Lib.hid ha
  have HB := Lib.hid hb
  clear ha hb
  go_enter Tryd.func14, Tryd.ntmps14
  go_wp2
  go_loopw [5] (fun i wr => ∃ k : Nat, k ≤ zs.length ∧ i = .int .i64 k ∧ Below w.heap.size w wr) (fun i _ => zs.length - (intOf i).toNat)
  case atStart => exact ⟨0, Nat.zero_le _, rfl, Below.refl _ _⟩
  case round =>
    obtain ⟨k, hk, rfl, hB⟩ := hrel
    have HBl := Lib.hid hB
    clear hB
    by_cases hlt : k < zs.length
    · rcases HA.out with e | ⟨b1, o1, rfl, hb1, hc1⟩
      · subst e; simp at hlt
      rcases HB.out with e | ⟨b2, o2, rfl, hb2, hc2⟩
      · subst e; simp at hlt
      have e1 : wr.cell? ⟨b1, o1 + k, none⟩ = some (.int .i64 zs[k]) := (HBl.out.cell (p := ⟨b1, o1 + k, none⟩) hb1).trans (hc1 k hlt)
      have e2 : wr.cell? ⟨b2, o2 + k, none⟩ = some (.int .i64 zs[k]) := (HBl.out.cell (p := ⟨b2, o2 + k, none⟩) hb2).trans (hc2 k hlt)
      clear hc1 hc2
      go_wp2
      go_quiet (fail)
      go_wp2
      go_roundw
      case rel => exact ⟨k + 1, by omega, by simp, HBl.out.trans ⟨rfl, rfl, rfl, Nat.le_refl _, fun _ _ => rfl⟩⟩
      case measure => simp [intOf]; omega
    · obtain rfl : k = zs.length := by omega
      go_wp2
      go_ret
      exact ⟨rfl, HBl.out⟩
end Go.Proofs.YtnagjilogadinaaDoor.SeqI
