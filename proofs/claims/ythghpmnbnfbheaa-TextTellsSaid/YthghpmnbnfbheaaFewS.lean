/- Fold over a sequence of texts, with the function that counts; Few. -/
import Derived.Test.YthghpmnbnfbheaaSeqTakeS
import Derived.Test.YthghpmnbnfbheaaLinesV
namespace Go.Proofs.Ythghpmnbnfbheaa.SeqS
open Go.RowKit Go.Shelf Go.Proofs.Ythghpmnbnfbheaa.SeqM Go.Proofs.Ythghpmnbnfbheaa.Lines
attribute [local go_sem] Oper.semAt_some
set_option linter.unusedVariables false
set_option maxRecDepth 100000 in
theorem fewc_calls (n : Int) (x : ByteArray) (w : World) (h0 : 0 ≤ n) (h1 : n ≤ 1000000) : Calls Try.prog 44 #[.int .i64 n, .string x] w fun e w' => e = .returned (.int .i64 (n + 1)) ∧ w' = w := by
  go_enter Try.func44, Try.ntmps44
  go_wp2
  go_ret
  exact ⟨rfl, rfl⟩
def FoldI (n₀ : Nat) (M0 : Fp) (w : World) (pre : List ByteArray) (M : Fp) (W : World) : Prop :=
  ((W.heap[n₀]? = some (.cells #[.int .i64 (pre.length : Int)] 3 (0, 0)) ∧ ¬ M n₀) ∧ (W.heap[n₀ + 1]? = some (.cells #[.func (.func 44) #[] #[]] 67 (0, 0)) ∧ ¬ M (n₀ + 1))) ∧ (TurnM M0 w W ∧ ∀ k, M k → M0 k ∨ w.heap.size ≤ k)
theorem foldI_stable (n₀ : Nat) (M0 : Fp) (w : World) : Stable (FoldI n₀ M0 w) :=
  ((stable_block n₀ (fun pre : List ByteArray => .cells #[.int .i64 (pre.length : Int)] 3 (0, 0))).and (stable_block (n₀ + 1) (fun _ => .cells #[.func (.func 44) #[] #[]] 67 (0, 0)))).and (stable_frame M0 w)

def FoldPost (w : World) (xs : List ByteArray) (M0 : Fp) (e : Ending) (w' : World) : Prop := e = .returned (.int .i64 (xs.length : Int)) ∧ TurnM M0 w w'
theorem fn_eqF (w : World) : (binOp .eql 67 (.func (.func 44) #[] #[]) Value.nilFunc).run Try.prog w = .ok (.bool false) w := by kernel_rfl

set_option maxHeartbeats 2000000 in
set_option maxRecDepth 100000 in
theorem fold_in (n : Nat) (fv : Value) (xs : List ByteArray) (R M0 : Fp) (w : World) (hlen : xs.length ≤ 1000000) (hs : SeqG fv xs R M0 w) :
    CallsIn Fence.wide n Try.prog 42 #[fv, .int .i64 0, .func (.func 44) #[] #[]] w (FoldPost w xs M0) := by
  obtain ⟨hR, hM0, gf, lb, rfl, eg, hrun⟩ := hs
  have HRun := Lib.hid hrun
  have HR := Lib.hid hR
  have HM0 := Lib.hid hM0
  have EG := Lib.hid eg
  clear hrun hR hM0 eg
  have hd : Fence.wide.depth = none := rfl
  have hq := fn_eq
  have hq2 := fn_eqF
  refine callsIn_of_wp_marks Try.func42 rfl trivial ?_ rfl
  simp only [Try.ntmps42, List.size_toArray, List.length_cons, List.length_nil, Nat.reduceAdd, Nat.reduceSub, Array.replicate_succ, Array.replicate_zero, List.push_toArray, List.append_toArray, List.nil_append, List.cons_append]
  gi_wp2
  have bA : ((w.alloc (.cells #[.int .i64 0] 3)).alloc (.cells #[.func (.func 44) #[] #[]] 67)).heap[w.heap.size]? = some (.cells #[.int .i64 0] 3 (0, 0)) := (Boxed.new w 3 (.int .i64 0)).alloc _
  have bF : ((w.alloc (.cells #[.int .i64 0] 3)).alloc (.cells #[.func (.func 44) #[] #[]] 67)).heap[w.heap.size + 1]? = some (.cells #[.func (.func 44) #[] #[]] 67 (0, 0)) := by
    have := Boxed.new (w.alloc (.cells #[.int .i64 0] 3)) 67 (.func (.func 44) #[] #[])
    rw [World.size_alloc] at this
    exact this
  have hB0 : Below w.heap.size w ((w.alloc (.cells #[.int .i64 0] 3)).alloc (.cells #[.func (.func 44) #[] #[]] 67)) := ((Below.refl _ w).alloc (Nat.le_refl _) _).alloc (by simp) _
  have hsz : ((w.alloc (.cells #[.int .i64 0] 3)).alloc (.cells #[.func (.func 44) #[] #[]] 67)).heap.size = w.heap.size + 2 := by simp
  obtain ⟨W0, hW0⟩ : ∃ W0, (w.alloc (.cells #[.int .i64 0] 3)).alloc (.cells #[.func (.func 44) #[] #[]] 67) = W0 := ⟨_, rfl⟩
  rw [hW0] at bA bF hsz hB0 ⊢
  clear hW0
  refine wpIn_rangeM (xs := xs) (R0 := R) (M0 := M0) rfl EG.out (fun W2 h2 => HRun.out W2 ⟨Nat.le_trans hB0.size h2.size, fun k hk _ => (h2.block k (by omega)).trans (hB0.block k hk)⟩) (fun k hk => by have := HR.out k hk; omega) (fun k hk => by have := HM0.out k hk; omega) (fun _ => rfl)
    (FoldI w.heap.size M0 w) (fun _ _ _ _ => False) (foldI_stable _ _ _) (fun _ => stable_false) ?_
    (fun x a' _ => a' = { tmps := #[.func (.func gf) #[] lb, .int .i64 0, .func (.func 44) #[] #[], undef, .pointer (some ⟨w.heap.size, 0, none⟩), .pointer (some ⟨w.heap.size + 1, 0, none⟩), .int .i64 0, .string x, .func (.func gf) #[] lb, .bool false, .bool false, .func (.func 44) #[] #[], .bool false, .bool false, undef, .func (.func gf) #[] lb, .string x, undef, undef, undef, undef, undef], defers := [] }) (fun _ _ _ _ h _ => h) ?assign ?body ?done ?stop
  · exact ⟨⟨⟨bA, fun h => by have := HM0.out _ h; omega⟩, bF, fun h => by have := HM0.out _ h; omega⟩, TurnM.of_below hB0, fun k hk => .inl hk⟩
  case assign =>
    intro m l pre x M W K hi hin hK
    have HK := Lib.hid hK
    have HI := Lib.hid hi
    clear hK hi
    gi_wp2
    exact HK.out _ _ (KeepM.refl _ _) HI.out rfl
  case body =>
    rintro m l pre x M a' W ⟨⟨⟨hba, hna⟩, hbf, hnf⟩, hfr⟩ hin rfl ⟨rest, hx⟩
    have hpl : pre.length + 1 ≤ 1000000 := by have := congrArg List.length hx; simp at this; omega
    have HFr := Lib.hid hfr
    have HIn := Lib.hid hin
    have HBA := Lib.hid hba
    have HBF := Lib.hid hbf
    have hla := (Array.getElem?_eq_some_iff.1 hba).1
    have ca : W.cell? ⟨w.heap.size, 0, none⟩ = some (.int .i64 (pre.length : Int)) := by simp [World.cell?, hba]
    have fa : W.frozen? ⟨w.heap.size, 0, none⟩ = false := by simp [World.frozen?, hba]
    have cf : W.cell? ⟨w.heap.size + 1, 0, none⟩ = some (.func (.func 44) #[] #[]) := by simp [World.cell?, hbf]
    have hfc : Fence.wide.fn 44 := trivial
    clear hx hfr hin hba hbf
    gi_wp2_with (gi_at_call 44; refine (CallsIn.inRound l (callsIn_wide.2 (fewc_calls _ x _ (by omega) (by omega)))).mono ?_; rintro e w2 ⟨rfl, rfl⟩)
    have hT : TurnM (fun k => k = w.heap.size) w2 (w2.setCell ⟨w.heap.size, 0, none⟩ (.int .i64 ((pre.length : Int) + 1))) := TurnM.setCell (M := fun k => k = w.heap.size) w2 (p := ⟨w.heap.size, 0, none⟩) rfl _
    refine ⟨KeepM.of_turn hT ?_, ⟨⟨?_, hna⟩, (hT.block _ (Array.getElem?_eq_some_iff.1 HBF.out).1 (by omega)).trans HBF.out, hnf⟩, HFr.out.1.on hT (fun k hk e => by omega), HFr.out.2⟩
    · rintro k hk (hR | hM) rfl
      · have := HR.out _ hR; omega
      · exact hna hM
    · rw [List.length_append, List.length_singleton, Int.natCast_add]
      exact Boxed.set (W := w2) (t := 3) _ HBA.out
  case done =>
    rintro M W ⟨⟨⟨hba, hna⟩, _, _⟩, hfr⟩ hin hK
    have HFr := Lib.hid hfr
    have HK := Lib.hid hK
    have ca : W.cell? ⟨w.heap.size, 0, none⟩ = some (.int .i64 (xs.length : Int)) := by simp [World.cell?, hba]
    clear hfr hin hK hba
    gi_wp2
    refine ⟨by simp, .inl ⟨_, _, rfl, run_takeDeferred HK.out, ?_⟩⟩
    exact ⟨_, results_tmp rfl _ _ _, rfl, HFr.out.1.on (TurnM.putObj (M := fun k => k = W0.heap.size) W rfl _) (fun k hk e => by omega)⟩
  case stop =>
    intro c pre M W _ h _ _
    exact h.elim

theorem fold_calls (fv : Value) (xs : List ByteArray) (R M0 : Fp) (w : World) (hlen : xs.length ≤ 1000000) (hs : SeqG fv xs R M0 w) :
    Calls Try.prog 42 #[fv, .int .i64 0, .func (.func 44) #[] #[]] w (FoldPost w xs M0) := callsIn_wide.1 (fold_in 9 fv xs R M0 w hlen hs)

set_option maxRecDepth 100000 in
theorem few_calls (s : ByteArray) (w : World) (hlen : s.size ≤ 1000000) : Calls Try.prog 26 #[.string s] w fun e w' => e = .returned (.bool (decide ((lines s).length ≤ 60))) ∧ Below w.heap.size w w' := by
  go_enter Try.func26, Try.ntmps26
  go_wp2_with fail
  refine (lines_calls s _ hlen).mono ?_
  rintro e w1 ⟨fv, rfl, hs, hb⟩
  have HS := Lib.hid hs
  have HB := Lib.hid hb
  clear hs hb
  go_wp2_with fail
  refine (take_calls _ fv 61 (lines s) _ _ HS.out (fun _ h => h.elim) (by omega) (by omega)).mono ?_
  rintro e w2 ⟨fv2, rfl, hs, hb⟩
  have HS2 := Lib.hid hs
  have HB2 := Lib.hid hb
  clear hs hb
  have hll : ((lines s).take (61 : Int).toNat).length ≤ 1000000 := by rw [List.length_take]; exact Nat.le_trans (Nat.min_le_left _ _) (by decide)
  go_wp2_with fail
  refine (fold_calls fv2 _ _ _ _ hll HS2.out).mono ?_
  rintro e w3 ⟨rfl, ht⟩
  have HT := Lib.hid ht
  have hd : (((lines s).take (61 : Int).toNat).length : Int) = if (lines s).length ≤ 60 then ((lines s).length : Int) else 61 := by
    rw [List.length_take, show (61 : Int).toNat = 61 from rfl]
    split <;> omega
  rw [hd]
  clear ht hd hll
  have hb3 : Hid (Below w.heap.size w w3) := Lib.hid ((HB.out.trans (HB2.out.mono HB.out.size)).trans (HT.out.below (Nat.le_trans HB.out.size HB2.out.size) (fun k _ e => by subst e; exact Nat.le_refl _)))
  by_cases h : (lines s).length ≤ 60
  · have hi : ((lines s).length : Int) ≤ 60 := by omega
    rw [if_pos h]
    go_wp2_with fail
    go_ret
    exact ⟨by simp [h], hb3.out⟩
  · rw [if_neg h]
    go_wp2_with fail
    go_ret
    exact ⟨by simp [h], hb3.out⟩
theorem index0 (s : ByteArray) (w : World) : Calls Try.prog 41 #[.string s, .int .u8 0] w fun e w' => e = .returned (.int .i64 (Lib.indexByte s.data.toList 0)) ∧ w' = w := Try.strings_IndexByte s 0 w
set_option maxRecDepth 100000 in
theorem binary_calls (s : ByteArray) (w : World) : Calls Try.prog 25 #[.string s] w fun e w' => e = .returned (.bool (decide (0 ≤ Lib.indexByte s.data.toList 0))) ∧ w' = w := by
  go_enter Try.func25, Try.ntmps25
  go_wp2_with (go_at_call 41; refine (index0 _ _).mono ?_; rintro e w1 ⟨rfl, rfl⟩)
  go_ret
  exact ⟨rfl, rfl⟩
end Go.Proofs.Ythghpmnbnfbheaa.SeqS
