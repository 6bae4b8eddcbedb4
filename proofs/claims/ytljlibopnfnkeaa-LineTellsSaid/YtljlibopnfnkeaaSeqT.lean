/- The first texts of a sequence, taken by a loop that is left (the statements' own Texts). -/
import Derived.Test.YtljlibopnfnkeaaSeqS
namespace Go.Proofs.Ytljlibopnfnkeaa.SeqS
open Go.RowKit Go.Shelf Go.Proofs.Ytljlibopnfnkeaa.SeqM
attribute [local go_sem] Oper.semAt_some
set_option linter.unusedVariables false
def TextsI (n₀ : Nat) (most : Int) (M0 : Fp) (w : World) (pre : List ByteArray) (M : Fp) (W : World) : Prop :=
  ((W.heap[n₀]? = some (.cells #[.int .i64 most] 3 (0, 0)) ∧ ¬ M n₀) ∧
  (∃ v, Boxed W (n₀ + 1) 22 v ∧ W.ownsRow (n₀ + 1) 9 1 v pre.length (pre.map (Value.string)) ∧ True ∧ ¬ M (n₀ + 1) ∧ ∀ g, v.ownBlock = some g → ¬ M g)) ∧ (TurnM M0 w W ∧ ∀ k, M k → M0 k ∨ w.heap.size ≤ k)
theorem textsI_stable (n₀ : Nat) (most : Int) (M0 : Fp) (w : World) : Stable (TextsI n₀ most M0 w) :=
  ((stable_block n₀ (fun _ => .cells #[.int .i64 most] 3 (0, 0))).and (stable_row (n₀ + 1) (n₀ + 1) 22 9 1 (fun pre : List ByteArray => pre.length) (fun pre => pre.map (Value.string)) (fun _ _ => True))).and (stable_frame M0 w)
def TextsX (n₀ : Nat) (most : Int) (M0 : Fp) (w : World) (c : Code) (pre : List ByteArray) (M : Fp) (W : World) : Prop :=
  (c = .exit 0 ∧ (pre.length : Int) = most) ∧ TextsI n₀ most M0 w pre M W

set_option maxHeartbeats 2000000 in
set_option maxRecDepth 100000 in
theorem texts_in (n : Nat) (fv : Value) (xs : List ByteArray) (most : Int) (R M0 : Fp) (w : World) (hlen : xs.length ≤ 1000000) (hm : 1 ≤ most) (hs : SeqG fv xs R M0 w) :
    CallsIn Fence.wide n Try.prog 15 #[fv, .int .i64 most] w (ColPost w (xs.take most.toNat) M0) := by
  obtain ⟨hR, hM0, gf, lb, rfl, eg, hrun⟩ := hs
  obtain ⟨i0, hi, hz0, hz1, hz2⟩ := info_parts info9
  have HRun := Lib.hid hrun
  have HR := Lib.hid hR
  have HM0 := Lib.hid hM0
  have EG := Lib.hid eg
  clear hrun hR hM0 eg
  have hd : Fence.wide.depth = none := rfl
  have hq := fn_eq
  have hm0 : decide (most < 1) = false := by simpa using hm
  refine callsIn_of_wp_marks Try.func15 rfl trivial ?_ rfl
  simp only [Try.ntmps15, List.size_toArray, List.length_cons, List.length_nil, Nat.reduceAdd, Nat.reduceSub, Array.replicate_succ, Array.replicate_zero, List.push_toArray, List.append_toArray, List.nil_append, List.cons_append]
  gi_wp2
  have bM : ((w.alloc (.cells #[.int .i64 most] 3)).alloc (.cells #[.slice none 0 0] 22)).heap[w.heap.size]? = some (.cells #[.int .i64 most] 3 (0, 0)) := (Boxed.new w 3 (.int .i64 most)).alloc _
  have bO := Boxed.new (w.alloc (.cells #[.int .i64 most] 3)) 22 (.slice none 0 0)
  simp only [World.size_alloc] at bO
  have hB0 : Below w.heap.size w ((w.alloc (.cells #[.int .i64 most] 3)).alloc (.cells #[.slice none 0 0] 22)) := ((Below.refl _ w).alloc (Nat.le_refl _) _).alloc (by simp) _
  have hsz : ((w.alloc (.cells #[.int .i64 most] 3)).alloc (.cells #[.slice none 0 0] 22)).heap.size = w.heap.size + 2 := by simp
  obtain ⟨W0, hW0⟩ : ∃ W0, (w.alloc (.cells #[.int .i64 most] 3)).alloc (.cells #[.slice none 0 0] 22) = W0 := ⟨_, rfl⟩
  rw [hW0] at bM bO hsz hB0 ⊢
  clear hW0
  refine wpIn_rangeM (xs := xs) (R0 := R) (M0 := M0) rfl EG.out (fun W2 h2 => HRun.out W2 ⟨Nat.le_trans hB0.size h2.size, fun k hk _ => (h2.block k (by omega)).trans (hB0.block k hk)⟩) (fun k hk => by have := HR.out k hk; omega) (fun k hk => by have := HM0.out k hk; omega) (fun _ => rfl)
    (fun pre M W => (pre.length : Int) < most ∧ TextsI w.heap.size most M0 w pre M W) (TextsX w.heap.size most M0 w) ((stable_pure _).and (textsI_stable _ _ _ _)) (fun _ => (stable_pure _).and (textsI_stable _ _ _ _)) ?_
    (fun x a' _ => a' = { tmps := #[.func (.func gf) #[] lb, .int .i64 most, undef, .pointer (some ⟨w.heap.size, 0, none⟩), .slice none 0 0, .pointer (some ⟨w.heap.size + 1, 0, none⟩), .string x, .func (.func gf) #[] lb, .bool false, .bool false, .int .i64 most, .bool false, .bool false, .func (.func gf) #[] lb, .string x, undef, undef, undef, undef, undef, undef, undef, undef, undef], defers := [] }) (fun _ _ _ _ h _ => h) ?assign ?body ?done ?stop
  · exact ⟨by simp; omega, ⟨⟨bM, fun h => by have := HM0.out _ h; omega⟩, _, bO, World.ownsRow_nil _ _ _ _, trivial, fun h => by have := HM0.out _ h; omega, fun g hg => by simp [Value.ownBlock] at hg⟩, TurnM.of_below hB0, fun k hk => .inl hk⟩
  case assign =>
    intro m l pre x M W K hi hin hK
    have HK := Lib.hid hK
    have HI := Lib.hid hi
    clear hK hi
    gi_wp2
    exact HK.out _ _ (KeepM.refl _ _) HI.out rfl
  case body =>
    rintro m l pre x M a' W ⟨hlm, ⟨⟨hbm, hnm⟩, v, hv, hrow, _, hnb, hng⟩, hfr⟩ hin rfl ⟨rest, hx⟩
    have HX := Lib.hid hx
    have HRow := Lib.hid hrow
    have HNG := Lib.hid hng
    have HFr := Lib.hid hfr
    have HIn := Lib.hid hin
    have HBM := Lib.hid hbm
    have hc := hv.cell
    have hpl : pre.length + 1 ≤ 1000000 := by have := congrArg List.length hx; simp at this; omega
    have hle := hv.lt
    clear hx hrow hng hfr hin hbm
    gi_wp2_with (gi_at_builtin; refine wpListIn_append_lies _ rfl _ _ 22 rfl (w.heap.size + 1) 9 i0 (.string ⟨#[]⟩) 1 16 Try.underlying22 hi hz0 hz1 hz2 rfl (by decide) _ _ _ rfl (HRow.out.alloc _) ⟨W.heap.size, 0, none⟩ 1 1 [.string x] rfl rfl (cell_one_new _ _ _) (by simp [Value.oneCell']) (by omega) (by unfold maxLen; omega) (by omega) (by simp; omega) (W.heap.size + 1) (by simp) ?_; intro g' cap' w1 hown' hgrow hor hlt; obtain ⟨hv1, hv2, hr2, hk2, hb2⟩ := hv.appended (by decide) HRow.out (by omega) (Nat.le_refl _) hown' hgrow; have hm1 : w1.heap[w.heap.size]? = some (.cells #[.int .i64 most] 3 (0, 0)) := ((hgrow.block _ (by simp; omega) (fun e => by have := (HRow.out.lt _ e.symm).1; omega)).trans ((Below.heap_alloc W _ _ (by omega)).trans HBM.out)); have hcm : w1.cell? ⟨w.heap.size, 0, none⟩ = some (.int .i64 most) := (by simp [World.cell?, hm1]); have hc1 := hv1.cell; have hf1 := hv1.frozen; have HO := Lib.hid hown'; have HG := Lib.hid hgrow; have HOr := Lib.hid hor; have HV2 := Lib.hid hv2; have HR2 := Lib.hid hr2; have HM1 := Lib.hid hm1; clear hown' hgrow hor hv2 hr2 hk2 hb2 hv1 hm1)
    all_goals
      have hT : TurnM (fun k => k = w.heap.size + 1 ∨ v.ownBlock = some k) W (w1.setCell ⟨w.heap.size + 1, 0, none⟩ (.slice (some ⟨g', 0, none⟩) (pre.length + 1) cap')) :=
        ((TurnM.alloc _ W _).trans (TurnM.grown HG.out fun k e => .inr e)).trans (TurnM.setCell w1 (.inl rfl) _)
      have hge : ∀ k, v.ownBlock = some k → w.heap.size + 1 ≤ k := fun k e => (HRow.out.lt k e).1
      have hKK : KeepM (fun k => R k ∨ M k) W (w1.setCell ⟨w.heap.size + 1, 0, none⟩ (.slice (some ⟨g', 0, none⟩) (pre.length + 1) cap')) := by
        refine KeepM.of_turn hT ?_
        rintro k hk (hR | hM) (rfl | e)
        · have := HR.out _ hR; omega
        · have := HR.out _ hR; have := hge k e; omega
        · exact hnb hM
        · exact HNG.out k e hM
      have hII : TextsI w.heap.size most M0 w (pre ++ [x]) M (w1.setCell ⟨w.heap.size + 1, 0, none⟩ (.slice (some ⟨g', 0, none⟩) (pre.length + 1) cap')) := by
        refine ⟨⟨⟨(hT.block _ (by omega) (fun e => ?_)).trans HBM.out, hnm⟩, _, HV2.out, by simpa using HR2.out, trivial, hnb, ?_⟩, HFr.out.1.on hT ?_, HFr.out.2⟩
        · rcases e with e | e
          · omega
          · have := hge _ e; omega
        · rintro g hg hM
          simp [Value.ownBlock] at hg
          subst hg
          rcases HOr.out with e | e
          · exact HNG.out _ e hM
          · have := HIn.out.lt _ hM; omega
        · rintro k hk (rfl | e)
          · omega
          · have := hge k e; omega
      first
        | exact ⟨hKK, by simp; omega, hII⟩
        | exact ⟨hKK, ⟨rfl, by simp; omega⟩, hII⟩
  case done =>
    rintro M W ⟨hlm, ⟨⟨hbm, hnm⟩, v, hv, hrow, _, hnb, hng⟩, hfr⟩ hin hK
    have HRow := Lib.hid hrow
    have HFr := Lib.hid hfr
    have HK := Lib.hid hK
    have hc := hv.cell
    clear hrow hng hfr hin hK hbm
    gi_wp2
    refine ⟨by simp, .inl ⟨_, _, rfl, run_takeDeferred HK.out, ?_⟩⟩
    refine ⟨_, results_tmp rfl _ _ _, v, rfl, ownsRow_base (ownsRow_putObj ?_ _ HK.out rfl) (Nat.le_succ _), HFr.out.1.on (TurnM.putObj (M := fun k => k = W0.heap.size) W rfl _) (fun k hk e => by omega)⟩
    rw [List.take_of_length_le (by omega)]
    exact HRow.out
  case stop =>
    rintro c pre M W hpre ⟨⟨rfl, hlm⟩, ⟨⟨hbm, hnm⟩, v, hv, hrow, _, hnb, hng⟩, hfr⟩ hin hK
    have HRow := Lib.hid hrow
    have HFr := Lib.hid hfr
    have HK := Lib.hid hK
    have HPre := Lib.hid hpre
    have hc := hv.cell
    clear hrow hng hfr hin hK hbm hpre
    gi_wp2
    refine ⟨by simp, .inl ⟨_, _, rfl, run_takeDeferred HK.out, ?_⟩⟩
    have hpt : xs.take most.toNat = pre := by
      rw [List.prefix_iff_eq_take.1 HPre.out, show pre.length = most.toNat by omega]
    refine ⟨_, results_tmp rfl _ _ _, v, rfl, ownsRow_base (ownsRow_putObj ?_ _ HK.out rfl) (Nat.le_succ _), HFr.out.1.on (TurnM.putObj (M := fun k => k = W0.heap.size) W rfl _) (fun k hk e => by omega)⟩
    rw [hpt]
    exact HRow.out

theorem texts_calls (fv : Value) (xs : List ByteArray) (most : Int) (R M0 : Fp) (w : World) (hlen : xs.length ≤ 1000000) (hm : 1 ≤ most) (hs : SeqG fv xs R M0 w) :
    Calls Try.prog 15 #[fv, .int .i64 most] w (ColPost w (xs.take most.toNat) M0) := callsIn_wide.1 (texts_in 9 fv xs most R M0 w hlen hm hs)
set_option maxRecDepth 100000 in
theorem texts_no (fv : Value) (xs : List ByteArray) (most : Int) (R M0 : Fp) (w : World) (hm : most < 1) (hs : SeqG fv xs R M0 w) :
    Calls Try.prog 15 #[fv, .int .i64 most] w (ColPost w [] M0) := by
  have HS := Lib.hid hs
  obtain ⟨_, _, gf, lb, rfl, _⟩ := hs
  have hq := fn_eq
  have hm0 : decide (most < 1) = true := by simpa using hm
  go_enter Try.func15, Try.ntmps15
  go_wp2
  go_ret
  exact ⟨_, rfl, World.ownsRow_nil _ _ _ _, TurnM.of_below (((Below.refl _ w).alloc (Nat.le_refl _) _).alloc (by simp) _)⟩
end Go.Proofs.Ytljlibopnfnkeaa.SeqS
