/- A sequence of texts as a list: Collect, List, Texts; for sequences that may be gone through once. -/
import Derived.Test.YthghpmnbnfbheaaSeqM
import Derived.Test.YthghpmnbnfbheaaProg
import Derived.WalkSpells
import Derived.Maps.AppendAt
namespace Go.Proofs.Ythghpmnbnfbheaa.SeqS
open Go.RowKit Go.Shelf Go.Proofs.Ythghpmnbnfbheaa.SeqM
attribute [local go_sem] Oper.semAt_some
set_option linter.unusedVariables false

abbrev eS (x : ByteArray) : Array Value := #[.string x]

/-- A sequence: R is what it asks to be kept, M0 what it may turn. -/
def SeqG (fv : Value) (xs : List ByteArray) (R M0 : Fp) (W : World) : Prop :=
  (∀ k, R k → k < W.heap.size) ∧ (∀ k, M0 k → k < W.heap.size) ∧ ∃ g lb, fv = .func (.func g) #[] lb ∧ (∀ args w, (callFunc g args).run Try.prog w = .ok (.enter g args) w) ∧
    ∀ W2, KeepM (fun k => R k ∨ M0 k) W W2 → RunM Try.prog g lb eS xs R M0 W2
theorem SeqG.keep {fv : Value} {xs : List ByteArray} {R M0 : Fp} {W W' : World} (h : SeqG fv xs R M0 W) (hk : KeepM (fun k => R k ∨ M0 k) W W') : SeqG fv xs R M0 W' := by
  obtain ⟨h1, h2, g, lb, h3, h4, h5⟩ := h
  exact ⟨fun k hR => Nat.lt_of_lt_of_le (h1 k hR) hk.size, fun k hR => Nat.lt_of_lt_of_le (h2 k hR) hk.size, g, lb, h3, h4, fun W2 h6 => h5 W2 (hk.trans h6)⟩
theorem SeqG.below {fv : Value} {xs : List ByteArray} {R M0 : Fp} {W W' : World} (h : SeqG fv xs R M0 W) (hb : Below W.heap.size W W') : SeqG fv xs R M0 W' :=
  h.keep ⟨hb.size, fun k hk _ => hb.block k hk⟩

theorem info9 : (Try.prog.info? 9).map (fun i => (i.zero, i.size, i.bytes)) = some (some (.string ⟨#[]⟩), 1, 16) := by kernel_rfl
def ColS (n₀ : Nat) (M0 : Fp) (w : World) (pre : List ByteArray) (M : Fp) (W : World) : Prop :=
  (∃ v, Boxed W n₀ 29 v ∧ W.ownsRow n₀ 9 1 v pre.length (pre.map (Value.string)) ∧ True ∧ ¬ M n₀ ∧ ∀ g, v.ownBlock = some g → ¬ M g) ∧ (TurnM M0 w W ∧ ∀ k, M k → M0 k ∨ w.heap.size ≤ k)
theorem colS_stable (n₀ : Nat) (M0 : Fp) (w : World) : Stable (ColS n₀ M0 w) :=
  (stable_row n₀ n₀ 29 9 1 (fun pre : List ByteArray => pre.length) (fun pre => pre.map (Value.string)) (fun _ _ => True)).and (stable_frame M0 w)

def ColPost (w : World) (xs : List ByteArray) (M0 : Fp) (e : Ending) (w' : World) : Prop :=
  ∃ v, e = .returned v ∧ w'.ownsRow w.heap.size 9 1 v xs.length (xs.map (Value.string)) ∧ TurnM M0 w w'

set_option maxHeartbeats 2000000 in
set_option maxRecDepth 100000 in
theorem appendSeq_in (n : Nat) (fv : Value) (xs : List ByteArray) (R M0 : Fp) (w : World) (hlen : xs.length ≤ 1000000) (hs : SeqG fv xs R M0 w) :
    CallsIn Fence.wide n Try.prog 55 #[.slice none 0 0, fv] w (ColPost w xs M0) := by
  obtain ⟨hR, hM0, gf, lb, rfl, eg, hrun⟩ := hs
  obtain ⟨i0, hi, hz0, hz1, hz2⟩ := info_parts info9
  have HRun := Lib.hid hrun
  have HR := Lib.hid hR
  have HM0 := Lib.hid hM0
  have EG := Lib.hid eg
  clear hrun hR hM0 eg
  have hd : Fence.wide.depth = none := rfl
  refine callsIn_of_wp_marks Try.func55 rfl trivial ?_ rfl
  simp only [Try.ntmps55, List.size_toArray, List.length_cons, List.length_nil, Nat.reduceAdd, Nat.reduceSub, Array.replicate_succ, Array.replicate_zero, List.push_toArray, List.append_toArray, List.nil_append, List.cons_append]
  gi_wp2
  have bO := Boxed.new w 29 (.slice none 0 0)
  have hsz : (w.alloc (.cells #[.slice none 0 0] 29)).heap.size = w.heap.size + 1 := by simp
  have hB0 : Below w.heap.size w (w.alloc (.cells #[.slice none 0 0] 29)) := (Below.refl _ w).alloc (Nat.le_refl _) _
  obtain ⟨W0, hW0⟩ : ∃ W0, w.alloc (.cells #[.slice none 0 0] 29) = W0 := ⟨_, rfl⟩
  rw [hW0] at bO hsz hB0 ⊢
  clear hW0
  refine wpIn_rangeM (xs := xs) (R0 := R) (M0 := M0) rfl EG.out (fun W2 h2 => HRun.out W2 ⟨Nat.le_trans hB0.size h2.size, fun k hk _ => (h2.block k (by omega)).trans (hB0.block k hk)⟩) (fun k hk => by have := HR.out k hk; omega) (fun k hk => by have := HM0.out k hk; omega) (fun _ => rfl)
    (ColS w.heap.size M0 w) (fun _ _ _ _ => False) (colS_stable _ _ _) (fun _ => stable_false) ?_
    (fun x a' _ => a' = { tmps := #[.slice none 0 0, .func (.func gf) #[] lb, .pointer (some ⟨w.heap.size, 0, none⟩), undef, .slice none 0 0, .string x, .func (.func gf) #[] lb, .string x, undef, undef, undef, undef, undef], defers := [] }) (fun _ _ _ _ h _ => h) ?assign ?body ?done ?stop
  · exact ⟨⟨_, bO, World.ownsRow_nil _ _ _ _, trivial, fun h => by have := HM0.out _ h; omega, fun g hg => by simp [Value.ownBlock] at hg⟩, TurnM.of_below hB0, fun k hk => .inl hk⟩
  case assign =>
    intro m l pre x M W K hi hin hK
    have HK := Lib.hid hK
    have HI := Lib.hid hi
    clear hK hi
    gi_wp2
    exact HK.out _ _ (KeepM.refl _ _) HI.out rfl
  case body =>
    rintro m l pre x M a' W ⟨⟨v, hv, hrow, _, hnb, hng⟩, hfr⟩ hin rfl ⟨rest, hx⟩
    have HX := Lib.hid hx
    have HRow := Lib.hid hrow
    have HNG := Lib.hid hng
    have HFr := Lib.hid hfr
    have HIn := Lib.hid hin
    have hc := hv.cell
    have hpl : pre.length + 1 ≤ 1000000 := by have := congrArg List.length hx; simp at this; omega
    have hle := hv.lt
    clear hx hrow hng hfr hin
    gi_wp2_with (gi_at_builtin; refine wpListIn_append_lies _ rfl _ _ 29 rfl w.heap.size 9 i0 (.string ⟨#[]⟩) 1 16 Try.underlying29 hi hz0 hz1 hz2 rfl (by decide) _ _ _ rfl (HRow.out.alloc _) ⟨W.heap.size, 0, none⟩ 1 1 [.string x] rfl rfl (cell_one_new _ _ _) (by simp [Value.oneCell']) (by omega) (by unfold maxLen; omega) (by omega) (by simp; omega) (W.heap.size + 1) (by simp) ?_; intro g' cap' w1 hown' hgrow hor hlt; obtain ⟨hv1, hv2, hr2, hk2, hb2⟩ := hv.appended (by decide) HRow.out (Nat.le_of_lt hle) (Nat.le_refl _) hown' hgrow; have hc1 := hv1.cell; have hf1 := hv1.frozen; have HO := Lib.hid hown'; have HG := Lib.hid hgrow; have HOr := Lib.hid hor; have HV2 := Lib.hid hv2; have HR2 := Lib.hid hr2; clear hown' hgrow hor hv2 hr2 hk2 hb2 hv1)
    have hT : TurnM (fun k => k = w.heap.size ∨ v.ownBlock = some k) W (w1.setCell ⟨w.heap.size, 0, none⟩ (.slice (some ⟨g', 0, none⟩) (pre.length + 1) cap')) :=
      ((TurnM.alloc _ W _).trans (TurnM.grown HG.out fun k e => .inr e)).trans (TurnM.setCell w1 (.inl rfl) _)
    have hge : ∀ k, v.ownBlock = some k → w.heap.size ≤ k := fun k e => (HRow.out.lt k e).1
    refine ⟨KeepM.of_turn hT ?_, ⟨_, HV2.out, ?_, trivial, hnb, ?_⟩, HFr.out.1.on hT ?_, HFr.out.2⟩
    · rintro k hk (hR | hM) (rfl | e)
      · have := HR.out _ hR; omega
      · have := HR.out _ hR; have := hge k e; omega
      · exact hnb hM
      · exact HNG.out k e hM
    · simpa using HR2.out
    · rintro g hg hM
      simp [Value.ownBlock] at hg
      subst hg
      rcases HOr.out with e | e
      · exact HNG.out _ e hM
      · have := HIn.out.lt _ hM; omega
    · rintro k hk (rfl | e)
      · omega
      · have := hge k e; omega
  case done =>
    rintro M W ⟨⟨v, hv, hrow, _, hnb, hng⟩, hfr⟩ hin hK
    have HRow := Lib.hid hrow
    have HFr := Lib.hid hfr
    have HIn := Lib.hid hin
    have HK := Lib.hid hK
    have hc := hv.cell
    clear hrow hng hfr hin hK
    gi_wp2
    refine ⟨by simp, .inl ⟨_, _, rfl, run_takeDeferred HK.out, ?_⟩⟩
    refine ⟨_, results_tmp rfl _ _ _, v, rfl, ownsRow_putObj HRow.out _ HK.out rfl, HFr.out.1.on (TurnM.putObj (M := fun k => k = W0.heap.size) W rfl _) (fun k hk e => by omega)⟩
  case stop =>
    intro c pre M W _ h _ _
    exact h.elim

set_option maxRecDepth 100000 in
theorem collect_calls (fv : Value) (xs : List ByteArray) (R M0 : Fp) (w : World) (hlen : xs.length ≤ 1000000) (hs : SeqG fv xs R M0 w) :
    Calls Try.prog 45 #[fv] w (ColPost w xs M0) := by
  have HS := Lib.hid hs
  obtain ⟨_, _, gf, lb, rfl, _⟩ := hs
  go_enter Try.func45, Try.ntmps45
  go_wp2_with fail
  refine (callsIn_wide.1 (appendSeq_in 9 _ xs R M0 w hlen HS.out)).mono ?_
  rintro e w1 ⟨v, rfl, ho, ht⟩
  have HO := Lib.hid ho
  have HT := Lib.hid ht
  clear ho ht
  go_wp2
  go_ret
  exact ⟨v, rfl, HO.out, HT.out⟩

theorem fn_nil (w : World) : (binOp .eql 51 Value.nilFunc Value.nilFunc).run Try.prog w = .ok (.bool true) w := by kernel_rfl
theorem fn_eq (w : World) (g : FuncId) (lb : Array Value) : (binOp .eql 51 (.func (.func g) #[] lb) Value.nilFunc).run Try.prog w = .ok (.bool false) w := by kernel_rfl
set_option maxRecDepth 100000 in
theorem list_calls (fv : Value) (xs : List ByteArray) (R M0 : Fp) (w : World) (hlen : xs.length ≤ 1000000) (hs : SeqG fv xs R M0 w) :
    Calls Try.prog 28 #[fv] w (ColPost w xs M0) := by
  have HS := Lib.hid hs
  obtain ⟨_, _, gf, lb, rfl, _⟩ := hs
  have hq := fn_eq
  go_enter Try.func28, Try.ntmps28
  go_wp2_with (go_at_call 45; refine (collect_calls _ xs R M0 w hlen HS.out).mono ?_; rintro e w1 ⟨v, rfl, ho, ht⟩; have HO := Lib.hid ho; have HT := Lib.hid ht; clear ho ht)
  go_ret
  exact ⟨v, rfl, HO.out, HT.out⟩
set_option maxRecDepth 100000 in
theorem list_nil (w : World) : Calls Try.prog 28 #[Value.nilFunc] w fun e w' => e = .returned (.slice none 0 0) ∧ w' = w := by
  have hq := fn_nil
  go_enter Try.func28, Try.ntmps28
  go_wp2
  go_ret
  exact ⟨rfl, rfl⟩

theorem ownsRow_base {W : World} {b b' : Nat} {e : TypeId} {s : Nat} {v : Value} {n : Nat} {xs : List Value} (h : W.ownsRow b e s v n xs) (hb : b' ≤ b) : W.ownsRow b' e s v n xs := by
  refine ⟨h.1, h.2.imp id ?_⟩
  rintro ⟨g, cap, cur, h1, h2, r⟩
  exact ⟨g, cap, cur, h1, Nat.le_trans hb h2, r⟩

end Go.Proofs.Ythghpmnbnfbheaa.SeqS
