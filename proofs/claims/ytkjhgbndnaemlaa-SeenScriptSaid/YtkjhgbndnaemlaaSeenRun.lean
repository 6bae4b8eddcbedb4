/- Gone through, Seen tells its rows, each with all those ahead of it told before. -/
import Derived.Test.YtkjhgbndnaemlaaSeenR
import Derived.Test.YtkjhgbndnaemlaaSeqM
namespace Go.Proofs.Ytkjhgbndnaemlaa.SeenR
open Go.RowKit Go.Shelf Go.Proofs.Ytkjhgbndnaemlaa.SeqM
attribute [local go_sem] Oper.semAt_some
set_option linter.unusedVariables false

abbrev eR (x : Int × V) : Array Value := #[.int .i64 x.1, val x.2]
set_option maxHeartbeats 2000000 in
set_option maxRecDepth 100000 in
theorem all1_run (Bs b n₀ : Nat) (most : Int) (lv : Value) (rows : List (Int × V)) (W : World) (hBs : W.cell? ⟨Bs, 0, none⟩ = some (.pointer (some ⟨b, 0, none⟩))) (hS : At W n₀ b most lv rows) :
    RunM Try.prog 25 #[.pointer (some ⟨Bs, 0, none⟩)] eR rows (fun _ => False) (fun _ => False) W := by
  intro n l J Jx hJ hJx hY M hM0 hMlt h0
  obtain ⟨hb, hrow, hlen, _⟩ := hS
  have hb1 : W.cell? ⟨b, 1, none⟩ = some lv := by simp [World.cell?, hb]
  have HR := Lib.hid hrow
  have HJ := Lib.hid hJ
  have HY := Lib.hid hY
  have H0 := Lib.hid h0
  have HM := Lib.hid hMlt
  clear hrow hJ hY h0 hb hMlt hM0 hJx
  have hd : Fence.wide.depth = none := rfl
  refine callsIn_of_wp Try.func25 rfl trivial ?_ rfl
  simp only [Try.ntmps25, List.size_toArray, List.length_cons, List.length_nil, Nat.reduceAdd, Nat.reduceSub, Array.replicate_succ, Array.replicate_zero, List.push_toArray, List.append_toArray, List.nil_append, List.cons_append]
  have h26 : Fence.wide.fn 26 := trivial
  gi_wp2_with (gi_at_call 26; refine (callsIn_wide.2 (clone_calls _ n₀ lv rows hlen HR.out)).mono ?_; rintro e w1 ⟨v1, rfl, ho1, hb1⟩; obtain ⟨A1, c1, rfl, ho2⟩ := row_slice ho1; have HO := Lib.hid ho2; have HB := Lib.hid hb1; clear ho1 ho2 hb1)
  obtain ⟨M1, hM1⟩ : ∃ M1 : Fp, M1 = fun k => M k ∨ (W.heap.size ≤ k ∧ k < w1.heap.size) := ⟨_, rfl⟩
  have HM1 := Lib.hid hM1
  clear hM1
  have HJ1 : Hid (J [] M1 w1) := Lib.hid (by rw [HM1.out]; exact HJ.out [] M _ W w1 H0.out (TurnM.of_below HB.out) (fun k h => .inl h) (fun k h => h))
  have HMl : Hid (∀ k, M1 k → k < w1.heap.size) := Lib.hid (by rw [HM1.out]; rintro k (h | h); exact Nat.lt_of_lt_of_le (HM.out k h) HB.out.size; exact h.2)
  gi_loopw [13] (fun i wr => ∃ k : Nat, k ≤ rows.length ∧ i = .int .i64 k ∧ J (rows.take k) M1 wr ∧ KeepM (fun k => False ∨ M1 k) w1 wr) (fun i _ => rows.length - (intOf i).toNat)
  case atStart => exact ⟨0, Nat.zero_le _, rfl, HJ1.out, KeepM.refl _ _⟩
  case round =>
    clear HJ1
    obtain ⟨k, hk, rfl, hJs, hkp⟩ := hrel
    have HJs := Lib.hid hJs
    have HK := Lib.hid hkp
    clear hJs hkp
    by_cases hlt : k < rows.length
    · obtain ⟨c, cur, rfl, hc0, hcc, hcu⟩ := HO.out (by omega)
      have hcw : wr.heap[c]? = some (.cells cur 64 (0, 0)) := (HK.out.block c (Array.getElem?_eq_some_iff.1 hcc).1 (.inr (by rw [HM1.out]; exact .inr ⟨hc0, (Array.getElem?_eq_some_iff.1 hcc).1⟩))).trans hcc
      have hfg := flat_get rows k hlt
      have c0 : wr.cell? ⟨c, k * 4, none⟩ = some (.int .i64 rows[k].1) := by simp [World.cell?, hcw, hcu _ _ hfg.1]
      have c1 : wr.cell? ⟨c, k * 4 + 1, none⟩ = some (.int .i64 rows[k].2.1) := by simp [World.cell?, hcw, hcu _ _ hfg.2.1]
      have c2 : wr.cell? ⟨c, k * 4 + 1 + 1, none⟩ = some (.int .i64 rows[k].2.2.1) := by simp [World.cell?, hcw, hcu _ _ hfg.2.2.1]
      have c3 : wr.cell? ⟨c, k * 4 + 1 + 1 + 1, none⟩ = some (.int .i64 rows[k].2.2.2) := by simp [World.cell?, hcw, hcu _ _ hfg.2.2.2]
      have HJ2 : Hid (J (rows.take k) M1 (wr.alloc (.cells #[.int .i64 rows[k].1, .int .i64 rows[k].2.1, .int .i64 rows[k].2.2.1, .int .i64 rows[k].2.2.2] 64))) := Lib.hid (HJ.out.turn HJs.out (TurnM.alloc _ _ _))
      obtain ⟨fn, tmps, assign, body, hy, hR⟩ := HY.out (rows.take k) rows[k] M1 _ HJ2.out (fun _ h => h.elim) (fun i hi => Nat.lt_of_lt_of_le (HMl.out i hi) (Nat.le_trans HK.out.size (by simp))) ⟨rows.drop (k + 1), by rw [← List.drop_eq_getElem_cons hlt, List.take_append_drop]⟩ (n - 1)
      have HRR := Lib.hid hR
      have HCW := Lib.hid hcw
      clear hR hfg hcu hcc hcw
      gi_wp2
      refine HRR.out.mono ?_
      rintro e W3 (⟨rfl, hJ3, hk3⟩ | ⟨rfl, hJx3, hk3⟩)
      · have HJ3 := Lib.hid hJ3
        have HK3 := Lib.hid hk3
        clear hJ3 hk3
        gi_wp2
        go_roundw
        case rel => exact ⟨k + 1, by omega, by simp, by rw [List.take_succ_eq_append_getElem hlt]; exact HJ3.out, (HK.out.trans (KeepM.of_turn (TurnM.alloc (fun _ => False) wr _) (fun _ _ _ h => h))).trans HK3.out⟩
        case measure => simp [intOf]; omega
      · have HJ3 := Lib.hid hJx3
        have HK3 := Lib.hid hk3
        clear hJx3 hk3
        gi_wp2
        refine bodyPost_ret (results_none rfl _ _ _) rfl ?_
        exact ⟨⟨_, rfl⟩, M1, fun k h => by rw [HM1.out]; exact .inl h, fun i hi => Nat.lt_of_lt_of_le (HMl.out i hi) (Nat.le_trans HK.out.size (Nat.le_trans (by simp) HK3.out.size)), .inr ⟨_, by rw [← List.take_succ_eq_append_getElem hlt]; exact List.take_prefix _ _, HJ3.out⟩⟩
    · obtain rfl : k = rows.length := by omega
      gi_wp2
      go_end0
      exact ⟨⟨_, rfl⟩, M1, fun k h => by rw [HM1.out]; exact .inl h, fun i hi => Nat.lt_of_lt_of_le (HMl.out i hi) HK.out.size, .inl (by simpa using HJs.out)⟩
theorem enters25 : ∀ args w, (callFunc 25 args).run Try.prog w = .ok (.enter 25 args) w := enters_of Try.func25 (by kernel_rfl) rfl
end Go.Proofs.Ytkjhgbndnaemlaa.SeenR
