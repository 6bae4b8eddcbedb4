/- strings.Lines, gone through once, tells a text's lines. -/
import Derived.Test.YthghpmnbnfbheaaSeqS
import Derived.Test.YthghpmnbnfbheaaLinesP
import Derived.Test.YthghpmnbnfbheaaShelf
namespace Go.Proofs.Ythghpmnbnfbheaa.SeqS
open Go.RowKit Go.Shelf Go.Proofs.Ythghpmnbnfbheaa.SeqM Go.Proofs.Ythghpmnbnfbheaa.Lines
attribute [local go_sem] Oper.semAt_some
set_option linter.unusedVariables false

theorem index10 (s : ByteArray) (w : World) : Calls Try.prog 41 #[.string s, .int .u8 10] w fun e w' => e = .returned (.int .i64 (Lib.indexByte s.data.toList 10)) ∧ w' = w := Try.strings_IndexByte s 10 w

def meas (B : Nat) (w : World) : Nat := match w.cell? ⟨B, 0, none⟩ with
  | some (.string r) => r.size
  | _ => 0
set_option maxHeartbeats 2000000 in
set_option maxRecDepth 100000 in
theorem lines1 (B : Nat) (s : ByteArray) (hlen : s.size ≤ 1000000) (W : World) (hB : W.heap[B]? = some (.cells #[.string s] 9 (0, 0))) :
    RunM Try.prog 56 #[.pointer (some ⟨B, 0, none⟩)] eS (lines s) (fun _ => False) (fun k => k = B) W := by
  intro n l J Jx hJ hJx hY M hM0 hMlt h0
  have HJ := Lib.hid hJ
  have HY := Lib.hid hY
  have H0 := Lib.hid h0
  have HM := Lib.hid hMlt
  have HB := Lib.hid hB
  have hMB : M B := hM0 B rfl
  clear hJ hY h0 hM0 hMlt hJx hB
  have hd : Fence.wide.depth = none := rfl
  refine callsIn_of_wp Try.func56 rfl trivial ?_ rfl
  simp only [Try.ntmps56, List.size_toArray, List.length_cons, List.length_nil, Nat.reduceAdd, Nat.reduceSub, Array.replicate_succ, Array.replicate_zero, List.push_toArray, List.append_toArray, List.nil_append, List.cons_append]
  have h27 : Fence.wide.fn 41 := trivial
  gi_wp2
  gi_loopw [3] (fun v wr => ∃ (r : ByteArray) (pre : List ByteArray), lines s = pre ++ lines r ∧ r.size ≤ 1000000 ∧ wr.heap[B]? = some (.cells #[.string r] 9 (0, 0)) ∧ J pre M wr ∧ W.heap.size ≤ wr.heap.size) (fun _ wr => meas B wr)
  case atStart => exact ⟨s, [], rfl, hlen, HB.out, H0.out, Nat.le_refl _⟩
  case round =>
    obtain ⟨r, pre, hx, hr, hb, hj, hsz⟩ := hrel
    have HX := Lib.hid hx
    have HBx := Lib.hid hb
    have HJx := Lib.hid hj
    have hc : wr.cell? ⟨B, 0, none⟩ = some (.string r) := by simp [World.cell?, hb]
    have hf : wr.frozen? ⟨B, 0, none⟩ = false := by simp [World.frozen?, hb]
    have hm : meas B wr = r.size := by simp [meas, hc]
    have HMs := Lib.hid hm
    clear hx hb hj hm
    by_cases h0 : 0 < r.size
    · have h0' : (0 : Int) < (r.size : Int) := by omega
      have hge := Lib.indexByte_ge r.data.toList 10
      by_cases hneg : Lib.indexByte r.data.toList 10 < 0
      · have hi : Lib.indexByte r.data.toList 10 = -1 := by omega
        have HL := Lib.hid (lines_one r h0 hi)
        have HI := Lib.hid hi
        have hT : TurnM M wr (wr.setCell ⟨B, 0, none⟩ (.string ⟨#[]⟩)) := TurnM.setCell wr (p := ⟨B, 0, none⟩) hMB _
        have hb1 : (wr.setCell ⟨B, 0, none⟩ (.string ⟨#[]⟩)).heap[B]? = some (.cells #[.string ⟨#[]⟩] 9 (0, 0)) := Boxed.set (W := wr) (t := 9) (v := .string r) _ HBx.out
        obtain ⟨fn, tmps, assign, body, hy, hR⟩ := HY.out pre r M _ (HJ.out.turn HJx.out hT) (fun k e => by subst e; exact hMB) (fun k hk => Nat.lt_of_lt_of_le (HM.out k hk) (Nat.le_trans hsz hT.size)) ⟨[], by rw [HX.out, HL.out]⟩ (n - 1)
        have HRR := Lib.hid hR
        have HB1 := Lib.hid hb1
        have HTs := Lib.hid hT.size
        clear hR hi hneg hge hT hb1
        gi_wp2_with (gi_at_call 41; refine (callsIn_wide.2 (index10 _ _)).mono ?_; rw [HI.out]; rintro e w1 ⟨rfl, rfl⟩)
        refine HRR.out.mono ?_
        rintro e W3 (⟨rfl, hj3, hk3⟩ | ⟨rfl, hj3, hk3⟩)
        · have HJ3 := Lib.hid hj3
          have hb3 := (hk3.block B (Array.getElem?_eq_some_iff.1 HB1.out).1 (.inr hMB)).trans HB1.out
          have HB3 := Lib.hid hb3
          have HS3 := Lib.hid hk3.size
          clear hj3 hk3 hb3
          gi_wp2
          go_roundw
          case rel => exact ⟨⟨#[]⟩, pre ++ [r], by rw [HX.out, HL.out]; simp [lines, linesL], by decide, HB3.out, HJ3.out, Nat.le_trans hsz (Nat.le_trans HTs.out HS3.out)⟩
          case measure => rw [HMs.out]; simp [meas, World.cell?, HB3.out]; exact h0
        · have HJ3 := Lib.hid hj3
          have HS3 := Lib.hid hk3.size
          clear hj3 hk3
          gi_wp2
          refine bodyPost_ret (results_none rfl _ _ _) rfl ?_
          exact ⟨⟨_, rfl⟩, M, fun _ h => h, fun k hk => Nat.lt_of_lt_of_le (HM.out k hk) (Nat.le_trans hsz (Nat.le_trans HTs.out HS3.out)), .inr ⟨_, by rw [HX.out, HL.out]; exact List.prefix_refl _, HJ3.out⟩⟩
      · obtain ⟨o, ho⟩ := Int.eq_ofNat_of_zero_le (show 0 ≤ Lib.indexByte r.data.toList 10 by omega)
        have HL := Lib.hid (lines_step r o ho)
        have HI := Lib.hid ho
        have hol : o < r.size := by have := indexByte_lt _ _ ho; simpa using this
        clear hneg hge ho
        gi_wp2_with (gi_at_call 41; refine (callsIn_wide.2 (index10 _ _)).mono ?_; rw [HI.out]; rintro e w1 ⟨rfl, rfl⟩)
        refine wpIn_wide.2 ?_
        go_region
        have hT : TurnM M w1 (w1.setCell ⟨B, 0, none⟩ (.string (r.extract (o + 1) r.size))).drew := (TurnM.setCell w1 (p := ⟨B, 0, none⟩) hMB _).trans (TurnM.drew _ _)
        have hb1 : (w1.setCell ⟨B, 0, none⟩ (.string (r.extract (o + 1) r.size))).drew.heap[B]? = some (.cells #[.string (r.extract (o + 1) r.size)] 9 (0, 0)) := Boxed.set (W := w1) (t := 9) (v := .string r) _ HBx.out
        obtain ⟨fn, tmps, assign, body, hy, hR⟩ := HY.out pre (r.extract 0 (o + 1)) M _ (HJ.out.turn HJx.out hT) (fun k e => by subst e; exact hMB) (fun k hk => Nat.lt_of_lt_of_le (HM.out k hk) (Nat.le_trans hsz hT.size)) ⟨lines (r.extract (o + 1) r.size), by rw [HX.out, HL.out]⟩ (n - 1)
        have HRR := Lib.hid hR
        have HB1 := Lib.hid hb1
        have HTs := Lib.hid hT.size
        clear hR hT hb1
        gi_wp2
        refine HRR.out.mono ?_
        rintro e W3 (⟨rfl, hj3, hk3⟩ | ⟨rfl, hj3, hk3⟩)
        · have HJ3 := Lib.hid hj3
          have hb3 := (hk3.block B (Array.getElem?_eq_some_iff.1 HB1.out).1 (.inr hMB)).trans HB1.out
          have HB3 := Lib.hid hb3
          have HS3 := Lib.hid hk3.size
          clear hj3 hk3 hb3
          gi_wp2
          go_roundw
          case rel => exact ⟨r.extract (o + 1) r.size, pre ++ [r.extract 0 (o + 1)], by rw [HX.out, HL.out]; simp, by rw [ByteArray.size_extract]; omega, HB3.out, HJ3.out, Nat.le_trans hsz (Nat.le_trans HTs.out HS3.out)⟩
          case measure =>
            have e : meas B W3 = (r.extract (o + 1) r.size).size := by simp [meas, World.cell?, HB3.out]
            rw [HMs.out, e, ByteArray.size_extract]
            omega
        · have HJ3 := Lib.hid hj3
          have HS3 := Lib.hid hk3.size
          clear hj3 hk3
          gi_wp2
          refine bodyPost_ret (results_none rfl _ _ _) rfl ?_
          exact ⟨⟨_, rfl⟩, M, fun _ h => h, fun k hk => Nat.lt_of_lt_of_le (HM.out k hk) (Nat.le_trans hsz (Nat.le_trans HTs.out HS3.out)), .inr ⟨_, ⟨lines (r.extract (o + 1) r.size), by rw [HX.out, HL.out]; simp⟩, HJ3.out⟩⟩
    · obtain hz : r.size = 0 := by omega
      have hzz : lines r = [] := lines_empty r hz
      have h0' : decide ((0 : Int) < (r.size : Int)) = false := decide_eq_false (by omega)
      have HZZ := Lib.hid hzz
      clear hzz hz
      gi_wp2
      go_end0
      have hxs : lines s = pre := by rw [HX.out, HZZ.out, List.append_nil]
      exact ⟨⟨_, rfl⟩, M, fun _ h => h, fun k hk => Nat.lt_of_lt_of_le (HM.out k hk) hsz, .inl (by rw [hxs]; exact HJx.out)⟩

theorem enters1 : ∀ args w, (callFunc 56 args).run Try.prog w = .ok (.enter 56 args) w := enters_of Try.func56 (by kernel_rfl) rfl
def LinesPost (s : ByteArray) (w : World) (e : Ending) (w' : World) : Prop := ∃ fv, e = .returned fv ∧ SeqG fv (lines s) (fun _ => False) (fun k => k = w.heap.size) w' ∧ Below w.heap.size w w'
set_option maxRecDepth 100000 in
theorem slines_calls (s : ByteArray) (w : World) (hlen : s.size ≤ 1000000) : Calls Try.prog 46 #[.string s] w (LinesPost s w) := by
  go_enter Try.func46, Try.ntmps46
  go_wp2
  go_ret
  have hb : Below w.heap.size w (w.alloc (.cells #[.string s] 9)) := (Below.refl _ w).alloc (Nat.le_refl _) _
  refine ⟨_, rfl, ⟨fun _ h => h.elim, fun k h => by subst h; simp, 56, _, rfl, enters1, fun W2 hk => ?_⟩, hb⟩
  exact lines1 w.heap.size s hlen W2 ((hk.block _ (by simp) (.inr rfl)).trans (World.alloc_heap_new w _))
set_option maxRecDepth 100000 in
theorem lines_calls (s : ByteArray) (w : World) (hlen : s.size ≤ 1000000) : Calls Try.prog 29 #[.string s] w (LinesPost s w) := by
  go_enter Try.func29, Try.ntmps29
  go_wp2_with (go_at_call 46; refine (slines_calls s _ hlen).mono ?_; rintro e w1 ⟨fv, rfl, hs, hb⟩; have HS := Lib.hid hs; have HB := Lib.hid hb; clear hs hb)
  go_ret
  exact ⟨fv, rfl, HS.out, HB.out⟩
def SplitPost (s : ByteArray) (w : World) (e : Ending) (w' : World) : Prop := ∃ v, e = .returned v ∧ w'.ownsRow w.heap.size 9 1 v (lines s).length ((lines s).map Value.string) ∧ Below w.heap.size w w'
set_option maxRecDepth 100000 in
theorem split_calls (s : ByteArray) (w : World) (hlen : s.size ≤ 1000000) : Calls Try.prog 15 #[.string s] w (SplitPost s w) := by
  go_enter Try.func15, Try.ntmps15
  go_wp2_with fail
  refine (lines_calls s _ hlen).mono ?_
  rintro e w1 ⟨fv, rfl, hs, hb⟩
  have HS := Lib.hid hs
  have HB := Lib.hid hb
  clear hs hb
  have hll := Nat.le_trans (lines_length s) hlen
  go_wp2_with fail
  refine (list_calls fv (lines s) _ _ _ hll HS.out).mono ?_
  rintro e w2 ⟨v, rfl, ho, ht⟩
  have HO := Lib.hid (ownsRow_base ho HB.out.size)
  have HT := Lib.hid ht
  clear ho ht
  go_wp2_with fail
  go_ret
  exact ⟨v, rfl, HO.out, HB.out.trans (HT.out.below HB.out.size (fun k _ e => by subst e; exact Nat.le_refl _))⟩
end Go.Proofs.Ythghpmnbnfbheaa.SeqS
