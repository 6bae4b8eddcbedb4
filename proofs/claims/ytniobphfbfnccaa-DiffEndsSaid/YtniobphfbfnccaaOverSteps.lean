/- OverSteps turns nothing but the row handed in. -/
import Derived.Test.YtniobphfbfnccaaSeqLendS4
import Derived.RangeFuncRecord
namespace Go.Proofs.Ytniobphfbfnccaa.SeqS
open Go.RowKit Go.Shelf Go.Proofs.Ytniobphfbfnccaa.SeqM
attribute [local go_sem] Oper.semAt_some
set_option linter.unusedVariables false
theorem infoStep : (Try.prog.info? 40).map (fun i => (i.zero, i.size, i.bytes)) = some (some (.agg #[.int .i64 0, .int .i64 0, .int .i64 0]), 3, 24) := by kernel_rfl
/-- A row of steps. -/
def Row3 (W : World) (g n cap : Nat) (zs : List Value) : Prop := ∃ cur : Array Value, W.heap[g]? = some (.cells cur 40 (0, 0)) ∧ cur.size = cap * 3 ∧ n ≤ cap ∧ cap ≤ maxLen ∧ cur.toList.take (n * 3) = zs
theorem row3_own {W : World} {base g n cap : Nat} {zs : List Value} (h : Row3 W g n cap zs) (hz : zs.length = n * 3) (hb : base ≤ g) : W.ownsRow base 40 3 (.slice (some ⟨g, 0, none⟩) n cap) n zs := by
  obtain ⟨cur, h1, h2, h3, h4, h5⟩ := h
  exact ⟨by omega, .inr ⟨g, cap, cur, rfl, hb, h1, h3, h4, by omega, h5⟩⟩
theorem own_row3 {W : World} {base g n cap : Nat} {zs : List Value} (h : W.ownsRow base 40 3 (.slice (some ⟨g, 0, none⟩) n cap) n zs) : Row3 W g n cap zs := by
  rcases h.2 with ⟨e, _⟩ | ⟨g', cap', cur, e, h1, h2, h3, h4, h5, h6⟩
  · cases e
  · cases e
    exact ⟨cur, h2, by omega, h3, h4, h6⟩
theorem row3_set {W : World} {g n cap : Nat} {ys : List Value} (h : Row3 W g n cap ys) (o : Nat) (v : Value) : ∃ ys', ys'.length = n * 3 ∧ Row3 (W.setCell ⟨g, o, none⟩ v) g n cap ys' := by
  obtain ⟨cur, h1, h2, h3, h4, h5⟩ := h
  exact ⟨_, by simp; omega, _, setCell_block W g o v cur 40 (0, 0) h1, by simpa using h2, h3, h4, rfl⟩
theorem cells_new3 (w : World) (cs : Array Value) (t : TypeId) : ∀ (j : Nat) (u : Value), cs.toList[j]? = some u → (w.alloc (.cells cs t)).cell? ((⟨w.heap.size, 0, none⟩ : Addr).add j) = some u := by
  intro j u hj
  rw [Addr.add_lit]
  have h := World.alloc_heap_new w (.cells cs t)
  simp only [World.cell?, h, Nat.zero_add]
  simpa using hj
set_option maxHeartbeats 2000000 in
set_option maxRecDepth 100000 in
theorem overS_calls (w : World) (g n cap : Nat) (zs : List Value) (hlen : n ≤ 1000000) (hr : Row3 w g n cap zs) :
    Calls Try.prog 22 #[.slice (some ⟨g, 0, none⟩) n cap] w fun e w' => (∃ v, e = .returned v) ∧ TurnM (fun k => k = g) w w' := by
  obtain ⟨i0, hi, hz0, hz1, hz2⟩ := info_parts infoStep
  have HR0 := Lib.hid hr
  clear hr
  go_enter Try.func22, Try.ntmps22
  go_wp2
  go_loopw [2] (fun i wr => ∃ k : Nat, ∃ ys : List Value, k ≤ n ∧ i = .int .i64 k ∧ (ys.length = n * 3 ∧ Row3 wr g n cap ys) ∧ TurnM (fun k => k = g) w wr) (fun i _ => n - (intOf i).toNat)
  case atStart => 
    obtain ⟨cur, h1, h2, h3, h4, h5⟩ := HR0.out
    exact ⟨0, zs, by omega, rfl, ⟨by rw [← h5]; simp; omega, HR0.out⟩, TurnM.refl _ _⟩
  case round =>
    obtain ⟨k, ys, hk, rfl, ⟨hyl, hR⟩, hT⟩ := hrel
    have HR := Lib.hid hR
    have HT := Lib.hid hT
    have HYL := Lib.hid hyl
    clear hR hT hyl
    by_cases hlt : k < n
    · obtain ⟨cur, h1, h2, h3, h4, h5⟩ := HR.out
      have c0 : ∃ v, wr.cell? ⟨g, k * 3, none⟩ = some v := ⟨cur[k * 3]'(by omega), by simp [World.cell?, h1]⟩
      have c1 : ∃ v, wr.cell? ⟨g, k * 3 + 1, none⟩ = some v := ⟨cur[k * 3 + 1]'(by omega), by simp [World.cell?, h1]⟩
      have c2 : ∃ v, wr.cell? ⟨g, k * 3 + 2, none⟩ = some v := ⟨cur[k * 3 + 2]'(by omega), by simp [World.cell?, h1]⟩
      obtain ⟨v0, c0⟩ := c0
      obtain ⟨v1, c1⟩ := c1
      obtain ⟨v2, c2⟩ := c2
      have f0 : wr.frozen? ⟨g, k * 3, none⟩ = false := by simp [World.frozen?, h1]
      have f1 : wr.frozen? ⟨g, k * 3 + 1, none⟩ = false := by simp [World.frozen?, h1]
      have f2 : wr.frozen? ⟨g, k * 3 + 2, none⟩ = false := by simp [World.frozen?, h1]
      have H1 := Lib.hid h1
      have H2 := Lib.hid h2
      have H5 := Lib.hid h5
      clear h1 h2 h5
      go_wp2
      obtain ⟨y1, l1, R1⟩ := row3_set HR.out (k * 3) (.int .i64 (-9))
      obtain ⟨y2, l2, R2⟩ := row3_set R1 (k * 3 + 1) (.int .i64 0)
      obtain ⟨y3, l3, R3⟩ := row3_set R2 (k * 3 + 2) (.int .i64 0)
      exact ⟨⟨k + 1, y3, by omega, by simp, ⟨l3, R3⟩, ((HT.out.trans (TurnM.setCell (M := fun k => k = g) wr (p := ⟨g, k * 3, none⟩) rfl _)).trans (TurnM.setCell (M := fun k => k = g) _ (p := ⟨g, k * 3 + 1, none⟩) rfl _)).trans (TurnM.setCell (M := fun k => k = g) _ (p := ⟨g, k * 3 + 2, none⟩) rfl _)⟩, by simp [intOf]; omega⟩
    · obtain rfl : k = n := by omega
      have hcap : cap ≤ maxLen := by obtain ⟨cur, h1, h2, h3, h4, h5⟩ := HR.out; exact h4
      have hown := Lib.hid (row3_own (base := 0) HR.out HYL.out (Nat.zero_le _))
      clear hcap
      go_wp2_with (at_builtin; refine wpList_append_own _ rfl _ _ 23 rfl 0 40 i0 (.agg #[.int .i64 0, .int .i64 0, .int .i64 0]) 3 24 Try.underlying23 hi hz0 hz1 hz2 rfl (by decide) (.slice (some ⟨g, 0, none⟩) k cap) k ys rfl (hown.out.alloc _) ⟨wr.heap.size, 0, none⟩ 1 1 [.int .i64 (-9), .int .i64 0, .int .i64 0] rfl rfl (cells_new3 wr #[.int .i64 (-9), .int .i64 0, .int .i64 0] _) (by simp [Value.oneCell']) (by unfold maxLen; omega) (by omega) (by omega) ?_; intro v' w1 hown' hgrow _; have HG := Lib.hid hgrow; clear hown' hgrow)
      go_end0
      exact ⟨⟨_, rfl⟩, (HT.out.trans (TurnM.alloc _ _ _)).trans (TurnM.grown HG.out fun k e => by simp [Value.ownBlock] at e; exact e.symm)⟩
set_option maxRecDepth 100000 in
theorem overS_nil (w : World) : Calls Try.prog 22 #[.slice none 0 0] w fun e w' => (∃ v, e = .returned v) ∧ Below w.heap.size w w' := by
  obtain ⟨i0, hi, hz0, hz1, hz2⟩ := info_parts infoStep
  go_enter Try.func22, Try.ntmps22
  go_wp2
  go_loopw [2] (fun i wr => i = .int .i64 0 ∧ wr = w) (fun _ _ => 0)
  case atStart => exact ⟨rfl, rfl⟩
  case round =>
    obtain ⟨rfl, rfl⟩ := hrel
    have hown := World.ownsRow_nil wr wr.heap.size 40 3
    go_wp2_with (at_builtin; refine wpList_append_own _ rfl _ _ 23 rfl wr.heap.size 40 i0 (.agg #[.int .i64 0, .int .i64 0, .int .i64 0]) 3 24 Try.underlying23 hi hz0 hz1 hz2 rfl (by decide) (.slice none 0 0) 0 [] rfl (hown.alloc _) ⟨wr.heap.size, 0, none⟩ 1 1 [.int .i64 (-9), .int .i64 0, .int .i64 0] rfl rfl (cells_new3 wr #[.int .i64 (-9), .int .i64 0, .int .i64 0] _) (by simp [Value.oneCell']) (by unfold maxLen; omega) (by omega) (by simp) ?_; intro v' w1 hown' hgrow _; have HG := Lib.hid hgrow; clear hown' hgrow)
    go_end0
    exact ⟨⟨_, rfl⟩, ((Below.refl _ wr).alloc (Nat.le_refl _) _).grown HG.out (by simp) (fun k e => by simp [Value.ownBlock] at e)⟩
/-- A row of the call's own, written over: nothing else turns. -/
theorem overS_any (w : World) (n₀ : Nat) (v : Value) (n : Nat) (zs : List Value) (hl : n ≤ 1000000) (h : w.ownsRow n₀ 40 3 v n zs) :
    Calls Try.prog 22 #[v] w fun e w' => (∃ v, e = .returned v) ∧ TurnM (fun k => v.ownBlock = some k) w w' := by
  have h' := h
  rcases h.2 with ⟨rfl, rfl⟩ | ⟨g, cap, cur, rfl, hg, _⟩
  · exact (overS_nil w).mono fun e w' ⟨he, hb⟩ => ⟨he, TurnM.of_below hb⟩
  · exact (overS_calls w g _ _ _ hl (own_row3 h')).mono fun e w' ⟨he, ht⟩ => ⟨he, ht.mono (fun k _ e => by simp [Value.ownBlock, e])⟩
theorem overT_any (w : World) (n₀ : Nat) (v : Value) (n : Nat) (zs : List Value) (hl : n ≤ 1000000) (h : w.ownsRow n₀ 9 1 v n zs) :
    Calls Try.prog 23 #[v] w fun e w' => (∃ v, e = .returned v) ∧ TurnM (fun k => v.ownBlock = some k) w w' := by
  have h' := h
  rcases h.2 with ⟨rfl, rfl⟩ | ⟨g, cap, cur, rfl, hg, _⟩
  · exact (over_nil w).mono fun e w' ⟨he, hb⟩ => ⟨he, TurnM.of_below hb⟩
  · exact (over_calls w g _ _ _ hl (own_row h')).mono fun e w' ⟨he, ht⟩ => ⟨he, ht.mono (fun k _ e => by simp [Value.ownBlock, e])⟩
end Go.Proofs.Ytniobphfbfnccaa.SeqS
