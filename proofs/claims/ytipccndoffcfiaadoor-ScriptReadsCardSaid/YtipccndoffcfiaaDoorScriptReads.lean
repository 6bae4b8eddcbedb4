/- ScriptReads' law, as it is called: the document's Parse, then the law. -/
import Derived.Test.YtipccndoffcfiaaDoorScriptRead
import Derived.Test.YtipccndoffcfiaaDoorScriptOver
namespace Go.Proofs.YtipccndoffcfiaaDoor.Script
open Go.RowKit Go.IntWalk Go.Proofs.YtipccndoffcfiaaDoor.PRef Go.Proofs.YtipccndoffcfiaaDoorW.PrintWords Go.Proofs.YtipccndoffcfiaaDoorW.PrintLast Go.Proofs.YtipccndoffcfiaaDoor.Rounds
attribute [local go_sem] Oper.semAt_some
set_option linter.unusedVariables false
set_option linter.unusedSimpArgs false
theorem readL_ends : ∀ (l : List ByteArray) (cs : List Int) (es : List S47) (n : Nat), cs.length = 5 → (∃ cs' es', readL cs es n l = (cs', es', 0, 0) ∧ cs'.length = 5) ∨ ∃ m, n ≤ m ∧ m < n + l.length ∧ readL cs es n l = ([0, 0, 0, 0, 0], [], m, 10)
  | [], cs, es, n, h => .inl ⟨cs, es, rfl, h⟩
  | x :: l, cs, es, n, h => by
    cases hw : wordsP cs es (words x) with
    | none => exact .inr ⟨n, Nat.le_refl _, by simp, readL_bad hw⟩
    | some q =>
      rw [readL_good hw]
      rcases readL_ends l q.1 q.2 (n + 1) (wordsP_cs h hw) with h | ⟨m, h1, h2, h3⟩
      · exact .inl h
      · exact .inr ⟨m, by omega, by rw [List.length_cons]; omega, h3⟩
theorem readL_len : ∀ (l : List ByteArray) (cs : List Int) (es : List S47) (n : Nat), (readL cs es n l).2.1.length ≤ es.length + l.length
  | [], cs, es, n => by rw [readL_nil]; simp
  | x :: l, cs, es, n => by
    cases hw : wordsP cs es (words x) with
    | none => rw [readL_bad hw]; simp
    | some q =>
      rw [readL_good hw]
      have := readL_len l q.1 q.2 (n + 1)
      have h2 := wordsP_len hw
      rw [List.length_cons]
      omega
theorem restL_le : ∀ l : List UInt8, (restL l).length ≤ l.length
  | [] => Nat.le_refl _
  | b :: l => by
    rw [restL]
    split
    · simp
    · have := restL_le l
      rw [List.length_cons]
      omega
theorem oneL_le : ∀ l : List UInt8, (oneL l).length ≤ l.length
  | [] => Nat.le_refl _
  | b :: l => by
    rw [oneL]
    split
    · simp
    · have := oneL_le l
      rw [List.length_cons, List.length_cons]
      omega
theorem linesGo_in : ∀ (k : Nat) (l : List UInt8), (linesGo k l).length ≤ l.length ∧ ∀ x ∈ linesGo k l, x.length ≤ l.length
  | 0, l => ⟨Nat.zero_le _, fun x h => by cases h⟩
  | k + 1, l => by
    rw [linesGo]
    split
    · exact ⟨Nat.zero_le _, fun x h => by cases h⟩
    · rename_i hn
      obtain ⟨h1, h2⟩ := linesGo_in k (restL l)
      have h3 := restL_len l hn
      refine ⟨by rw [List.length_cons]; omega, fun x h => ?_⟩
      rcases List.mem_cons.1 h with rfl | h
      · exact oneL_le l
      · have := h2 x h
        omega
theorem lines_length (s : ByteArray) : (lines s).length ≤ s.size := by
  unfold lines
  rw [List.length_map]
  have := (linesGo_in (s.size + 1) s.data.toList).1
  rwa [size_toList] at this
theorem lines_size (s : ByteArray) : ∀ x ∈ lines s, x.size ≤ s.size := by
  unfold lines
  intro x hx
  obtain ⟨y, hy, rfl⟩ := List.mem_map.1 hx
  have := (linesGo_in (s.size + 1) s.data.toList).2 y hy
  rw [size_toList] at this
  rwa [B_size]
theorem parseP_len (s : ByteArray) : (parseP s).2.1.length ≤ s.size := by
  rw [parseP_lines]
  split
  · simp
  · have := readL_len (lines s) [0, 0, 0, 0, 0] [] 1
    have h2 := lines_length s
    simp at this
    omega
set_option maxHeartbeats 4000000 in
set_option maxRecDepth 100000 in
theorem refparse_results (tmps : Array Value) (w : World) (b : Nat) (a0 a1 a2 a3 a4 : Int) (h2 : tmps.getD 2 undef = .pointer (some ⟨b, 0, none⟩)) (hb : Blk w b 28 [.int .i64 a0, .int .i64 a1, .int .i64 a2, .int .i64 a3, .int .i64 a4]) :
    (results Tryd.f15 tmps).run Tryd.prog w = .ok (.tuple #[.agg #[.int .i64 a0, .int .i64 a1, .int .i64 a2, .int .i64 a3, .int .i64 a4], tmps.getD 3 undef, tmps.getD 4 undef, tmps.getD 5 undef]) w := by
  have hres : Tryd.f15.results = #[.cell 2 28, .tmp 3, .tmp 4, .tmp 5] := rfl
  have k0 := hb.cell 0 (by simp)
  have k1 := hb.cell 1 (by simp)
  have k2 := hb.cell 2 (by simp)
  have k3 := hb.cell 3 (by simp)
  have k4 := hb.cell 4 (by simp)
  simp only [List.getElem_cons_zero, List.getElem_cons_succ] at k0 k1 k2 k3 k4
  have h3 : tmps[2]?.getD undef = .pointer (some ⟨b, 0, none⟩) := by simpa using h2
  simp only [results, hres]
  go_simp
  try rfl
def cfg0 (w : World) : World := w.alloc (.cells #[.int .i64 0, .int .i64 0, .int .i64 0, .int .i64 0, .int .i64 0] 28)
theorem cfg0_blk (w : World) : Blk (cfg0 w) w.heap.size 28 zero5 := ptrs_alloc w 0 28 zero5
theorem blk_five {W : World} {b t : Nat} {a0 a1 a2 a3 a4 : Int} (h : Blk W b t [.int .i64 a0, .int .i64 a1, .int .i64 a2, .int .i64 a3, .int .i64 a4]) : W.cell? ⟨b, 0, none⟩ = some (.int .i64 a0) ∧ W.cell? ⟨b, 1, none⟩ = some (.int .i64 a1) ∧ W.cell? ⟨b, 2, none⟩ = some (.int .i64 a2) ∧ W.cell? ⟨b, 3, none⟩ = some (.int .i64 a3) ∧ W.cell? ⟨b, 4, none⟩ = some (.int .i64 a4) ∧ ∀ j, W.frozen? ⟨b, j, none⟩ = false :=
  ⟨h.cell 0 (by simp), h.cell 1 (by simp), h.cell 2 (by simp), h.cell 3 (by simp), h.cell 4 (by simp), fun j => h.free j⟩
set_option maxHeartbeats 8000000 in
set_option maxRecDepth 100000 in
theorem refparse_calls (s : ByteArray) (w : World) (hs : s.size ≤ 900000) : Calls Tryd.prog 15 #[.string s] w (ParsePost (parseP s) w) := by
  have hpl := parseP_lines s
  by_cases hbig : 131072 < s.size
  · have e1 : decide ((131072 : Int) < (s.size : Int)) = true := decide_eq_true (by omega)
    rw [if_pos hbig] at hpl
    rw [hpl]
    go_enter Tryd.func15, Tryd.ntmps15
    go_wp2_with fail
    refine bodyPost_ret (refparse_results _ _ w.heap.size 0 0 0 0 0 rfl (ptrs_alloc w 0 28 [.int .i64 0, .int .i64 0, .int .i64 0, .int .i64 0, .int .i64 0])) rfl ?_
    exact ⟨.slice none 0 0, rfl, ⟨_, Nat.le_refl _, Kd.R_nil _ _ _ _ _⟩, below_push w _⟩
  · have e1 : decide ((131072 : Int) < (s.size : Int)) = false := decide_eq_false (by omega)
    rw [if_neg hbig] at hpl
    rw [hpl]
    have hls := lines_length s
    have HLZ : Hid (∀ x ∈ lines s, x.size ≤ 900000) := Lib.hid (fun x hx => Nat.le_trans (lines_size s x hx) hs)
    have hlc := reflines_calls s hs
    have hend := readL_ends (lines s) [0, 0, 0, 0, 0] [] 1 rfl
    clear hpl hbig
    generalize lines s = l at hls HLZ hlc hend ⊢
    have HLC := Lib.hid hlc
    clear hlc
    go_enter Tryd.func15, Tryd.ntmps15
    go_wp2_with fail
    refine (HLC.out _).mono ?_
    rintro e w1 ⟨A, c, rfl, htx, hb1⟩
    have hrc := read_calls A c l w1 htx HLZ.out (by omega)
    have HB1 : Hid (Below (w.heap.size + 1) (cfg0 w) w1) := Lib.hid (hb1.mono (by simp))
    clear htx hb1 HLC
    rcases hend with ⟨cs, es, he, hcl⟩ | ⟨m, hm1, hm2, he⟩
    · rw [he] at hrc
      have HEE := Lib.hid he
      obtain ⟨b0, b1, b2, b3, b4, rfl⟩ := five cs hcl
      have HRC := Lib.hid hrc
      clear hrc he hcl
      go_wp2_with fail
      refine HRC.out.mono ?_
      rintro e w2 ⟨esv, at_, h0, _, rfl, ⟨base, hbase, hr⟩, hb2⟩
      obtain rfl := h0 rfl
      have HB2 : Hid (Below (w.heap.size + 1) (cfg0 w) w2) := Lib.hid (HB1.out.trans (hb2.mono (by have := HB1.out.size; simp [cfg0] at this; omega)))
      have hw1 : w.heap.size + 1 ≤ w1.heap.size := by have := HB1.out.size; simp [cfg0] at this; omega
      have HR := Lib.hid hr
      have rB : Blk w2 w.heap.size 28 zero5 := (HB2.out.block _ (by omega)).trans (cfg0_blk w)
      have rB3 := rB.below (below_push w2 (.cells #[.int .i64 b0, .int .i64 b1, .int .i64 b2, .int .i64 b3, .int .i64 b4] 28))
      have cB3 := ptrs_alloc w2 0 28 [.int .i64 b0, .int .i64 b1, .int .i64 b2, .int .i64 b3, .int .i64 b4]
      obtain ⟨r0, r1, r2, r3, r4, rf⟩ := blk_five rB3
      obtain ⟨c0, c1, c2, c3, c4, cf⟩ := blk_five cB3
      have RB := Lib.hid rB3
      clear hr hb2 rB rB3 cB3 h0
      simp only [List.map_cons, List.map_nil]
      go_wp2_with fail
      refine bodyPost_ret (refparse_results _ _ w.heap.size b0 b1 b2 b3 b4 rfl (five_set RB.out b0 b1 b2 b3 b4)) rfl ?_
      rw [HEE.out]
      have hp := below_push w2 (.cells #[.int .i64 b0, .int .i64 b1, .int .i64 b2, .int .i64 b3, .int .i64 b4] 28)
      have hs5 := five_below (w2.alloc (.cells #[.int .i64 b0, .int .i64 b1, .int .i64 b2, .int .i64 b3, .int .i64 b4] 28)) w.heap.size b0 b1 b2 b3 b4
      refine ⟨esv, rfl, ⟨base, by omega, R_kept (Kd.R_below HR.out hp) (fun k hk _ => set5_heap _ w.heap.size b0 b1 b2 b3 b4 k (by omega))⟩, ?_⟩
      have h2 := HB2.out.size
      exact (below_push w _).trans ((HB2.out.mono (by omega)).trans ((hp.mono (by simp [cfg0] at h2; omega)).trans hs5))
    · rw [he] at hrc
      have HEE := Lib.hid he
      have HRC := Lib.hid hrc
      clear hrc he
      go_wp2_with fail
      refine HRC.out.mono ?_
      rintro e w2 ⟨esv, at_, _, h0, rfl, _, hb2⟩
      obtain ⟨h00, h01⟩ := h0 (show ¬ (10 : Int) = 0 by decide)
      simp only at h00
      subst h00
      have HB2 : Hid (Below (w.heap.size + 1) (cfg0 w) w2) := Lib.hid (HB1.out.trans (hb2.mono (by have := HB1.out.size; simp [cfg0] at this; omega)))
      have hw1 : w.heap.size + 1 ≤ w1.heap.size := by have := HB1.out.size; simp [cfg0] at this; omega
      have rB : Blk w2 w.heap.size 28 zero5 := (HB2.out.block _ (by omega)).trans (cfg0_blk w)
      have rB3 := rB.below (below_push w2 (.cells #[.int .i64 0, .int .i64 0, .int .i64 0, .int .i64 0, .int .i64 0] 28))
      obtain ⟨r0, r1, r2, r3, r4, rf⟩ := blk_five rB3
      have RB := Lib.hid rB3
      clear hb2 rB rB3 h0
      simp only [List.map_cons, List.map_nil]
      go_wp2_with fail
      refine bodyPost_ret (refparse_results _ _ w.heap.size 0 0 0 0 0 rfl (five_set RB.out 0 0 0 0 0)) rfl ?_
      rw [HEE.out]
      have hp := below_push w2 (.cells #[.int .i64 0, .int .i64 0, .int .i64 0, .int .i64 0, .int .i64 0] 28)
      have hs5 := five_below (w2.alloc (.cells #[.int .i64 0, .int .i64 0, .int .i64 0, .int .i64 0, .int .i64 0] 28)) w.heap.size 0 0 0 0 0
      have h2 := HB2.out.size
      exact ⟨.slice none 0 0, rfl, ⟨_, Nat.le_refl _, Kd.R_nil _ _ _ _ _⟩, (below_push w _).trans ((HB2.out.mono (by omega)).trans ((hp.mono (by simp [cfg0] at h2; omega)).trans hs5))⟩
end Go.Proofs.YtipccndoffcfiaaDoor.Script
