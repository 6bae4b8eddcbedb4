/- OverEvents turns nothing but the row handed in. -/
import Derived.Test.YtipccndoffcfiaaDoorScriptD
import Derived.Deep.AppendLies
import Derived.Test.YtipccndoffcfiaaDoorScriptRead
section
namespace Go.Proofs.YtipccndoffcfiaaDoor.Script
open Go.RowKit Go.Proofs.YtipccndoffcfiaaDoor.PRef Go.Proofs.YtipccndoffcfiaaDoorW.PrintWords Go.Proofs.YtipccndoffcfiaaDoorW.PrintLast
attribute [local go_sem] Oper.semAt_some
set_option linter.unusedVariables false
set_option linter.unusedSimpArgs false
theorem Turn.alloc (b : Nat) (w : World) (o : Obj) : Turn b w (w.alloc o) := ⟨rfl, rfl, rfl, by simp, fun k hk _ => Below.heap_alloc w o k hk⟩
theorem Turn.grown {b : Nat} {w w' : World} {row : Option Nat} (h : w.grownBy w' row) (hr : ∀ k, row = some k → k = b) : Turn b w w' := ⟨h.os, h.tape, h.output, h.size, fun k hk hn => h.block k hk (fun e => hn (hr k e.symm))⟩
/-- A row of events. -/
def RowE (W : World) (g n cap : Nat) (zs : List Value) : Prop := ∃ cur : Array Value, W.heap[g]? = some (.cells cur 47 (0, 0)) ∧ cur.size = cap * 3 ∧ n ≤ cap ∧ cap ≤ maxLen ∧ cur.toList.take (n * 3) = zs
theorem rowE_own {W : World} {base g n cap : Nat} {zs : List Value} (h : RowE W g n cap zs) (hz : zs.length = n * 3) (hb : base ≤ g) : W.ownsRow base 47 3 (.slice (some ⟨g, 0, none⟩) n cap) n zs := by
  obtain ⟨cur, h1, h2, h3, h4, h5⟩ := h
  exact ⟨by omega, .inr ⟨g, cap, cur, rfl, hb, h1, h3, h4, by omega, h5⟩⟩
theorem own_rowE {W : World} {base g n cap : Nat} {zs : List Value} (h : W.ownsRow base 47 3 (.slice (some ⟨g, 0, none⟩) n cap) n zs) : RowE W g n cap zs := by
  rcases h.2 with ⟨e, _⟩ | ⟨g', cap', cur, e, h1, h2, h3, h4, h5, h6⟩
  · cases e
  · cases e
    exact ⟨cur, h2, by omega, h3, h4, h6⟩
theorem set_block (W : World) (b o : Nat) (v : Value) (cur : Array Value) (t : TypeId) (fr : Nat × Nat) (h : W.heap[b]? = some (.cells cur t fr)) : (W.setCell ⟨b, o, none⟩ v).heap[b]? = some (.cells (cur.setIfInBounds o v) t fr) := by
  have hlt := (Array.getElem?_eq_some_iff.1 h).1
  have h' : W.heap[b] = .cells cur t fr := by simpa [Array.getElem?_eq_getElem hlt] using h
  show (W.heap.modify b _)[b]? = _
  rw [Array.getElem?_eq_getElem (by simpa using hlt), Array.getElem_modify_self, h']
  rfl
theorem rowE_set {W : World} {g n cap : Nat} {ys : List Value} (h : RowE W g n cap ys) (o : Nat) (v : Value) : ∃ ys', ys'.length = n * 3 ∧ RowE (W.setCell ⟨g, o, none⟩ v) g n cap ys' := by
  obtain ⟨cur, h1, h2, h3, h4, h5⟩ := h
  exact ⟨_, by simp; omega, _, set_block W g o v cur 47 (0, 0) h1, by simpa using h2, h3, h4, rfl⟩
theorem cells_newE (w : World) (cs : Array Value) (t : TypeId) : ∀ (j : Nat) (u : Value), cs.toList[j]? = some u → (w.alloc (.cells cs t)).cell? ((⟨w.heap.size, 0, none⟩ : Addr).add j) = some u := by
  intro j u hj
  rw [Addr.add_lit]
  obtain ⟨hj1, hj2⟩ := List.getElem?_eq_some_iff.1 hj
  have h := (ptrs_alloc w 0 t cs.toList).cell j hj1
  rw [Array.toArray_toList, hj2] at h
  rw [Nat.zero_add]
  exact h
set_option maxHeartbeats 2000000 in
set_option maxRecDepth 100000 in
theorem overE_calls (w : World) (g n cap : Nat) (zs : List Value) (hlen : n ≤ 1000000) (hr : RowE w g n cap zs) :
    Calls Tryd.prog 18 #[.slice (some ⟨g, 0, none⟩) n cap] w fun e w' => (∃ v, e = .returned v) ∧ Turn g w w' := by
  obtain ⟨i0, hi, hz0, hz1, hz2⟩ := info_parts infoEv
  have HR0 := Lib.hid hr
  clear hr
  go_enter Tryd.func18, Tryd.ntmps18
  go_wp2_with fail
  go_loopw [2] (fun i wr => ∃ k : Nat, ∃ ys : List Value, k ≤ n ∧ i = .int .i64 k ∧ (ys.length = n * 3 ∧ RowE wr g n cap ys) ∧ Turn g w wr) (fun i _ => n - (intOf i).toNat)
  case atStart =>
    obtain ⟨cur, h1, h2, h3, h4, h5⟩ := HR0.out
    exact ⟨0, zs, by omega, rfl, ⟨by rw [← h5]; simp; omega, HR0.out⟩, Turn.refl _ _⟩
  case round =>
    obtain ⟨k, ys, hk, rfl, ⟨hyl, hR⟩, hT⟩ := hrel
    have HR := Lib.hid hR
    have HT := Lib.hid hT
    have HYL := Lib.hid hyl
    clear hR hT hyl
    by_cases hlt : k < n
    · obtain ⟨cur, h1, h2, h3, h4, h5⟩ := HR.out
      have c0 : ∃ v, wr.cell? ⟨g, k * 3, none⟩ = some v := ⟨cur[k * 3]'(by omega), by simp [World.cell?, h1]⟩
      have c1 : ∃ v, wr.cell? ⟨g, k * 3 + 1, none⟩ = some v := ⟨cur[k * 3 + 1]'(by omega), by simp [World.cell?, h1]⟩
      have c2 : ∃ v, wr.cell? ⟨g, k * 3 + 2, none⟩ = some v := ⟨cur[k * 3 + 2]'(by omega), by simp [World.cell?, h1]⟩
      obtain ⟨v0, c0⟩ := c0
      obtain ⟨v1, c1⟩ := c1
      obtain ⟨v2, c2⟩ := c2
      have f0 : wr.frozen? ⟨g, k * 3, none⟩ = false := by simp [World.frozen?, h1]
      have f1 : wr.frozen? ⟨g, k * 3 + 1, none⟩ = false := by simp [World.frozen?, h1]
      have f2 : wr.frozen? ⟨g, k * 3 + 2, none⟩ = false := by simp [World.frozen?, h1]
      have H1 := Lib.hid h1
      have H2 := Lib.hid h2
      have H5 := Lib.hid h5
      clear h1 h2 h5
      go_wp2
      obtain ⟨y1, l1, R1⟩ := rowE_set HR.out (k * 3) (.int .i64 (-9))
      obtain ⟨y2, l2, R2⟩ := rowE_set R1 (k * 3 + 1) (.int .i64 0)
      obtain ⟨y3, l3, R3⟩ := rowE_set R2 (k * 3 + 2) (.string ⟨#[]⟩)
      exact ⟨⟨k + 1, y3, by omega, by simp, ⟨l3, R3⟩, ((HT.out.trans (Turn.set (p := ⟨g, k * 3, none⟩) wr rfl _)).trans (Turn.set (p := ⟨g, k * 3 + 1, none⟩) _ rfl _)).trans (Turn.set (p := ⟨g, k * 3 + 2, none⟩) _ rfl _)⟩, by simp [intOf]; omega⟩
    · obtain rfl : k = n := by omega
      have hown := Lib.hid (rowE_own (base := 0) HR.out HYL.out (Nat.zero_le _))
      go_wp2_with (at_builtin; refine wpList_append_own _ rfl _ _ 29 rfl 0 47 i0 (.agg #[.int .i64 0, .int .i64 0, .string ⟨#[]⟩]) 3 32 Tryd.underlying29 hi hz0 hz1 hz2 rfl (by decide) (.slice (some ⟨g, 0, none⟩) k cap) k ys rfl (hown.out.alloc _) ⟨wr.heap.size, 0, none⟩ 1 1 [.int .i64 (-9), .int .i64 0, .string ⟨#[]⟩] rfl rfl (cells_newE wr #[.int .i64 (-9), .int .i64 0, .string ⟨#[]⟩] _) (by simp [Value.oneCell']) (by unfold maxLen; omega) (by omega) (by omega) ?_; intro v' w1 hown' hgrow _; have HG := Lib.hid hgrow; clear hown' hgrow)
      go_end0
      exact ⟨⟨_, rfl⟩, (HT.out.trans (Turn.alloc _ _ _)).trans (Turn.grown HG.out fun k e => by simp [Value.ownBlock] at e; exact e.symm)⟩
set_option maxRecDepth 100000 in
theorem overE_nil (w : World) : Calls Tryd.prog 18 #[.slice none 0 0] w fun e w' => (∃ v, e = .returned v) ∧ Below w.heap.size w w' := by
  obtain ⟨i0, hi, hz0, hz1, hz2⟩ := info_parts infoEv
  go_enter Tryd.func18, Tryd.ntmps18
  go_wp2_with fail
  go_loopw [2] (fun i wr => i = .int .i64 0 ∧ wr = w) (fun _ _ => 0)
  case atStart => exact ⟨rfl, rfl⟩
  case round =>
    obtain ⟨rfl, rfl⟩ := hrel
    have hown := World.ownsRow_nil wr wr.heap.size 47 3
    go_wp2_with (at_builtin; refine wpList_append_own _ rfl _ _ 29 rfl wr.heap.size 47 i0 (.agg #[.int .i64 0, .int .i64 0, .string ⟨#[]⟩]) 3 32 Tryd.underlying29 hi hz0 hz1 hz2 rfl (by decide) (.slice none 0 0) 0 [] rfl (hown.alloc _) ⟨wr.heap.size, 0, none⟩ 1 1 [.int .i64 (-9), .int .i64 0, .string ⟨#[]⟩] rfl rfl (cells_newE wr #[.int .i64 (-9), .int .i64 0, .string ⟨#[]⟩] _) (by simp [Value.oneCell']) (by unfold maxLen; omega) (by omega) (by simp) ?_; intro v' w1 hown' hgrow _; have HG := Lib.hid hgrow; clear hown' hgrow)
    go_end0
    exact ⟨⟨_, rfl⟩, ((Below.refl _ wr).alloc (Nat.le_refl _) _).grown HG.out (by simp) (fun k e => by simp [Value.ownBlock] at e)⟩
/-- A row of the call's own, written over: nothing else turns. -/
theorem overE_any (w : World) (base : Nat) (v : Value) (es : List S47) (hl : es.length ≤ 1000000) (h : Kd.R k47 47 w base (fun _ => True) v es) :
    Calls Tryd.prog 18 #[v] w fun e w' => (∃ v, e = .returned v) ∧ ∃ g, (∀ k, v.ownBlock = some k → k = g) ∧ (v.ownBlock = none → g = w.heap.size) ∧ Turn g w w' := by
  obtain ⟨inner, ho⟩ := Kd.R_own h
  have ho' := ho
  rcases ho.2 with ⟨rfl, _⟩ | ⟨g, cap, cur, rfl, hg, _⟩
  · exact (overE_nil w).mono fun e w' ⟨he, hb⟩ => ⟨he, w.heap.size, fun k e => by simp [Value.ownBlock] at e, fun _ => rfl, Turn.of_below hb⟩
  · exact (overE_calls w g _ _ _ hl (own_rowE ho')).mono fun e w' ⟨he, ht⟩ => ⟨he, g, fun k e => by simp [Value.ownBlock] at e; exact e.symm, fun e => by simp [Value.ownBlock] at e, ht⟩
end Go.Proofs.YtipccndoffcfiaaDoor.Script
end

section
namespace Go.Proofs.YtipccndoffcfiaaDoor.Script
open Go.RowKit Go.IntWalk Go.Proofs.YtipccndoffcfiaaDoor.PRef Go.Proofs.YtipccndoffcfiaaDoorW.PrintWords Go.Proofs.YtipccndoffcfiaaDoorW.PrintLast Go.Proofs.YtipccndoffcfiaaDoor.Rounds
attribute [local go_sem] Oper.semAt_some
set_option linter.unusedVariables false
set_option linter.unusedSimpArgs false
theorem readL_ends : ∀ (l : List ByteArray) (cs : List Int) (es : List S47) (n : Nat), cs.length = 5 → (∃ cs' es', readL cs es n l = (cs', es', 0, 0) ∧ cs'.length = 5) ∨ ∃ m, n ≤ m ∧ m < n + l.length ∧ readL cs es n l = ([0, 0, 0, 0, 0], [], m, 10)
  | [], cs, es, n, h => .inl ⟨cs, es, rfl, h⟩
  | x :: l, cs, es, n, h => by
    cases hw : wordsP cs es (words x) with
    | none => exact .inr ⟨n, Nat.le_refl _, by simp, readL_bad hw⟩
    | some q =>
      rw [readL_good hw]
      rcases readL_ends l q.1 q.2 (n + 1) (wordsP_cs h hw) with h | ⟨m, h1, h2, h3⟩
      · exact .inl h
      · exact .inr ⟨m, by omega, by rw [List.length_cons]; omega, h3⟩
theorem readL_len : ∀ (l : List ByteArray) (cs : List Int) (es : List S47) (n : Nat), (readL cs es n l).2.1.length ≤ es.length + l.length
  | [], cs, es, n => by rw [readL_nil]; simp
  | x :: l, cs, es, n => by
    cases hw : wordsP cs es (words x) with
    | none => rw [readL_bad hw]; simp
    | some q =>
      rw [readL_good hw]
      have := readL_len l q.1 q.2 (n + 1)
      have h2 := wordsP_len hw
      rw [List.length_cons]
      omega
theorem restL_le : ∀ l : List UInt8, (restL l).length ≤ l.length
  | [] => Nat.le_refl _
  | b :: l => by
    rw [restL]
    split
    · simp
    · have := restL_le l
      rw [List.length_cons]
      omega
theorem oneL_le : ∀ l : List UInt8, (oneL l).length ≤ l.length
  | [] => Nat.le_refl _
  | b :: l => by
    rw [oneL]
    split
    · simp
    · have := oneL_le l
      rw [List.length_cons, List.length_cons]
      omega
theorem linesGo_in : ∀ (k : Nat) (l : List UInt8), (linesGo k l).length ≤ l.length ∧ ∀ x ∈ linesGo k l, x.length ≤ l.length
  | 0, l => ⟨Nat.zero_le _, fun x h => by cases h⟩
  | k + 1, l => by
    rw [linesGo]
    split
    · exact ⟨Nat.zero_le _, fun x h => by cases h⟩
    · rename_i hn
      obtain ⟨h1, h2⟩ := linesGo_in k (restL l)
      have h3 := restL_len l hn
      refine ⟨by rw [List.length_cons]; omega, fun x h => ?_⟩
      rcases List.mem_cons.1 h with rfl | h
      · exact oneL_le l
      · have := h2 x h
        omega
theorem lines_length (s : ByteArray) : (lines s).length ≤ s.size := by
  unfold lines
  rw [List.length_map]
  have := (linesGo_in (s.size + 1) s.data.toList).1
  rwa [size_toList] at this
theorem lines_size (s : ByteArray) : ∀ x ∈ lines s, x.size ≤ s.size := by
  unfold lines
  intro x hx
  obtain ⟨y, hy, rfl⟩ := List.mem_map.1 hx
  have := (linesGo_in (s.size + 1) s.data.toList).2 y hy
  rw [size_toList] at this
  rwa [B_size]
theorem parseP_len (s : ByteArray) : (parseP s).2.1.length ≤ s.size := by
  rw [parseP_lines]
  split
  · simp
  · have := readL_len (lines s) [0, 0, 0, 0, 0] [] 1
    have h2 := lines_length s
    simp at this
    omega
set_option maxHeartbeats 4000000 in
set_option maxRecDepth 100000 in
theorem refparse_results (tmps : Array Value) (w : World) (b : Nat) (a0 a1 a2 a3 a4 : Int) (h2 : tmps.getD 2 undef = .pointer (some ⟨b, 0, none⟩)) (hb : Blk w b 28 [.int .i64 a0, .int .i64 a1, .int .i64 a2, .int .i64 a3, .int .i64 a4]) :
    (results Tryd.f15 tmps).run Tryd.prog w = .ok (.tuple #[.agg #[.int .i64 a0, .int .i64 a1, .int .i64 a2, .int .i64 a3, .int .i64 a4], tmps.getD 3 undef, tmps.getD 4 undef, tmps.getD 5 undef]) w := by
  have hres : Tryd.f15.results = #[.cell 2 28, .tmp 3, .tmp 4, .tmp 5] := rfl
  have k0 := hb.cell 0 (by simp)
  have k1 := hb.cell 1 (by simp)
  have k2 := hb.cell 2 (by simp)
  have k3 := hb.cell 3 (by simp)
  have k4 := hb.cell 4 (by simp)
  simp only [List.getElem_cons_zero, List.getElem_cons_succ] at k0 k1 k2 k3 k4
  have h3 : tmps[2]?.getD undef = .pointer (some ⟨b, 0, none⟩) := by simpa using h2
  simp only [results, hres]
  go_simp
  try rfl
def cfg0 (w : World) : World := w.alloc (.cells #[.int .i64 0, .int .i64 0, .int .i64 0, .int .i64 0, .int .i64 0] 28)
theorem cfg0_blk (w : World) : Blk (cfg0 w) w.heap.size 28 zero5 := ptrs_alloc w 0 28 zero5
theorem blk_five {W : World} {b t : Nat} {a0 a1 a2 a3 a4 : Int} (h : Blk W b t [.int .i64 a0, .int .i64 a1, .int .i64 a2, .int .i64 a3, .int .i64 a4]) : W.cell? ⟨b, 0, none⟩ = some (.int .i64 a0) ∧ W.cell? ⟨b, 1, none⟩ = some (.int .i64 a1) ∧ W.cell? ⟨b, 2, none⟩ = some (.int .i64 a2) ∧ W.cell? ⟨b, 3, none⟩ = some (.int .i64 a3) ∧ W.cell? ⟨b, 4, none⟩ = some (.int .i64 a4) ∧ ∀ j, W.frozen? ⟨b, j, none⟩ = false :=
  ⟨h.cell 0 (by simp), h.cell 1 (by simp), h.cell 2 (by simp), h.cell 3 (by simp), h.cell 4 (by simp), fun j => h.free j⟩
set_option maxHeartbeats 8000000 in
set_option maxRecDepth 100000 in
theorem refparse_calls (s : ByteArray) (w : World) (hs : s.size ≤ 900000) : Calls Tryd.prog 15 #[.string s] w (ParsePost (parseP s) w) := by
  have hpl := parseP_lines s
  by_cases hbig : 131072 < s.size
  · have e1 : decide ((131072 : Int) < (s.size : Int)) = true := decide_eq_true (by omega)
    rw [if_pos hbig] at hpl
    rw [hpl]
    go_enter Tryd.func15, Tryd.ntmps15
    go_wp2_with fail
    refine bodyPost_ret (refparse_results _ _ w.heap.size 0 0 0 0 0 rfl (ptrs_alloc w 0 28 [.int .i64 0, .int .i64 0, .int .i64 0, .int .i64 0, .int .i64 0])) rfl ?_
    exact ⟨.slice none 0 0, rfl, ⟨_, Nat.le_refl _, Kd.R_nil _ _ _ _ _⟩, below_push w _⟩
  · have e1 : decide ((131072 : Int) < (s.size : Int)) = false := decide_eq_false (by omega)
    rw [if_neg hbig] at hpl
    rw [hpl]
    have hls := lines_length s
    have HLZ : Hid (∀ x ∈ lines s, x.size ≤ 900000) := Lib.hid (fun x hx => Nat.le_trans (lines_size s x hx) hs)
    have hlc := reflines_calls s hs
    have hend := readL_ends (lines s) [0, 0, 0, 0, 0] [] 1 rfl
    clear hpl hbig
    generalize lines s = l at hls HLZ hlc hend ⊢
    have HLC := Lib.hid hlc
    clear hlc
    go_enter Tryd.func15, Tryd.ntmps15
    go_wp2_with fail
    refine (HLC.out _).mono ?_
    rintro e w1 ⟨A, c, rfl, htx, hb1⟩
    have hrc := read_calls A c l w1 htx HLZ.out (by omega)
    have HB1 : Hid (Below (w.heap.size + 1) (cfg0 w) w1) := Lib.hid (hb1.mono (by simp))
    clear htx hb1 HLC
    rcases hend with ⟨cs, es, he, hcl⟩ | ⟨m, hm1, hm2, he⟩
    · rw [he] at hrc
      have HEE := Lib.hid he
      obtain ⟨b0, b1, b2, b3, b4, rfl⟩ := five cs hcl
      have HRC := Lib.hid hrc
      clear hrc he hcl
      go_wp2_with fail
      refine HRC.out.mono ?_
      rintro e w2 ⟨esv, at_, h0, _, rfl, ⟨base, hbase, hr⟩, hb2⟩
      obtain rfl := h0 rfl
      have HB2 : Hid (Below (w.heap.size + 1) (cfg0 w) w2) := Lib.hid (HB1.out.trans (hb2.mono (by have := HB1.out.size; simp [cfg0] at this; omega)))
      have hw1 : w.heap.size + 1 ≤ w1.heap.size := by have := HB1.out.size; simp [cfg0] at this; omega
      have HR := Lib.hid hr
      have rB : Blk w2 w.heap.size 28 zero5 := (HB2.out.block _ (by omega)).trans (cfg0_blk w)
      have rB3 := rB.below (below_push w2 (.cells #[.int .i64 b0, .int .i64 b1, .int .i64 b2, .int .i64 b3, .int .i64 b4] 28))
      have cB3 := ptrs_alloc w2 0 28 [.int .i64 b0, .int .i64 b1, .int .i64 b2, .int .i64 b3, .int .i64 b4]
      obtain ⟨r0, r1, r2, r3, r4, rf⟩ := blk_five rB3
      obtain ⟨c0, c1, c2, c3, c4, cf⟩ := blk_five cB3
      have RB := Lib.hid rB3
      clear hr hb2 rB rB3 cB3 h0
      simp only [List.map_cons, List.map_nil]
      go_wp2_with fail
      refine bodyPost_ret (refparse_results _ _ w.heap.size b0 b1 b2 b3 b4 rfl (five_set RB.out b0 b1 b2 b3 b4)) rfl ?_
      rw [HEE.out]
      have hp := below_push w2 (.cells #[.int .i64 b0, .int .i64 b1, .int .i64 b2, .int .i64 b3, .int .i64 b4] 28)
      have hs5 := five_below (w2.alloc (.cells #[.int .i64 b0, .int .i64 b1, .int .i64 b2, .int .i64 b3, .int .i64 b4] 28)) w.heap.size b0 b1 b2 b3 b4
      refine ⟨esv, rfl, ⟨base, by omega, R_kept (Kd.R_below HR.out hp) (fun k hk _ => set5_heap _ w.heap.size b0 b1 b2 b3 b4 k (by omega))⟩, ?_⟩
      have h2 := HB2.out.size
      exact (below_push w _).trans ((HB2.out.mono (by omega)).trans ((hp.mono (by simp [cfg0] at h2; omega)).trans hs5))
    · rw [he] at hrc
      have HEE := Lib.hid he
      have HRC := Lib.hid hrc
      clear hrc he
      go_wp2_with fail
      refine HRC.out.mono ?_
      rintro e w2 ⟨esv, at_, _, h0, rfl, _, hb2⟩
      obtain ⟨h00, h01⟩ := h0 (show ¬ (10 : Int) = 0 by decide)
      simp only at h00
      subst h00
      have HB2 : Hid (Below (w.heap.size + 1) (cfg0 w) w2) := Lib.hid (HB1.out.trans (hb2.mono (by have := HB1.out.size; simp [cfg0] at this; omega)))
      have hw1 : w.heap.size + 1 ≤ w1.heap.size := by have := HB1.out.size; simp [cfg0] at this; omega
      have rB : Blk w2 w.heap.size 28 zero5 := (HB2.out.block _ (by omega)).trans (cfg0_blk w)
      have rB3 := rB.below (below_push w2 (.cells #[.int .i64 0, .int .i64 0, .int .i64 0, .int .i64 0, .int .i64 0] 28))
      obtain ⟨r0, r1, r2, r3, r4, rf⟩ := blk_five rB3
      have RB := Lib.hid rB3
      clear hb2 rB rB3 h0
      simp only [List.map_cons, List.map_nil]
      go_wp2_with fail
      refine bodyPost_ret (refparse_results _ _ w.heap.size 0 0 0 0 0 rfl (five_set RB.out 0 0 0 0 0)) rfl ?_
      rw [HEE.out]
      have hp := below_push w2 (.cells #[.int .i64 0, .int .i64 0, .int .i64 0, .int .i64 0, .int .i64 0] 28)
      have hs5 := five_below (w2.alloc (.cells #[.int .i64 0, .int .i64 0, .int .i64 0, .int .i64 0, .int .i64 0] 28)) w.heap.size 0 0 0 0 0
      have h2 := HB2.out.size
      exact ⟨.slice none 0 0, rfl, ⟨_, Nat.le_refl _, Kd.R_nil _ _ _ _ _⟩, (below_push w _).trans ((HB2.out.mono (by omega)).trans ((hp.mono (by simp [cfg0] at h2; omega)).trans hs5))⟩
end Go.Proofs.YtipccndoffcfiaaDoor.Script
end

section
namespace Go.Proofs.YtipccndoffcfiaaDoor.Script
open Go.RowKit Go.IntWalk Go.Proofs.YtipccndoffcfiaaDoor.PRef Go.Proofs.YtipccndoffcfiaaDoorW.PrintWords Go.Proofs.YtipccndoffcfiaaDoorW.PrintLast Go.Proofs.YtipccndoffcfiaaDoor.Rounds
attribute [local go_sem] Oper.semAt_some
set_option linter.unusedVariables false
set_option linter.unusedSimpArgs false
theorem same_self (es : List S47) (h : es.length ≤ 1000000) : ∃ k, cortegelaw0_SameEvents.f k es es = some true := by
  have loop : ∀ (d i : Nat), i + d = es.length → cortegelaw0_SameEvents.l0 (d + 1) es es (i : Int) = some true := by
    intro d
    induction d with
    | zero => intro i hi; rw [cortegelaw0_SameEvents.l0, if_neg (by omega)]
    | succ d ih =>
      intro i hi
      rw [cortegelaw0_SameEvents.l0, if_pos (by omega), if_pos (by omega), if_pos (by omega), if_neg (by simp), w1 (by omega)]
      exact ih (i + 1) (by omega)
  refine ⟨es.length + 1, ?_⟩
  unfold cortegelaw0_SameEvents.f
  rw [if_pos rfl]
  exact loop es.length 0 (by omega)
theorem num_calls (x : Int) (w : World) : Calls Tryd.prog 17 #[.int .i64 x] w fun e w' => e = .returned (.int .i64 x) ∧ Below w.heap.size w w' := by
  go_enter Tryd.func17, Tryd.ntmps17
  go_wp2_with fail
  go_ret
  exact ⟨by first | rfl | simp, by first | exact Below.refl _ _ | exact drewB _⟩
/-- A row written over: what else there is stays. -/
theorem over_row (w : World) (n base : Nat) (v : Value) (es : List S47) (hl : es.length ≤ 1000000) (hn : n ≤ base) (hb : n ≤ w.heap.size) (h : Kd.R k47 47 w base (fun _ => True) v es) :
    Calls Tryd.prog 18 #[v] w fun e w' => (∃ v, e = .returned v) ∧ Below n w w' ∧ ∀ k, k < w.heap.size → v.ownBlock ≠ some k → w'.heap[k]? = w.heap[k]? := by
  obtain ⟨inner, ho⟩ := Kd.R_own h
  have ho' := ho
  rcases ho.2 with ⟨rfl, _⟩ | ⟨g, cap, cur, rfl, hg, _⟩
  · exact (overE_nil w).mono fun e w' ⟨he, hb2⟩ => ⟨he, hb2.mono hb, fun k hk _ => hb2.block k hk⟩
  · exact (overE_calls w g _ _ _ hl (own_rowE ho')).mono fun e w' ⟨he, ht⟩ => ⟨he, ht.below (by omega) hb, fun k hk hn => ht.block k hk (fun e => hn (by simp [Value.ownBlock, e]))⟩
/-- What both Parses answer. -/
def ParseGot (a0 a1 a2 a3 a4 : Int) (es : List S47) (n : Nat) (r : Int) (w : World) (e : Ending) (w' : World) : Prop :=
  ∃ (A : Option Addr) (c : Nat), e = .returned (.tuple #[.agg #[.int .i64 a0, .int .i64 a1, .int .i64 a2, .int .i64 a3, .int .i64 a4], .slice A es.length c, .int .i64 (n : Int), .int .i64 r]) ∧ (∃ base, w.heap.size ≤ base ∧ Kd.R k47 47 w' base (fun _ => True) (.slice A es.length c) es) ∧ Below w.heap.size w w'
theorem got_of {a0 a1 a2 a3 a4 : Int} {es : List S47} {n : Nat} {r : Int} {w : World} {e : Ending} {w' : World} (h : ParsePost ([a0, a1, a2, a3, a4], es, n, r) w e w') : ParseGot a0 a1 a2 a3 a4 es n r w e w' := by
  obtain ⟨esv, rfl, ⟨base, h1, h2⟩, h3⟩ := h
  obtain ⟨A, c, rfl⟩ := Kd.R_slice h2
  exact ⟨A, c, rfl, ⟨base, h1, h2⟩, h3⟩
theorem row_reads {W : World} {base : Nat} {A : Option Addr} {c : Nat} {es : List S47} (h : Kd.R k47 47 W base (fun _ => True) (.slice A es.length c) es) : Kd.C k47 W A es.length es ∧ es.length ≤ c := by
  have h2 := Kd.R_reads' h
  exact ⟨h2.2.2, h2.2.1⟩
theorem drawn0_below {w w' : World} (h : Drawn0 w w') : Below w.heap.size w w' := by
  obtain ⟨n, rfl⟩ := h
  exact ⟨rfl, rfl, rfl, Nat.le_refl _, fun _ _ => rfl⟩
set_option maxHeartbeats 8000000 in
set_option maxRecDepth 100000 in
theorem reads_law (s : ByteArray) (w : World) (he : Env w) : Calls Tryd.prog 4 #[.string s] w fun e w' => e = .returned (.bool true) ∧ Below w.heap.size w w' := by
  by_cases h1 : (132000 : Int) < (s.size : Int)
  · have d1 : decide ((132000 : Int) < (s.size : Int)) = true := decide_eq_true h1
    go_enter Tryd.func4, Tryd.ntmps4
    go_wp2_with fail
    refine (awake_calls _ he).mono ?_
    rintro e w1 ⟨rfl, hb⟩
    go_wp2_with fail
    go_ret
    exact ⟨rfl, hb⟩
  · have d1 : decide ((132000 : Int) < (s.size : Int)) = false := decide_eq_false h1
    have hs1 : s.size ≤ 132000 := by omega
    have P1 := fun w he => parse_calls s w (by omega) he
    have P2 := fun w => refparse_calls s w (by omega)
    have hcs := parseP_cs s
    have hln := parseP_len s
    rcases hP : parseP s with ⟨cs, es, n, r⟩
    rw [hP] at P1 P2 hcs hln
    obtain ⟨a0, a1, a2, a3, a4, rfl⟩ := five cs hcs
    have HP1 : Hid (∀ w, Env w → Calls Tryd.prog 14 #[.string s] w (ParseGot a0 a1 a2 a3 a4 es n r w)) := Lib.hid (fun w he => (P1 w he).mono fun _ _ h => got_of h)
    have HP2 : Hid (∀ w, Calls Tryd.prog 15 #[.string s] w (ParseGot a0 a1 a2 a3 a4 es n r w)) := Lib.hid (fun w => (P2 w).mono fun _ _ h => got_of h)
    simp only at hln
    obtain ⟨ks, hks⟩ := same_self es (by omega)
    have HKS := Lib.hid hks
    clear P1 P2 hcs hP hks
    have hl9 : es.length ≤ 1000000 := by omega
    have HE := Lib.hid he
    go_enter Tryd.func4, Tryd.ntmps4
    go_wp2_with fail
    refine (HP1.out w he).mono ?_
    rintro e w1 ⟨A1, c1, rfl, ⟨b1, hb1, hr1⟩, hw1⟩
    have HE1 := Lib.hid (he.below hw1)
    have HR1 := Lib.hid hr1
    have HW1 := Lib.hid hw1
    clear hr1 hw1 he
    go_wp2_with fail
    refine (HP2.out _).mono ?_
    rintro e w2 ⟨A2, c2, rfl, ⟨b2, hb2, hr2⟩, hw2⟩
    have HR2 := Lib.hid hr2
    have HW2 := Lib.hid hw2
    clear hr2 hw2
    have q1 := below_push w1 (.cells #[.int .i64 a0, .int .i64 a1, .int .i64 a2, .int .i64 a3, .int .i64 a4] 28)
    have q2 := below_push w2 (.cells #[.int .i64 a0, .int .i64 a1, .int .i64 a2, .int .i64 a3, .int .i64 a4] 28)
    have HB2 : Hid (Below w1.heap.size w1 (w2.alloc (.cells #[.int .i64 a0, .int .i64 a1, .int .i64 a2, .int .i64 a3, .int .i64 a4] 28))) := Lib.hid (then_below (then_below q1 HW2.out) q2)
    have cB := ((ptrs_alloc w1 0 28 [.int .i64 a0, .int .i64 a1, .int .i64 a2, .int .i64 a3, .int .i64 a4]).below HW2.out).below q2
    have dB := ptrs_alloc w2 0 28 [.int .i64 a0, .int .i64 a1, .int .i64 a2, .int .i64 a3, .int .i64 a4]
    obtain ⟨x0, x1, x2, x3, x4, xf⟩ := blk_five cB
    obtain ⟨y0, y1, y2, y3, y4, yf⟩ := blk_five dB
    have HR1' := Lib.hid (Kd.R_below HR1.out HB2.out)
    have HR2' := Lib.hid (Kd.R_below HR2.out q2)
    have hsz2 : w1.heap.size + 1 ≤ w2.heap.size := by have := HW2.out.size; simp at this; exact this
    have hlt1 : Hid (∀ k, (Value.slice A1 es.length c1).ownBlock = some k → k < w1.heap.size) := Lib.hid (fun k e => Kd.R_lt HR1.out k e)
    clear cB dB q1 q2 HR1 HR2
    go_wp2_with fail
    refine (cortegelaw0_SameEvents.calls ks A1 c1 es A2 c2 es true _ (row_reads HR1'.out).1 (row_reads HR1'.out).2 (row_reads HR2'.out).1 (row_reads HR2'.out).2 HKS.out).mono ?_
    rintro e w3 ⟨rfl, hd3⟩
    have HB3 := Lib.hid (HB2.out.trans ((drawn0_below hd3).mono (by have := HB2.out.size; omega)))
    have HR13 := Lib.hid (Kd.R_below HR1'.out (drawn0_below hd3))
    have HR23 := Lib.hid (Kd.R_below HR2'.out (drawn0_below hd3))
    have hsz3 : w2.heap.size + 1 ≤ w3.heap.size := by have := (drawn0_below hd3).size; simp at this; exact this
    clear hd3 HR1' HR2' HB2 x0 x1 x2 x3 x4 xf y0 y1 y2 y3 y4 yf
    go_wp2_with fail
    refine (num_calls r w3).mono ?_
    rintro e w4 ⟨rfl, hb4⟩
    have HB4 := Lib.hid (HB3.out.trans (hb4.mono (by have := HB3.out.size; omega)))
    have HR14 := Lib.hid (Kd.R_below HR13.out hb4)
    have HR24 := Lib.hid (Kd.R_below HR23.out hb4)
    have hsz4 := hb4.size
    clear hb4 HR13 HR23 HB3
    go_wp2_with fail
    refine (over_row w4 w.heap.size b1 _ es hl9 hb1 (by have := HB4.out.size; have := HW1.out.size; omega) HR14.out).mono ?_
    rintro e w5 ⟨⟨v5, rfl⟩, hb5, hk5⟩
    have HW5 : Hid (Below w.heap.size w w5) := Lib.hid ((HW1.out.trans (HB4.out.mono HW1.out.size)).trans hb5)
    have HE5 := Lib.hid (HE.out.below HW5.out)
    have HR25 := Lib.hid (R_kept HR24.out (fun k hk hk2 => hk5 k hk2 (fun e => by have := hlt1.out k e; simp at hb2; omega)))
    clear hk5 hb5 HR14 HR24 HB4 HE1
    go_wp2_with fail
    refine (HP1.out w5 HE5.out).mono ?_
    rintro e w6 ⟨A6, c6, rfl, ⟨b6, hb6, hr6⟩, hw6⟩
    have HW6 := Lib.hid (then_below HW5.out hw6)
    have HR26 := Lib.hid (Kd.R_below HR25.out hw6)
    have HR66 := Lib.hid hr6
    clear hr6 hw6 HR25
    go_wp2_with fail
    refine (cortegelaw0_SameEvents.calls ks A6 c6 es A2 c2 es true _ (row_reads HR66.out).1 (row_reads HR66.out).2 (row_reads HR26.out).1 (row_reads HR26.out).2 HKS.out).mono ?_
    rintro e w7 ⟨rfl, hd7⟩
    have HW7 := Lib.hid (then_below HW6.out (drawn0_below hd7))
    clear hd7
    go_wp2_with fail
    refine (awake_calls _ (HE.out.below HW7.out)).mono ?_
    rintro e w8 ⟨rfl, hb8⟩
    have HW8 := Lib.hid (then_below HW7.out hb8)
    clear hb8
    go_wp2_with fail
    go_ret
    exact ⟨rfl, HW8.out⟩
theorem reads_row (s : ByteArray) (w : World) (_ : s.size ≤ 140737488351232) (he : Env w) : Calls Tryd.prog 4 #[.string s] w fun e w' => e = .returned (.bool true) ∧ Below w.heap.size w w' := reads_law s w he
end Go.Proofs.YtipccndoffcfiaaDoor.Script
end
