/- script.Parse, as it is called. -/
import Derived.Test.YtipccndoffcfiaaDoorScriptLine
namespace Go.Proofs.YtipccndoffcfiaaDoor.Script
open Go.RowKit Go.Proofs.YtipccndoffcfiaaDoor.PRef Go.Proofs.YtipccndoffcfiaaDoorW.PrintWords Go.Proofs.YtipccndoffcfiaaDoorW.PrintLast
attribute [local go_sem] Oper.semAt_some
set_option linter.unusedVariables false
set_option linter.unusedSimpArgs false
/-- A text's first line; what stands behind it. -/
def one (s : ByteArray) : ByteArray := ⟨(Lib.cut s.data.toList [10]).1.toArray⟩
def rest (s : ByteArray) : ByteArray := ⟨(Lib.cut s.data.toList [10]).2.1.toArray⟩
theorem one_size (s : ByteArray) : (one s).size ≤ s.size := by
  have hl := size_toList s
  unfold one Lib.cut
  split
  · show ((s.data.toList.take _).toArray).size ≤ _
    simp
    omega
  · show (s.data.toList.toArray).size ≤ _
    simp
theorem rest_size (s : ByteArray) (h : ¬ s = ⟨#[]⟩) : (rest s).size < s.size := by
  have hl := size_toList s
  have hp : 0 < s.size := by
    rcases Nat.eq_zero_or_pos s.size with h0 | h0
    · exact absurd (ByteArray.ext (Array.eq_empty_of_size_eq_zero h0)) h
    · exact h0
  unfold rest Lib.cut
  split
  · show ((s.data.toList.drop _).toArray).size < _
    simp
    omega
  · exact hp
theorem words_le (s : ByteArray) : (words s).length ≤ s.size + 1 := by
  rw [words_len]
  have := Lib.countB_le spc (by decide) s.size s (Nat.le_refl _)
  omega
theorem wordsP_len {cs : List Int} {es : List S47} {l : List ByteArray} {cs' : List Int} {es' : List S47} (h : wordsP cs es l = some (cs', es')) : es'.length ≤ es.length + 1 := by
  match l with
  | [] => cases h
  | a :: t =>
    rw [wordsP_cons] at h
    split at h
    · obtain ⟨_, _, h⟩ := Option.map_eq_some_iff.1 h
      cases h
      omega
    · split at h
      · obtain ⟨_, _, h⟩ := Option.map_eq_some_iff.1 h
        cases h
        simp
      · split at h
        · obtain ⟨_, _, h⟩ := Option.map_eq_some_iff.1 h
          cases h
          simp
        · cases h
/-- What lines say: the numbers, the events, the line that is refused, why. -/
def runP : Nat → List Int → List S47 → Nat → ByteArray → List Int × List S47 × Nat × Int
  | 0, _, _, n, _ => ([0, 0, 0, 0, 0], [], n, 10)
  | k + 1, cs, es, n, s => if s = ⟨#[]⟩ then (cs, es, 0, 0) else match wordsP cs es (words (one s)) with
    | none => ([0, 0, 0, 0, 0], [], n, 10)
    | some r => runP k r.1 r.2 (n + 1) (rest s)
/-- What a text says. -/
def parseP (s : ByteArray) : List Int × List S47 × Nat × Int :=
  if 131072 < s.size then ([0, 0, 0, 0, 0], [], 0, 3) else runP (s.size + 1) [0, 0, 0, 0, 0] [] 1 s
def ParsePost (P : List Int × List S47 × Nat × Int) (w : World) (e : Ending) (w' : World) : Prop :=
  ∃ esv : Value, e = .returned (.tuple #[.agg (P.1.map (Value.int .i64)).toArray, esv, .int .i64 (P.2.2.1 : Int), .int .i64 P.2.2.2]) ∧ (∃ base, w.heap.size ≤ base ∧ Kd.R k47 47 w' base (fun _ => True) esv P.2.1) ∧ Below w.heap.size w w'
theorem cut_calls (s : ByteArray) (hs : s.size ≤ 1000000) (w : World) (he : Env w) : Calls Tryd.prog 24 #[.string s, .string ⟨#[10]⟩] w fun e w' => ∃ b, e = .returned (.tuple #[.string (one s), .string (rest s), .bool b]) ∧ Below w.heap.size w w' := by
  obtain ⟨m, hm⟩ := he.len
  refine (Tryd.strings_Cut s ⟨#[10]⟩ m w (by omega) hm).mono ?_
  rintro e w' ⟨rfl, n, rfl⟩
  exact ⟨_, rfl, rfl, rfl, rfl, Nat.le_refl _, fun _ _ => rfl⟩
theorem runP_nil (k : Nat) (cs : List Int) (es : List S47) (n : Nat) : runP (k + 1) cs es n ⟨#[]⟩ = (cs, es, 0, 0) := by rw [runP, if_pos rfl]
theorem runP_bad {k : Nat} {cs : List Int} {es : List S47} {n : Nat} {s : ByteArray} (h : ¬ s = ⟨#[]⟩) (hw : wordsP cs es (words (one s)) = none) : runP (k + 1) cs es n s = ([0, 0, 0, 0, 0], [], n, 10) := by rw [runP, if_neg h, hw]
theorem runP_good {k : Nat} {cs : List Int} {es : List S47} {n : Nat} {s : ByteArray} {r : List Int × List S47} (h : ¬ s = ⟨#[]⟩) (hw : wordsP cs es (words (one s)) = some r) : runP (k + 1) cs es n s = runP k r.1 r.2 (n + 1) (rest s) := by rw [runP, if_neg h, hw]
theorem rdr_new (w : World) : Rdr ((w.alloc (.cells #[.int .i64 0, .int .i64 0, .int .i64 0, .int .i64 0, .int .i64 0] 28)).alloc (.cells #[.int .i64 0, .int .i64 0, .int .i64 0, .int .i64 0, .int .i64 0, .slice none 0 0] 53)) (w.heap.size + 1) [0, 0, 0, 0, 0] (.slice none 0 0) [] := by
  refine ⟨?_, rfl, Kd.R_nil _ _ _ _ _⟩
  have := ptrs_alloc (w.alloc (.cells #[.int .i64 0, .int .i64 0, .int .i64 0, .int .i64 0, .int .i64 0] 28)) 0 53 [.int .i64 0, .int .i64 0, .int .i64 0, .int .i64 0, .int .i64 0, .slice none 0 0]
  rwa [show (w.alloc (.cells #[.int .i64 0, .int .i64 0, .int .i64 0, .int .i64 0, .int .i64 0] 28)).heap.size = w.heap.size + 1 by simp] at this
set_option maxHeartbeats 4000000 in
set_option maxRecDepth 100000 in
theorem parse_results (tmps : Array Value) (w : World) (b : Nat) (a0 a1 a2 a3 a4 : Int) (h2 : tmps.getD 2 undef = .pointer (some ⟨b, 0, none⟩)) (hb : Blk w b 28 [.int .i64 a0, .int .i64 a1, .int .i64 a2, .int .i64 a3, .int .i64 a4]) :
    (results Tryd.f14 tmps).run Tryd.prog w = .ok (.tuple #[.agg #[.int .i64 a0, .int .i64 a1, .int .i64 a2, .int .i64 a3, .int .i64 a4], tmps.getD 3 undef, tmps.getD 4 undef, tmps.getD 5 undef]) w := by
  have hres : Tryd.f14.results = #[.cell 2 28, .tmp 3, .tmp 4, .tmp 5] := rfl
  have k0 := hb.cell 0 (by simp)
  have k1 := hb.cell 1 (by simp)
  have k2 := hb.cell 2 (by simp)
  have k3 := hb.cell 3 (by simp)
  have k4 := hb.cell 4 (by simp)
  simp only [List.getElem_cons_zero, List.getElem_cons_succ] at k0 k1 k2 k3 k4
  have h3 : tmps[2]?.getD undef = .pointer (some ⟨b, 0, none⟩) := by simpa using h2
  simp only [results, hres]
  go_simp
  try rfl
def W0 (w : World) : World := (w.alloc (.cells #[.int .i64 0, .int .i64 0, .int .i64 0, .int .i64 0, .int .i64 0] 28)).alloc (.cells #[.int .i64 0, .int .i64 0, .int .i64 0, .int .i64 0, .int .i64 0, .slice none 0 0] 53)
theorem W0_below (w : World) : Below w.heap.size w (W0 w) := push2 w _ _
theorem W0_size (w : World) : (W0 w).heap.size = w.heap.size + 2 := by simp [W0]
theorem res_blk {w w2 : World} (h : Below (w.heap.size + 1) (W0 w) w2) : Blk w2 w.heap.size 28 [.int .i64 0, .int .i64 0, .int .i64 0, .int .i64 0, .int .i64 0] :=
  (h.block _ (by omega)).trans ((ptrs_alloc w 0 28 [.int .i64 0, .int .i64 0, .int .i64 0, .int .i64 0, .int .i64 0]).below (below_push _ _))
theorem res_env {w w2 : World} (he : Env w) (h : Below (w.heap.size + 1) (W0 w) w2) : Env w2 := (he.below (W0_below w)).from (by have := he.size; omega) h
theorem ret_below {w w2 w3 : World} (h : Below (w.heap.size + 1) (W0 w) w2) (h3 : Below w.heap.size w2 w3) : Below w.heap.size w w3 :=
  (W0_below w).trans ((h.mono (by omega)).trans h3)
def set5 (w : World) (b : Nat) (a0 a1 a2 a3 a4 : Int) : World := ((((w.setCell ⟨b, 0, none⟩ (.int .i64 a0)).setCell ⟨b, 1, none⟩ (.int .i64 a1)).setCell ⟨b, 2, none⟩ (.int .i64 a2)).setCell ⟨b, 3, none⟩ (.int .i64 a3)).setCell ⟨b, 4, none⟩ (.int .i64 a4)
theorem set5_far (w : World) {b : Nat} (a0 a1 a2 a3 a4 : Int) (p : Addr) (h : b ≠ p.block) : (set5 w b a0 a1 a2 a3 a4).cell? p = w.cell? p := by
  unfold set5
  rw [World.cell?_setCell_far _ _ _ _ h, World.cell?_setCell_far _ _ _ _ h, World.cell?_setCell_far _ _ _ _ h, World.cell?_setCell_far _ _ _ _ h, World.cell?_setCell_far _ _ _ _ h]
theorem set5_heap (w : World) (b : Nat) (a0 a1 a2 a3 a4 : Int) (k : Nat) (h : k ≠ b) : (set5 w b a0 a1 a2 a3 a4).heap[k]? = w.heap[k]? := by
  unfold set5
  rw [Below.heap_setCell _ _ _ k h, Below.heap_setCell _ _ _ k h, Below.heap_setCell _ _ _ k h, Below.heap_setCell _ _ _ k h, Below.heap_setCell _ _ _ k h]
theorem five_set {w : World} {b t : Nat} {x0 x1 x2 x3 x4 : Value} (h : Blk w b t [x0, x1, x2, x3, x4]) (a0 a1 a2 a3 a4 : Int) : Blk (set5 w b a0 a1 a2 a3 a4) b t [.int .i64 a0, .int .i64 a1, .int .i64 a2, .int .i64 a3, .int .i64 a4] :=
  ((((h.set 0 (.int .i64 a0)).set 1 (.int .i64 a1)).set 2 (.int .i64 a2)).set 3 (.int .i64 a3)).set 4 (.int .i64 a4)
theorem five_below (w : World) (b : Nat) (a0 a1 a2 a3 a4 : Int) : Below b w (set5 w b a0 a1 a2 a3 a4) :=
  (((((Below.refl b w).setCell (p := ⟨b, 0, none⟩) (Nat.le_refl _) _).setCell (p := ⟨b, 1, none⟩) (Nat.le_refl _) _).setCell (p := ⟨b, 2, none⟩) (Nat.le_refl _) _).setCell (p := ⟨b, 3, none⟩) (Nat.le_refl _) _).setCell (p := ⟨b, 4, none⟩) (Nat.le_refl _) _
theorem five (cs : List Int) (h : cs.length = 5) : ∃ a0 a1 a2 a3 a4, cs = [a0, a1, a2, a3, a4] := by
  match cs, h with
  | [a0, a1, a2, a3, a4], _ => exact ⟨a0, a1, a2, a3, a4, rfl⟩
theorem parse_done {w wr : World} {a0 a1 a2 a3 a4 : Int} {esv : Value} {es : List S47} (hB : Below (w.heap.size + 1) (W0 w) wr) (hR : Rdr wr (w.heap.size + 1) [a0, a1, a2, a3, a4] esv es) :
    ParsePost ([a0, a1, a2, a3, a4], es, 0, 0) w (.returned (.tuple #[.agg #[.int .i64 a0, .int .i64 a1, .int .i64 a2, .int .i64 a3, .int .i64 a4], esv, .int .i64 0, .int .i64 0])) (set5 wr w.heap.size a0 a1 a2 a3 a4).drew :=
by
  have hs := five_below wr w.heap.size a0 a1 a2 a3 a4
  have hk : ∀ k, w.heap.size + 1 + 1 ≤ k → k < wr.heap.size → (set5 wr w.heap.size a0 a1 a2 a3 a4).heap[k]? = wr.heap[k]? := fun k hk _ => set5_heap wr w.heap.size a0 a1 a2 a3 a4 k (by omega)
  have h1 := hB.size
  have h2 := W0_size w
  have h3 := hs.size
  have hb := drewB (set5 wr w.heap.size a0 a1 a2 a3 a4)
  generalize set5 wr w.heap.size a0 a1 a2 a3 a4 = wz at hs hk h3 hb ⊢
  have hr := R_kept hR.row hk
  have hq : Below w.heap.size wr wz.drew := hs.trans (hb.mono (by omega))
  have hv := ret_below hB hq
  have hrr := Kd.R_below hr ((hb).mono (Nat.le_refl _))
  exact ⟨esv, rfl, ⟨w.heap.size + 1 + 1, by omega, hrr⟩, hv⟩
set_option maxHeartbeats 4000000 in
set_option maxRecDepth 100000 in
theorem parse_calls (s : ByteArray) (w : World) (hs : s.size ≤ 100000000) (he : Env w) : Calls Tryd.prog 14 #[.string s] w (ParsePost (parseP s) w) := by
  have HE := Lib.hid he
  clear he
  by_cases hbig : 131072 < s.size
  · have e1 : decide ((131072 : Int) < (s.size : Int)) = true := decide_eq_true (by omega)
    have e2 : decide ((s.size : Int) > (131072 : Int)) = true := decide_eq_true (by omega)
    have hp : parseP s = ([0, 0, 0, 0, 0], [], 0, 3) := if_pos hbig
    rw [hp]
    go_enter Tryd.func14, Tryd.ntmps14
    go_wp2_with fail
    refine bodyPost_ret (parse_results _ _ w.heap.size 0 0 0 0 0 rfl (ptrs_alloc w 0 28 [.int .i64 0, .int .i64 0, .int .i64 0, .int .i64 0, .int .i64 0])) rfl ?_
    exact ⟨.slice none 0 0, rfl, ⟨_, Nat.le_refl _, Kd.R_nil _ _ _ _ _⟩, below_push w _⟩
  · have e1 : decide ((131072 : Int) < (s.size : Int)) = false := decide_eq_false (by omega)
    have e2 : decide ((s.size : Int) > (131072 : Int)) = false := decide_eq_false (by omega)
    have hp : parseP s = runP (s.size + 1) [0, 0, 0, 0, 0] [] 1 s := if_neg hbig
    have HP0 := Lib.hid hp
    clear hp
    generalize parseP s = P at HP0 ⊢
    go_enter Tryd.func14, Tryd.ntmps14
    go_wp2_with fail
    go_loopg [0, 7, 8, 9, 10] s.size (fun gg v0 v7 v8 v9 v10 w' => ∃ (cur : ByteArray) (n : Nat) (cs : List Int) (es : List S47) (esv : Value), v0 = .string cur ∧ v7 = .int .i64 (n : Int) ∧ Hid (cur.size ≤ gg ∧ es.length + cur.size ≤ 131072 ∧ n + cur.size ≤ 131073) ∧ Hid (runP (gg + 1) cs es n cur = P) ∧ Hid (Below (w.heap.size + 1) ((w.alloc (.cells #[.int .i64 0, .int .i64 0, .int .i64 0, .int .i64 0, .int .i64 0] 28)).alloc (.cells #[.int .i64 0, .int .i64 0, .int .i64 0, .int .i64 0, .int .i64 0, .slice none 0 0] 53)) w') ∧ Hid (Rdr w' (w.heap.size + 1) cs esv es))
    case atStart => exact ⟨s, 1, [0, 0, 0, 0, 0], [], .slice none 0 0, rfl, rfl, Lib.hid ⟨Nat.le_refl _, by simp; omega, by omega⟩, Lib.hid HP0.out.symm, Lib.hid (Below.refl _ _), Lib.hid (rdr_new w)⟩
    case round =>
      obtain ⟨cur, n, cs, es, esv, rfl, rfl, HC, HP, HB, HR⟩ := hrel
      replace HB : Hid (Below (w.heap.size + 1) (W0 w) wr) := HB
      by_cases hc : cur = ⟨#[]⟩
      · subst hc
        have HP1 := Lib.hid ((runP_nil _ _ _ _).symm.trans HP.out)
        obtain ⟨a0, a1, a2, a3, a4, rfl⟩ := five cs HR.out.len
        have rB := res_blk HB.out
        have r0 := rB.cell 0 (by simp)
        have r1 := rB.cell 1 (by simp)
        have r2 := rB.cell 2 (by simp)
        have r3 := rB.cell 3 (by simp)
        have r4 := rB.cell 4 (by simp)
        have rf := fun j => rB.free j
        have c0 := HR.out.blk.cell 0 (by simp)
        have c1 := HR.out.blk.cell 1 (by simp)
        have c2 := HR.out.blk.cell 2 (by simp)
        have c3 := HR.out.blk.cell 3 (by simp)
        have c4 := HR.out.blk.cell 4 (by simp)
        have c5 := HR.out.blk.cell 5 (by simp)
        simp only [List.map_cons, List.map_nil, List.cons_append, List.nil_append, List.getElem_cons_zero, List.getElem_cons_succ] at r0 r1 r2 r3 r4 c0 c1 c2 c3 c4 c5
        have RB := Lib.hid rB
        clear rB
        go_wp2_with fail
        refine wp_region_noPanic ?_
        refine start_ (n := 12) (S := fun W' => W'.cell? ⟨w.heap.size + 1, 0, none⟩ = some (.int .i64 a0) ∧ W'.cell? ⟨w.heap.size + 1, 1, none⟩ = some (.int .i64 a1) ∧ W'.cell? ⟨w.heap.size + 1, 2, none⟩ = some (.int .i64 a2) ∧ W'.cell? ⟨w.heap.size + 1, 3, none⟩ = some (.int .i64 a3) ∧ W'.cell? ⟨w.heap.size + 1, 4, none⟩ = some (.int .i64 a4) ∧ W'.cell? ⟨w.heap.size + 1, 5, none⟩ = some (esv)) (ds := []) #[false, false, false, false, false, false, false, false, false, false, false, false] (by rfl) (by rfl) (by rfl) ⟨c0, c1, c2, c3, c4, c5⟩ (fun hHeld => ?_)
        refine take_ (i := 0) (N := some 34) (v := ?_) (a' := ?_) #[true, false, false, false, false, false, false, false, false, false, false, false] rfl rfl (by kernel_rfl) (fun _ _ _ h => h) (Or.inl ⟨by rfl, ?_⟩) hHeld ?_ ?_
        rotate_left
        · rintro w' ⟨s0, s1, s2, s3, s4, s5⟩
          go_simp
          try with_reducible rfl
        rotate_left
        · simp only [Act.put, List.setIfInBounds_toArray, List.set_cons_zero, List.set_cons_succ]
          rfl
        refine take_ (i := 1) (N := some 35) (v := ?_) (a' := ?_) #[true, true, false, false, false, false, false, false, false, false, false, false] rfl rfl (by kernel_rfl) (fun _ _ _ h => h) (Or.inl ⟨by rfl, ?_⟩) hHeld ?_ ?_
        rotate_left
        · rintro w' ⟨s0, s1, s2, s3, s4, s5⟩
          go_simp
          try with_reducible rfl
        rotate_left
        · simp only [Act.put, List.setIfInBounds_toArray, List.set_cons_zero, List.set_cons_succ]
          rfl
        refine take_ (i := 2) (N := some 36) (v := ?_) (a' := ?_) #[true, true, true, false, false, false, false, false, false, false, false, false] rfl rfl (by kernel_rfl) (fun _ _ _ h => h) (Or.inl ⟨by rfl, ?_⟩) hHeld ?_ ?_
        rotate_left
        · rintro w' ⟨s0, s1, s2, s3, s4, s5⟩
          go_simp
          try with_reducible rfl
        rotate_left
        · simp only [Act.put, List.setIfInBounds_toArray, List.set_cons_zero, List.set_cons_succ]
          rfl
        refine take_ (i := 3) (N := some 37) (v := ?_) (a' := ?_) #[true, true, true, true, false, false, false, false, false, false, false, false] rfl rfl (by kernel_rfl) (fun _ _ _ h => h) (Or.inl ⟨by rfl, ?_⟩) hHeld ?_ ?_
        rotate_left
        · rintro w' ⟨s0, s1, s2, s3, s4, s5⟩
          go_simp
          try with_reducible rfl
        rotate_left
        · simp only [Act.put, List.setIfInBounds_toArray, List.set_cons_zero, List.set_cons_succ]
          rfl
        refine take_ (i := 4) (N := some 38) (v := ?_) (a' := ?_) #[true, true, true, true, true, false, false, false, false, false, false, false] rfl rfl (by kernel_rfl) (fun _ _ _ h => h) (Or.inl ⟨by rfl, ?_⟩) hHeld ?_ ?_
        rotate_left
        · rintro w' ⟨s0, s1, s2, s3, s4, s5⟩
          go_simp
          try with_reducible rfl
        rotate_left
        · simp only [Act.put, List.setIfInBounds_toArray, List.set_cons_zero, List.set_cons_succ]
          rfl
        refine take_ (i := 5) (N := some 39) (v := ?_) (a' := ?_) #[true, true, true, true, true, true, false, false, false, false, false, false] rfl rfl (by kernel_rfl) (fun _ _ _ h => h) (Or.inl ⟨by rfl, ?_⟩) hHeld ?_ ?_
        rotate_left
        · rintro w' ⟨s0, s1, s2, s3, s4, s5⟩
          go_simp
          try with_reducible rfl
        rotate_left
        · simp only [Act.put, List.setIfInBounds_toArray, List.set_cons_zero, List.set_cons_succ]
          rfl
        refine take_ (i := 6) (N := some 40) (v := ?_) (a' := ?_) #[true, true, true, true, true, true, true, false, false, false, false, false] rfl rfl (by kernel_rfl) (fun _ _ _ h => h) (Or.inl ⟨by rfl, ?_⟩) hHeld ?_ ?_
        rotate_left
        · rintro w' ⟨s0, s1, s2, s3, s4, s5⟩
          go_simp
          try with_reducible rfl
        rotate_left
        · simp only [Act.put, List.setIfInBounds_toArray, List.set_cons_zero, List.set_cons_succ]
          rfl
        refine take_ (i := 7) (N := some 41) (v := ?_) (a' := ?_) #[true, true, true, true, true, true, true, true, false, false, false, false] rfl rfl (by kernel_rfl) (fun _ _ _ h => h) (Or.inl ⟨by rfl, ?_⟩) hHeld ?_ ?_
        rotate_left
        · rintro w' ⟨s0, s1, s2, s3, s4, s5⟩
          go_simp
          try with_reducible rfl
        rotate_left
        · simp only [Act.put, List.setIfInBounds_toArray, List.set_cons_zero, List.set_cons_succ]
          rfl
        refine one_ (i := 8) (N := none) #[true, true, true, true, true, true, true, true, true, false, false, false] rfl rfl (by kernel_rfl) (by decide) (fun K hK => ?_)
        go_simp
        have far : ∀ p : Addr, w.heap.size ≠ p.block → (set5 wr.drew w.heap.size a0 a1 a2 a3 a4).cell? p = wr.cell? p := fun p h => set5_far _ _ _ _ _ _ p h
        have hh : (fun W' => W'.cell? ⟨w.heap.size + 1, 0, none⟩ = some (.int .i64 a0) ∧ W'.cell? ⟨w.heap.size + 1, 1, none⟩ = some (.int .i64 a1) ∧ W'.cell? ⟨w.heap.size + 1, 2, none⟩ = some (.int .i64 a2) ∧ W'.cell? ⟨w.heap.size + 1, 3, none⟩ = some (.int .i64 a3) ∧ W'.cell? ⟨w.heap.size + 1, 4, none⟩ = some (.int .i64 a4) ∧ W'.cell? ⟨w.heap.size + 1, 5, none⟩ = some (esv)) (set5 wr.drew w.heap.size a0 a1 a2 a3 a4) := ⟨(far _ (by show w.heap.size ≠ w.heap.size + 1; omega)).trans c0, (far _ (by show w.heap.size ≠ w.heap.size + 1; omega)).trans c1, (far _ (by show w.heap.size ≠ w.heap.size + 1; omega)).trans c2, (far _ (by show w.heap.size ≠ w.heap.size + 1; omega)).trans c3, (far _ (by show w.heap.size ≠ w.heap.size + 1; omega)).trans c4, (far _ (by show w.heap.size ≠ w.heap.size + 1; omega)).trans c5⟩
        refine hK.out _ _ hh (fun hHeld => ?_)
        clear hK K hh
        try simp only [Act.put, List.setIfInBounds_toArray, List.set_cons_zero, List.set_cons_succ]
        refine take_ (i := 9) (N := some 3) (v := ?_) (a' := ?_) #[true, true, true, true, true, true, true, true, true, true, false, false] rfl rfl (by kernel_rfl) (fun _ _ _ h => h) (Or.inl ⟨by rfl, ?_⟩) hHeld ?_ ?_
        rotate_left
        · rintro w' ⟨s0, s1, s2, s3, s4, s5⟩
          go_simp
          try with_reducible rfl
        rotate_left
        · simp only [Act.put, List.setIfInBounds_toArray, List.set_cons_zero, List.set_cons_succ]
          rfl
        refine take_ (i := 10) (N := some 4) (v := ?_) (a' := ?_) #[true, true, true, true, true, true, true, true, true, true, true, false] rfl rfl (by kernel_rfl) (fun _ _ _ h => h) (Or.inl ⟨by rfl, ?_⟩) hHeld ?_ ?_
        rotate_left
        · rintro w' ⟨s0, s1, s2, s3, s4, s5⟩
          go_simp
          try with_reducible rfl
        rotate_left
        · simp only [Act.put, List.setIfInBounds_toArray, List.set_cons_zero, List.set_cons_succ]
          rfl
        refine take_ (i := 11) (N := some 5) (v := ?_) (a' := ?_) #[true, true, true, true, true, true, true, true, true, true, true, true] rfl rfl (by kernel_rfl) (fun _ _ _ h => h) (Or.inl ⟨by rfl, ?_⟩) hHeld ?_ ?_
        rotate_left
        · rintro w' ⟨s0, s1, s2, s3, s4, s5⟩
          go_simp
          try with_reducible rfl
        rotate_left
        · simp only [Act.put, List.setIfInBounds_toArray, List.set_cons_zero, List.set_cons_succ]
          rfl
        refine done_ (by kernel_rfl) ?_
        refine NoPanic.normal ?_
        go_wp2_with fail
        refine bodyPost_ret (parse_results _ _ w.heap.size a0 a1 a2 a3 a4 rfl (by exact five_set RB.out a0 a1 a2 a3 a4)) rfl ?_
        rw [← HP1.out]
        exact parse_done HB.out HR.out
      · have t1 : (cur.toList == []) = false := tl_lit hc
        have t1d : ¬ cur.toList = [] := fun e => by rw [e] at t1; exact absurd t1 (by decide)
        have HEr := Lib.hid (res_env HE.out HB.out)
        have HZ := Lib.hid (Nat.le_trans (one_size cur) (Nat.le_trans (by have := HC.out; omega : cur.size ≤ 131072) (by omega : 131072 ≤ 900000)))
        have HNC := Lib.hid hc
        clear hc
        go_wp2_with (first | (go_at_call 24; refine (cut_calls cur (by have := HC.out; omega) wr HEr.out).mono ?_; rintro e w1 ⟨b, rfl, hb1⟩; have HR1 := Lib.hid (HR.out.below hb1); have HE1 := Lib.hid (HEr.out.below hb1); have HB1 : Hid (Below (w.heap.size + 1) (W0 w) w1) := Lib.hid (HB.out.trans (hb1.mono (by have := HB.out.size; have := W0_size w; omega))); clear hb1))
        refine (line_calls (one cur) (w.heap.size + 1) cs esv es w1 (by have := HZ.out; omega) (by have := HZ.out; have := words_le (one cur); omega) HR1.out (by have := HE.out.size; omega) HE1.out (by have := HC.out; omega)).mono ?_
        rintro e w2 ⟨rfl, hb2, hr2⟩
        have HB2 : Hid (Below (w.heap.size + 1) (W0 w) w2) := Lib.hid (HB1.out.trans hb2)
        clear hb2
        cases hwp : wordsP cs es (words (one cur)) with
        | none =>
          have HP1 := Lib.hid ((runP_bad HNC.out hwp).symm.trans HP.out)
          clear hr2 hwp
          simp only [Option.isSome_none]
          have rB := res_blk HB2.out
          have r0 := rB.cell 0 (by simp)
          have r1 := rB.cell 1 (by simp)
          have r2 := rB.cell 2 (by simp)
          have r3 := rB.cell 3 (by simp)
          have r4 := rB.cell 4 (by simp)
          have rf := fun j => rB.free j
          simp only [List.getElem_cons_zero, List.getElem_cons_succ] at r0 r1 r2 r3 r4
          have RB := Lib.hid rB
          clear rB
          go_wp2_with fail
          refine bodyPost_ret (parse_results _ _ w.heap.size 0 0 0 0 0 rfl (five_set RB.out 0 0 0 0 0)) rfl ?_
          rw [← HP1.out]
          exact ⟨.slice none 0 0, rfl, ⟨_, Nat.le_refl _, Kd.R_nil _ _ _ _ _⟩, ret_below HB2.out (five_below _ _ 0 0 0 0 0)⟩
        | some r =>
          obtain ⟨cs', es'⟩ := r
          obtain ⟨esv', hr3⟩ := hr2 cs' es' hwp
          have HR3 := Lib.hid hr3
          have HP1 := Lib.hid ((runP_good HNC.out hwp).symm.trans HP.out)
          have HL := Lib.hid (wordsP_len hwp)
          have HRS := Lib.hid (rest_size cur HNC.out)
          clear hr2 hwp hr3
          simp only [Option.isSome_some]
          have hn9 : n ≤ 131073 := by have := HC.out; omega
          go_wp2_with fail
          go_roundg (gk - 1)
          case measure => have := HRS.out; have := HC.out; omega
          case rel =>
            have e : gk - 1 + 1 = gk := by have := HRS.out; have := HC.out; omega
            exact ⟨rest cur, n + 1, cs', es', esv', rfl, by go_num, Lib.hid (by have := HRS.out; have := HC.out; have := HL.out; omega), Lib.hid (by rw [e]; exact HP1.out), HB2, HR3⟩
end Go.Proofs.YtipccndoffcfiaaDoor.Script
