/- ScriptReads' law, as it is called. -/
import Derived.Test.YtipccndoffcfiaaDoorScriptReads
namespace Go.Proofs.YtipccndoffcfiaaDoor.Script
open Go.RowKit Go.IntWalk Go.Proofs.YtipccndoffcfiaaDoor.PRef Go.Proofs.YtipccndoffcfiaaDoorW.PrintWords Go.Proofs.YtipccndoffcfiaaDoorW.PrintLast Go.Proofs.YtipccndoffcfiaaDoor.Rounds
attribute [local go_sem] Oper.semAt_some
set_option linter.unusedVariables false
set_option linter.unusedSimpArgs false
theorem same_self (es : List S47) (h : es.length ≤ 1000000) : ∃ k, cortegelaw0_SameEvents.f k es es = some true := by
  have loop : ∀ (d i : Nat), i + d = es.length → cortegelaw0_SameEvents.l0 (d + 1) es es (i : Int) = some true := by
    intro d
    induction d with
    | zero => intro i hi; rw [cortegelaw0_SameEvents.l0, if_neg (by omega)]
    | succ d ih =>
      intro i hi
      rw [cortegelaw0_SameEvents.l0, if_pos (by omega), if_pos (by omega), if_pos (by omega), if_neg (by simp), w1 (by omega)]
      exact ih (i + 1) (by omega)
  refine ⟨es.length + 1, ?_⟩
  unfold cortegelaw0_SameEvents.f
  rw [if_pos rfl]
  exact loop es.length 0 (by omega)
theorem num_calls (x : Int) (w : World) : Calls Tryd.prog 17 #[.int .i64 x] w fun e w' => e = .returned (.int .i64 x) ∧ Below w.heap.size w w' := by
  go_enter Tryd.func17, Tryd.ntmps17
  go_wp2_with fail
  go_ret
  exact ⟨by first | rfl | simp, by first | exact Below.refl _ _ | exact drewB _⟩
/-- A row written over: what else there is stays. -/
theorem over_row (w : World) (n base : Nat) (v : Value) (es : List S47) (hl : es.length ≤ 1000000) (hn : n ≤ base) (hb : n ≤ w.heap.size) (h : Kd.R k47 47 w base (fun _ => True) v es) :
    Calls Tryd.prog 18 #[v] w fun e w' => (∃ v, e = .returned v) ∧ Below n w w' ∧ ∀ k, k < w.heap.size → v.ownBlock ≠ some k → w'.heap[k]? = w.heap[k]? := by
  obtain ⟨inner, ho⟩ := Kd.R_own h
  have ho' := ho
  rcases ho.2 with ⟨rfl, _⟩ | ⟨g, cap, cur, rfl, hg, _⟩
  · exact (overE_nil w).mono fun e w' ⟨he, hb2⟩ => ⟨he, hb2.mono hb, fun k hk _ => hb2.block k hk⟩
  · exact (overE_calls w g _ _ _ hl (own_rowE ho')).mono fun e w' ⟨he, ht⟩ => ⟨he, ht.below (by omega) hb, fun k hk hn => ht.block k hk (fun e => hn (by simp [Value.ownBlock, e]))⟩
/-- What both Parses answer. -/
def ParseGot (a0 a1 a2 a3 a4 : Int) (es : List S47) (n : Nat) (r : Int) (w : World) (e : Ending) (w' : World) : Prop :=
  ∃ (A : Option Addr) (c : Nat), e = .returned (.tuple #[.agg #[.int .i64 a0, .int .i64 a1, .int .i64 a2, .int .i64 a3, .int .i64 a4], .slice A es.length c, .int .i64 (n : Int), .int .i64 r]) ∧ (∃ base, w.heap.size ≤ base ∧ Kd.R k47 47 w' base (fun _ => True) (.slice A es.length c) es) ∧ Below w.heap.size w w'
theorem got_of {a0 a1 a2 a3 a4 : Int} {es : List S47} {n : Nat} {r : Int} {w : World} {e : Ending} {w' : World} (h : ParsePost ([a0, a1, a2, a3, a4], es, n, r) w e w') : ParseGot a0 a1 a2 a3 a4 es n r w e w' := by
  obtain ⟨esv, rfl, ⟨base, h1, h2⟩, h3⟩ := h
  obtain ⟨A, c, rfl⟩ := Kd.R_slice h2
  exact ⟨A, c, rfl, ⟨base, h1, h2⟩, h3⟩
theorem row_reads {W : World} {base : Nat} {A : Option Addr} {c : Nat} {es : List S47} (h : Kd.R k47 47 W base (fun _ => True) (.slice A es.length c) es) : Kd.C k47 W A es.length es ∧ es.length ≤ c := by
  have h2 := Kd.R_reads' h
  exact ⟨h2.2.2, h2.2.1⟩
theorem drawn0_below {w w' : World} (h : Drawn0 w w') : Below w.heap.size w w' := by
  obtain ⟨n, rfl⟩ := h
  exact ⟨rfl, rfl, rfl, Nat.le_refl _, fun _ _ => rfl⟩
set_option maxHeartbeats 8000000 in
set_option maxRecDepth 100000 in
theorem reads_law (s : ByteArray) (w : World) (he : Env w) : Calls Tryd.prog 4 #[.string s] w fun e w' => e = .returned (.bool true) ∧ Below w.heap.size w w' := by
  by_cases h1 : (132000 : Int) < (s.size : Int)
  · have d1 : decide ((132000 : Int) < (s.size : Int)) = true := decide_eq_true h1
    go_enter Tryd.func4, Tryd.ntmps4
    go_wp2_with fail
    refine (awake_calls _ he).mono ?_
    rintro e w1 ⟨rfl, hb⟩
    go_wp2_with fail
    go_ret
    exact ⟨rfl, hb⟩
  · have d1 : decide ((132000 : Int) < (s.size : Int)) = false := decide_eq_false h1
    have hs1 : s.size ≤ 132000 := by omega
    have P1 := fun w he => parse_calls s w (by omega) he
    have P2 := fun w => refparse_calls s w (by omega)
    have hcs := parseP_cs s
    have hln := parseP_len s
    rcases hP : parseP s with ⟨cs, es, n, r⟩
    rw [hP] at P1 P2 hcs hln
    obtain ⟨a0, a1, a2, a3, a4, rfl⟩ := five cs hcs
    have HP1 : Hid (∀ w, Env w → Calls Tryd.prog 14 #[.string s] w (ParseGot a0 a1 a2 a3 a4 es n r w)) := Lib.hid (fun w he => (P1 w he).mono fun _ _ h => got_of h)
    have HP2 : Hid (∀ w, Calls Tryd.prog 15 #[.string s] w (ParseGot a0 a1 a2 a3 a4 es n r w)) := Lib.hid (fun w => (P2 w).mono fun _ _ h => got_of h)
    simp only at hln
    obtain ⟨ks, hks⟩ := same_self es (by omega)
    have HKS := Lib.hid hks
    clear P1 P2 hcs hP hks
    have hl9 : es.length ≤ 1000000 := by omega
    have HE := Lib.hid he
    go_enter Tryd.func4, Tryd.ntmps4
    go_wp2_with fail
    refine (HP1.out w he).mono ?_
    rintro e w1 ⟨A1, c1, rfl, ⟨b1, hb1, hr1⟩, hw1⟩
    have HE1 := Lib.hid (he.below hw1)
    have HR1 := Lib.hid hr1
    have HW1 := Lib.hid hw1
    clear hr1 hw1 he
    go_wp2_with fail
    refine (HP2.out _).mono ?_
    rintro e w2 ⟨A2, c2, rfl, ⟨b2, hb2, hr2⟩, hw2⟩
    have HR2 := Lib.hid hr2
    have HW2 := Lib.hid hw2
    clear hr2 hw2
    have q1 := below_push w1 (.cells #[.int .i64 a0, .int .i64 a1, .int .i64 a2, .int .i64 a3, .int .i64 a4] 28)
    have q2 := below_push w2 (.cells #[.int .i64 a0, .int .i64 a1, .int .i64 a2, .int .i64 a3, .int .i64 a4] 28)
    have HB2 : Hid (Below w1.heap.size w1 (w2.alloc (.cells #[.int .i64 a0, .int .i64 a1, .int .i64 a2, .int .i64 a3, .int .i64 a4] 28))) := Lib.hid (then_below (then_below q1 HW2.out) q2)
    have cB := ((ptrs_alloc w1 0 28 [.int .i64 a0, .int .i64 a1, .int .i64 a2, .int .i64 a3, .int .i64 a4]).below HW2.out).below q2
    have dB := ptrs_alloc w2 0 28 [.int .i64 a0, .int .i64 a1, .int .i64 a2, .int .i64 a3, .int .i64 a4]
    obtain ⟨x0, x1, x2, x3, x4, xf⟩ := blk_five cB
    obtain ⟨y0, y1, y2, y3, y4, yf⟩ := blk_five dB
    have HR1' := Lib.hid (Kd.R_below HR1.out HB2.out)
    have HR2' := Lib.hid (Kd.R_below HR2.out q2)
    have hsz2 : w1.heap.size + 1 ≤ w2.heap.size := by have := HW2.out.size; simp at this; exact this
    have hlt1 : Hid (∀ k, (Value.slice A1 es.length c1).ownBlock = some k → k < w1.heap.size) := Lib.hid (fun k e => Kd.R_lt HR1.out k e)
    clear cB dB q1 q2 HR1 HR2
    go_wp2_with fail
    refine (cortegelaw0_SameEvents.calls ks A1 c1 es A2 c2 es true _ (row_reads HR1'.out).1 (row_reads HR1'.out).2 (row_reads HR2'.out).1 (row_reads HR2'.out).2 HKS.out).mono ?_
    rintro e w3 ⟨rfl, hd3⟩
    have HB3 := Lib.hid (HB2.out.trans ((drawn0_below hd3).mono (by have := HB2.out.size; omega)))
    have HR13 := Lib.hid (Kd.R_below HR1'.out (drawn0_below hd3))
    have HR23 := Lib.hid (Kd.R_below HR2'.out (drawn0_below hd3))
    have hsz3 : w2.heap.size + 1 ≤ w3.heap.size := by have := (drawn0_below hd3).size; simp at this; exact this
    clear hd3 HR1' HR2' HB2 x0 x1 x2 x3 x4 xf y0 y1 y2 y3 y4 yf
    go_wp2_with fail
    refine (num_calls r w3).mono ?_
    rintro e w4 ⟨rfl, hb4⟩
    have HB4 := Lib.hid (HB3.out.trans (hb4.mono (by have := HB3.out.size; omega)))
    have HR14 := Lib.hid (Kd.R_below HR13.out hb4)
    have HR24 := Lib.hid (Kd.R_below HR23.out hb4)
    have hsz4 := hb4.size
    clear hb4 HR13 HR23 HB3
    go_wp2_with fail
    refine (over_row w4 w.heap.size b1 _ es hl9 hb1 (by have := HB4.out.size; have := HW1.out.size; omega) HR14.out).mono ?_
    rintro e w5 ⟨⟨v5, rfl⟩, hb5, hk5⟩
    have HW5 : Hid (Below w.heap.size w w5) := Lib.hid ((HW1.out.trans (HB4.out.mono HW1.out.size)).trans hb5)
    have HE5 := Lib.hid (HE.out.below HW5.out)
    have HR25 := Lib.hid (R_kept HR24.out (fun k hk hk2 => hk5 k hk2 (fun e => by have := hlt1.out k e; simp at hb2; omega)))
    clear hk5 hb5 HR14 HR24 HB4 HE1
    go_wp2_with fail
    refine (HP1.out w5 HE5.out).mono ?_
    rintro e w6 ⟨A6, c6, rfl, ⟨b6, hb6, hr6⟩, hw6⟩
    have HW6 := Lib.hid (then_below HW5.out hw6)
    have HR26 := Lib.hid (Kd.R_below HR25.out hw6)
    have HR66 := Lib.hid hr6
    clear hr6 hw6 HR25
    go_wp2_with fail
    refine (cortegelaw0_SameEvents.calls ks A6 c6 es A2 c2 es true _ (row_reads HR66.out).1 (row_reads HR66.out).2 (row_reads HR26.out).1 (row_reads HR26.out).2 HKS.out).mono ?_
    rintro e w7 ⟨rfl, hd7⟩
    have HW7 := Lib.hid (then_below HW6.out (drawn0_below hd7))
    clear hd7
    go_wp2_with fail
    refine (awake_calls _ (HE.out.below HW7.out)).mono ?_
    rintro e w8 ⟨rfl, hb8⟩
    have HW8 := Lib.hid (then_below HW7.out hb8)
    clear hb8
    go_wp2_with fail
    go_ret
    exact ⟨rfl, HW8.out⟩
theorem reads_row (s : ByteArray) (w : World) (_ : s.size ≤ 140737488351232) (he : Env w) : Calls Tryd.prog 4 #[.string s] w fun e w' => e = .returned (.bool true) ∧ Below w.heap.size w w' := reads_law s w he
end Go.Proofs.YtipccndoffcfiaaDoor.Script
