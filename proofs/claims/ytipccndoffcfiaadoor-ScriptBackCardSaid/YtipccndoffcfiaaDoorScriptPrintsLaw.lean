/- ScriptPrints' law, as it is called. -/
import Derived.Test.YtipccndoffcfiaaDoorScriptRefPrint
import Derived.Test.YtipccndoffcfiaaDoorScriptOpen
import Derived.Test.YtipccndoffcfiaaDoorScriptE
namespace Go.Proofs.YtipccndoffcfiaaDoor.Script
open Go.RowKit Go.IntWalk Go.Proofs.YtipccndoffcfiaaDoor.PRef Go.Proofs.YtipccndoffcfiaaDoorW.PrintWords Go.Proofs.YtipccndoffcfiaaDoorW.PrintLast Go.Proofs.YtipccndoffcfiaaDoor.Rounds
attribute [local go_sem] Oper.semAt_some
set_option linter.unusedVariables false
set_option linter.unusedSimpArgs false
/-- Events that are too many, or too great. -/
def greatP (es : List S47) : Bool := decide (150 < es.length) || es.any fun e => decide (1000 < e.f2.size)
theorem rd_at (es : List S47) (i : Nat) (h : i < es.length) : rd_T47 es (i : Int) = es[i] := by
  simp [rd_T47, List.getD_eq_getElem?_getD, h]
theorem great_long (es : List S47) (h : 150 < es.length) : At (fun k => cortegelaw0_GreatEvents.f k es 150) true := by
  refine ⟨2, 0, fun k _ => ?_⟩
  show cortegelaw0_GreatEvents.l0 (k + 1 + 1) es 150 0 = _
  rw [cortegelaw0_GreatEvents.l0, if_pos (by omega), decide_eq_false (by omega : ¬ (es.length : Int) ≤ 150), cortegelaw0_GreatEvents.j1, if_neg (by decide), decide_eq_true (by omega : (es.length : Int) > 150)]
theorem great_loop (es : List S47) (h : es.length ≤ 150) : ∀ (d i : Nat), i + d = es.length → At (fun k => cortegelaw0_GreatEvents.l0 k es 150 (i : Int)) ((es.drop i).any fun e => decide (1000 < e.f2.size))
  | 0, i, hi => by
    rw [List.drop_of_length_le (by omega)]
    refine ⟨2, 0, fun k _ => ?_⟩
    show cortegelaw0_GreatEvents.l0 (k + 1 + 1) es 150 i = _
    rw [cortegelaw0_GreatEvents.l0, if_neg (by omega), cortegelaw0_GreatEvents.j1, if_neg (by decide), decide_eq_false (by omega : ¬ (es.length : Int) > 150)]
    rfl
  | d + 1, i, hi => by
    have hlt : i < es.length := by omega
    rw [List.drop_eq_getElem_cons hlt, List.any_cons]
    by_cases hb : 1000 < es[i].f2.size
    · rw [decide_eq_true hb, Bool.true_or]
      refine ⟨2, 0, fun k _ => ?_⟩
      show cortegelaw0_GreatEvents.l0 (k + 1 + 1) es 150 i = _
      rw [cortegelaw0_GreatEvents.l0, if_pos (by omega), decide_eq_true (by omega : (es.length : Int) ≤ 150), cortegelaw0_GreatEvents.j1, if_pos rfl, if_pos (by omega), if_pos (by omega), rd_at es i hlt, if_pos (by omega)]
    · rw [decide_eq_false hb, Bool.false_or]
      refine To.trans (h := fun k => cortegelaw0_GreatEvents.j1 k es 150 (i : Int) true) (To.step (fun k => ?_)) (To.trans (h := fun k => cortegelaw0_GreatEvents.l0 k es 150 ((i + 1 : Nat) : Int)) (To.step (fun k => ?_)) (great_loop es h d (i + 1) (by omega)))
      · show cortegelaw0_GreatEvents.l0 (k + 1) es 150 i = _
        rw [cortegelaw0_GreatEvents.l0, if_pos (by omega), decide_eq_true (by omega : (es.length : Int) ≤ 150)]
      · show cortegelaw0_GreatEvents.j1 (k + 1) es 150 i true = _
        rw [cortegelaw0_GreatEvents.j1, if_pos rfl, if_pos (by omega), if_pos (by omega), rd_at es i hlt, if_neg (by omega), w1 (by omega)]
theorem great_at (es : List S47) : ∃ k, cortegelaw0_GreatEvents.f k es 150 = some (greatP es) := by
  refine At.rounds ?_
  unfold greatP
  by_cases h : 150 < es.length
  · rw [decide_eq_true h, Bool.true_or]
    exact great_long es h
  · rw [decide_eq_false h, Bool.false_or]
    exact great_loop es (by omega) es.length 0 (by omega)
theorem great_calls (A : Option Addr) (c : Nat) (es : List S47) (w : World) (h : EvX w A c es) : Calls Tryd.prog 19 #[.slice A es.length c, .int .i64 150] w fun e w' => e = .returned (.bool (greatP es)) ∧ Below w.heap.size w w' := by
  obtain ⟨k, hk⟩ := great_at es
  refine (cortegelaw0_GreatEvents.calls k A c es 150 _ w h.1 h.2.1 hk).mono ?_
  rintro e w' ⟨rfl, hd⟩
  exact ⟨rfl, drawn0_below hd⟩
theorem small_of {es : List S47} (h : greatP es = false) : es.length ≤ 150 ∧ ∀ e ∈ es, e.f2.size ≤ 1000 := by
  unfold greatP at h
  rw [Bool.or_eq_false_iff] at h
  obtain ⟨h1, h2⟩ := h
  refine ⟨by have := of_decide_eq_false h1; omega, fun e he => ?_⟩
  have := List.any_eq_false.1 h2 e he
  simp at this
  omega
theorem EvX.below {W W' : World} {A : Option Addr} {c : Nat} {l : List S47} (h : EvX W A c l) (hb : Below W.heap.size W W') : EvX W' A c l := ⟨Kd.C_below h.1 hb, h.2⟩
theorem EvX.ok {W : World} {A : Option Addr} {c : Nat} {l : List S47} (h : EvX W A c l) (hg : ∀ e ∈ l, e.f2.size ≤ 1000) : ∀ e ∈ l, EvOk e := fun e he => ⟨Nat.le_trans (hg e he) (by omega), h.2.2 e he⟩
set_option maxHeartbeats 8000000 in
set_option maxRecDepth 100000 in
theorem prints_law (c0 c1 c2 c3 c4 : Int) (A : Option Addr) (cap : Nat) (es : List S47) (w : World) (hcs : ∀ n ∈ [c0, c1, c2, c3, c4], i64 n) (hx : EvX w A cap es) (he : Env w) :
    Calls Tryd.prog 6 #[.agg #[.int .i64 c0, .int .i64 c1, .int .i64 c2, .int .i64 c3, .int .i64 c4], .slice A es.length cap] w fun e w' => e = .returned (.bool true) ∧ Below w.heap.size w w' := by
  have hb0 := below_push w (.cells #[.int .i64 c0, .int .i64 c1, .int .i64 c2, .int .i64 c3, .int .i64 c4] 28)
  have HX0 := Lib.hid (hx.below hb0)
  have HE0 := Lib.hid (he.below hb0)
  have HB0 := Lib.hid hb0
  have hC0 := ptrs_alloc w 0 28 [.int .i64 c0, .int .i64 c1, .int .i64 c2, .int .i64 c3, .int .i64 c4]
  have HC0 := Lib.hid hC0
  have HCS := Lib.hid hcs
  clear hb0 hx he hC0 hcs
  go_enter Tryd.func6, Tryd.ntmps6
  go_wp2_with fail
  refine (great_calls A cap es _ HX0.out).mono ?_
  rintro e w1 ⟨rfl, hb1⟩
  have HX1 := Lib.hid (HX0.out.below hb1)
  have HE1 := Lib.hid (HE0.out.below hb1)
  have HC1 := Lib.hid (HC0.out.below hb1)
  have HB1 := Lib.hid (then_below HB0.out hb1)
  clear hb1 HX0 HE0 HC0 HB0
  cases hg : greatP es with
  | true =>
    go_wp2_with fail
    refine (awake_calls _ HE1.out).mono ?_
    rintro e w2 ⟨rfl, hb⟩
    have HB2 := Lib.hid (then_below HB1.out hb)
    clear hb
    go_wp2_with fail
    go_ret
    exact ⟨rfl, HB2.out⟩
  | false =>
    obtain ⟨hl, hs⟩ := small_of hg
    have HS := Lib.hid hs
    clear hg hs
    obtain ⟨x0, x1, x2, x3, x4, xf⟩ := blk_five HC1.out
    go_wp2_with fail
    refine (print_calls c0 c1 c2 c3 c4 A cap es w1 HX1.out.1 HX1.out.2.1 (by omega) (HX1.out.ok HS.out) HCS.out HE1.out).mono ?_
    rintro e w2 ⟨rfl, hb2⟩
    have HX2 := Lib.hid (HX1.out.below hb2)
    have HE2 := Lib.hid (HE1.out.below hb2)
    have HC2 := Lib.hid (HC1.out.below hb2)
    have HB2 := Lib.hid (then_below HB1.out hb2)
    clear hb2 x0 x1 x2 x3 x4 xf HX1 HE1 HC1 HB1
    obtain ⟨x0, x1, x2, x3, x4, xf⟩ := blk_five HC2.out
    have HRP := Lib.hid (refprint_calls c0 c1 c2 c3 c4 A cap es w2 HX2.out.1 HX2.out.2.1 (by omega) (HX2.out.ok HS.out) HCS.out)
    generalize printP [c0, c1, c2, c3, c4] es = P at HRP ⊢
    obtain ⟨tx, r⟩ := P
    simp only at HRP ⊢
    go_wp2_with fail
    refine HRP.out.mono ?_
    rintro e w3 ⟨rfl, hb3⟩
    have HE3 := Lib.hid (HE2.out.below hb3)
    have HB3 := Lib.hid (then_below HB2.out hb3)
    clear hb3 x0 x1 x2 x3 x4 xf HX2 HE2 HC2 HB2 HRP
    go_wp2_with fail
    refine (num_calls r w3).mono ?_
    rintro e w4 ⟨rfl, hb4⟩
    have HE4 := Lib.hid (HE3.out.below hb4)
    have HB4 := Lib.hid (then_below HB3.out hb4)
    clear hb4 HE3 HB3
    go_wp2_with fail
    refine (awake_calls _ HE4.out).mono ?_
    rintro e w5 ⟨rfl, hb5⟩
    have HB5 := Lib.hid (then_below HB4.out hb5)
    clear hb5
    go_wp2_with fail
    go_ret
    exact ⟨rfl, HB5.out⟩
end Go.Proofs.YtipccndoffcfiaaDoor.Script
