/- The walk of the law DiffTells answers true, whatever the lists and the steps. -/
import Derived.Test.YtniobphfbfnccaaDiffTellsP
import Derived.Test.YtniobphfbfnccaaDiffOpen
import Derived.Outline
namespace Go.Proofs.Ytniobphfbfnccaa.SeqS
open Go.RowKit Go.Shelf Go.Proofs.Ytniobphfbfnccaa.SeqM Go.Proofs.Ytniobphfbfnccaa.PRef Go.Proofs.YtniobphfbfnccaaW.PrintWords
attribute [local go_sem] Oper.semAt_some
set_option linter.unusedVariables false
set_option linter.unusedSimpArgs false

theorem awake_calls (w : World) : Calls Try.prog 9 #[] w fun e w' => e = .returned (.bool true) ∧ Below w.heap.size w w' := by
  obtain ⟨k, hk⟩ := DiffCommon.awake.rounds
  exact cortegelaw4_awake.calls k true w hk
theorem great_calls (A : Option Addr) (c : Nat) (l : List ByteArray) (w : World) (h : CellsT w A l) (hl : l.length ≤ 8796093022207) (hc : l.length ≤ c) : ∃ b, (b = false → l.length ≤ 40) ∧
    ∀ w', Below w.heap.size w w' → Calls Try.prog 8 #[.slice A l.length c, .int .i64 40, .int .i64 20] w' fun e w2 => e = .returned (.bool b) ∧ Below w'.heap.size w' w2 := by
  obtain ⟨b, hA, hb⟩ := DiffCommon.greatTexts l 40 20 (by omega)
  obtain ⟨k, hk⟩ := hA.rounds
  exact ⟨b, fun e => (hb e).1, fun w' hw => (cortegelaw0_GreatTexts.calls k A c l 40 20 b w' ((h.below hw).kd' hl) hc hk).mono fun e w' ⟨he, hd⟩ => ⟨he, Drawn0.below hd⟩⟩
/-- A row of the call's own. -/
def OwnV (e s : Nat) (W : World) (n₀ : Nat) (v : Value) (n : Nat) : Prop := ∃ xs, W.ownsRow n₀ e s v n xs
theorem OwnV.below {e s : Nat} {W W' : World} {n₀ : Nat} {v : Value} {n : Nat} (h : OwnV e s W n₀ v n) (hb : Below W.heap.size W W') : OwnV e s W' n₀ v n := by
  obtain ⟨xs, h⟩ := h
  exact ⟨xs, h.kept ⟨hb.os, hb.tape, hb.output, hb.size, fun k hk _ => hb.block k hk⟩ (row := none) (by cases hv : v.ownBlock <;> simp)⟩
theorem apart {W : World} {n₀ n₁ : Nat} {e e' : TypeId} {s s' : Nat} {v v' : Value} {n n' : Nat} {xs ys : List Value} (h : W.ownsRow n₀ e s v n xs) (h' : W.ownsRow n₁ e' s' v' n' ys) (he : e ≠ e') : v.ownBlock = none ∨ v.ownBlock ≠ v'.ownBlock := by
  rcases h.2 with ⟨rfl, _⟩ | ⟨g, cap, cur, rfl, _, hg, _⟩
  · exact .inl rfl
  · rcases h'.2 with ⟨rfl, _⟩ | ⟨g', cap', cur', rfl, _, hg', _⟩
    · exact .inr (by simp [Value.ownBlock])
    · refine .inr fun e' => ?_
      simp [Value.ownBlock] at e'
      subst e'
      rw [hg] at hg'
      cases hg'
      exact he rfl
theorem OwnV.turn {e s e' s' : Nat} {W W' : World} {n₀ n₁ : Nat} {v v' : Value} {n n' : Nat} (h : OwnV e s W n₀ v n) (h' : OwnV e' s' W n₁ v' n') (he : e ≠ e') (ht : TurnM (fun k => v'.ownBlock = some k) W W') : OwnV e s W' n₀ v n := by
  obtain ⟨xs, h⟩ := h
  obtain ⟨ys, h'⟩ := h'
  exact ⟨xs, h.kept ⟨ht.os, ht.tape, ht.output, ht.size, fun k hk hne => ht.block k hk (fun e => hne e.symm)⟩ (apart h h' he)⟩
theorem OwnV.ge {e s : Nat} {W W' : World} {n₀ : Nat} {v : Value} {n : Nat} (h : OwnV e s W n₀ v n) (hn : n₀ ≤ W.heap.size) (ht : TurnM (fun k => v.ownBlock = some k) W W') : Below n₀ W W' := by
  obtain ⟨xs, h⟩ := h
  refine ht.below hn (fun k _ e => ?_)
  rcases h.2 with ⟨rfl, _⟩ | ⟨g, cap, cur, rfl, hg, _⟩
  · simp [Value.ownBlock] at e
  · simp [Value.ownBlock] at e
    omega
theorem OwnV.ge' {e s m : Nat} {W W' : World} {n₀ : Nat} {v : Value} {n : Nat} (h : OwnV e s W n₀ v n) (hm : m ≤ n₀) (hn : m ≤ W.heap.size) (ht : TurnM (fun k => v.ownBlock = some k) W W') : Below m W W' := by
  obtain ⟨xs, h⟩ := h
  refine ht.below hn (fun k _ e => ?_)
  rcases h.2 with ⟨rfl, _⟩ | ⟨g, cap, cur, rfl, hg, _⟩
  · simp [Value.ownBlock] at e
  · simp [Value.ownBlock] at e
    omega
/-- What is kept from a world on. -/
def From (w0 W : World) : Prop := Below w0.heap.size w0 W
theorem From.below {w0 W W' : World} (h : From w0 W) (hb : Below W.heap.size W W') : From w0 W' := Below.trans h (hb.mono (Below.size h))
theorem Lent.ck {W : World} {g : Nat} {zs : List ByteArray} (h : Lent W g zs) (hl : zs.length ≤ 1000000) : CK Kd.string W (some ⟨g, 0, none⟩) (zs.length + 3) zs := ⟨h.cells.kd hl, by omega⟩
def TellsPost (w : World) (e : Ending) (w' : World) : Prop := e = .returned (.bool true) ∧ Below w.heap.size w w'
def GreatC (A : Option Addr) (c n : Nat) (b : Bool) (w : World) : Prop := ∀ w', Below w.heap.size w w' → Calls Try.prog 8 #[.slice A n c, .int .i64 40, .int .i64 20] w' fun e w2 => e = .returned (.bool b) ∧ Below w'.heap.size w' w2
set_option maxHeartbeats 8000000 in
set_option maxRecDepth 100000 in
theorem tells_long (A B D : Option Addr) (c d f : Nat) (na nb nd : Nat) (w : World) (b1 b2 : Bool) (h1 : GreatC A c na b1 w) (h2 : GreatC B d nb b2 w) (h : b1 = true ∨ b2 = true ∨ 30 < nd) :
    Calls Try.prog 3 #[.slice A na c, .slice B nb d, .slice D nd f] w (TellsPost w) := by
  have H1 := Lib.hid h1
  have H2 := Lib.hid h2
  clear h1 h2
  cases b1 with
  | true =>
    clear h
    go_enter Try.func3, Try.ntmps3
    go_wp2_with (first
      | (go_at_call 8; refine (H1.out _ (Below.refl _ _)).mono ?_; rintro e w2 ⟨rfl, hb⟩; have HB := Lib.hid hb; clear hb)
      | (go_at_call 9; refine (awake_calls _).mono ?_; rintro e w7 ⟨rfl, hB7⟩; have HB7 := Lib.hid hB7; clear hB7))
    go_ret
    exact ⟨rfl, HB.out.trans (HB7.out.mono HB.out.size)⟩
  | false =>
    cases b2 with
    | true =>
      clear h
      go_enter Try.func3, Try.ntmps3
      go_wp2_with fail
      refine (H1.out _ (Below.refl _ _)).mono ?_
      rintro e w2 ⟨rfl, hb⟩
      have HB := Lib.hid hb
      clear hb
      go_wp2_with fail
      refine (H2.out _ HB.out).mono ?_
      rintro e w3 ⟨rfl, hb⟩
      have HB3 := Lib.hid (HB.out.trans (hb.mono HB.out.size))
      clear hb
      go_wp2_with (go_at_call 9; refine (awake_calls _).mono ?_; rintro e w7 ⟨rfl, hB7⟩; have HB7 := Lib.hid hB7; clear hB7)
      go_ret
      exact ⟨rfl, HB3.out.trans (HB7.out.mono HB3.out.size)⟩
    | false =>
      have h3 : decide ((30 : Int) < (nd : Int)) = true := by
        rcases h with h | h | h
        · cases h
        · cases h
        · simp; omega
      clear h
      go_enter Try.func3, Try.ntmps3
      go_wp2_with fail
      refine (H1.out _ (Below.refl _ _)).mono ?_
      rintro e w2 ⟨rfl, hb⟩
      have HB := Lib.hid hb
      clear hb
      go_wp2_with fail
      refine (H2.out _ HB.out).mono ?_
      rintro e w3 ⟨rfl, hb⟩
      have HB3 := Lib.hid (HB.out.trans (hb.mono HB.out.size))
      clear hb
      go_wp2_with (go_at_call 9; refine (awake_calls _).mono ?_; rintro e w7 ⟨rfl, hB7⟩; have HB7 := Lib.hid hB7; clear hB7)
      go_ret
      exact ⟨rfl, HB3.out.trans (HB7.out.mono HB3.out.size)⟩
set_option maxHeartbeats 8000000 in
set_option maxRecDepth 100000 in
theorem tells_short (A B D : Option Addr) (c d f : Nat) (xs ys : List ByteArray) (st : List S40) (w : World) (hz : CellsT w A xs) (hz' : CellsT w B ys) (hnil : A = none → xs.length = 0 ∧ c = 0) (hnil' : B = none → ys.length = 0 ∧ d = 0) (hc : xs.length ≤ c) (hd : ys.length ≤ d)
    (hst : CK k40 w D f st) (h1 : GreatC A c xs.length false w) (h2 : GreatC B d ys.length false w) (hl : xs.length ≤ 40) (hl' : ys.length ≤ 40) (hn : st.length ≤ 30) :
    Calls Try.prog 3 #[.slice A xs.length c, .slice B ys.length d, .slice D st.length f] w (TellsPost w) := by
  have h3 : decide ((30 : Int) < (st.length : Int)) = false := by simp; omega
  have H1 := Lib.hid h1
  have H2 := Lib.hid h2
  have HF := Lib.hid (Tells.facts xs ys st hl hl' hn)
  have HX := Lib.hid hz
  have HY := Lib.hid hz'
  have HSt := Lib.hid hst
  have hx1 : xs.length ≤ 1000000 := by omega
  have hy1 : ys.length ≤ 1000000 := by omega
  clear h1 h2 hz hz' hst
  go_enter Try.func3, Try.ntmps3
  go_wp2_with fail
  refine (H1.out _ (Below.refl _ _)).mono ?_
  rintro e w0 ⟨rfl, hb⟩
  have HB := Lib.hid hb
  clear hb
  go_wp2_with fail
  refine (H2.out _ HB.out).mono ?_
  rintro e w1 ⟨rfl, hb⟩
  replace HB := Lib.hid (HB.out.trans (hb.mono HB.out.size))
  clear hb
  replace HX := Lib.hid (HX.out.below HB.out)
  replace HY := Lib.hid (HY.out.below HB.out)
  replace HSt := Lib.hid (HSt.out.below HB.out)
  clear H1 H2
  obtain ⟨n, P, S, r1, r2, k1, k2, k3, k4, k5, k6, k7, k8, k9, k10, k11, f1, f2, f3, f4, f5, f6, f7, f8, f9, f10, f11, hSl, hrl⟩ := HF.out
  have F1 := Lib.hid f1
  have F2 := Lib.hid f2
  have F3 := Lib.hid f3
  have F4 := Lib.hid f4
  have F5 := Lib.hid f5
  have F6 := Lib.hid f6
  have F7 := Lib.hid f7
  have F8 := Lib.hid f8
  have F9 := Lib.hid f9
  have F10 := Lib.hid f10
  have F11 := Lib.hid f11
  clear f1 f2 f3 f4 f5 f6 f7 f8 f9 f10 f11 HF
  go_wp2_with fail
  refine (lend_calls _ A c xs (by omega) HX.out hnil).mono ?_
  rintro e w2 ⟨rfl, hLe, hb⟩
  obtain ⟨gx, hgx⟩ : ∃ gx, gx = w1.heap.size := ⟨_, rfl⟩
  rw [← hgx] at hLe ⊢
  have hLe : Lent w2 gx xs := hLe
  clear hgx
  replace HX := Lib.hid (HX.out.below hb)
  replace HY := Lib.hid (HY.out.below hb)
  replace HSt := Lib.hid (HSt.out.below hb)
  replace HB := Lib.hid (HB.out.trans (hb.mono HB.out.size))
  have HLx := Lib.hid hLe
  clear hb hLe
  go_wp2_with fail
  refine (lend_calls _ B d ys (by omega) HY.out hnil').mono ?_
  rintro e w3 ⟨rfl, hLe, hb⟩
  obtain ⟨gy, hgy⟩ : ∃ gy, gy = w2.heap.size := ⟨_, rfl⟩
  rw [← hgy] at hLe ⊢
  have hLe : Lent w3 gy ys := hLe
  clear hgy
  replace HX := Lib.hid (HX.out.below hb)
  replace HY := Lib.hid (HY.out.below hb)
  replace HSt := Lib.hid (HSt.out.below hb)
  replace HLx := Lib.hid (HLx.out.below hb)
  replace HB := Lib.hid (HB.out.trans (hb.mono HB.out.size))
  have HLy := Lib.hid hLe
  clear hb hLe
  have HA := Lib.hid (CK.mk' HX.out hx1 hc)
  have HBb := Lib.hid (CK.mk' HY.out hy1 hd)
  have HXc := Lib.hid (HLx.out.ck hx1)
  have HYc := Lib.hid (HLy.out.ck hy1)
  have HLx0 := HLx
  have HLy0 := HLy
  have HX0 := HX
  have HY0 := HY
  clear HLx HLy HX HY
  have HFr : Hid (From w3 w3) := Lib.hid (Below.refl _ _)
  have hw3 : w.heap.size ≤ w3.heap.size := HB.out.size
  go_wp2_with fail
  refine (diff_Steps_string.calls k1 (some ⟨gx, 0, none⟩) (xs.length + 3) xs (some ⟨gy, 0, none⟩) (ys.length + 3) ys S _ HXc.out.1 HXc.out.2 HYc.out.1 HYc.out.2 F1.out).mono ?_
  rintro e w4 ⟨v, rfl, hr, hb⟩
  have hO : OwnV 40 3 w4 w3.heap.size v S.length := Kd.R_own hr
  obtain ⟨A4, c4, rfl, hC⟩ := ck_of_R hr
  clear hr
  replace HA := Lib.hid (HA.out.below hb)
  replace HBb := Lib.hid (HBb.out.below hb)
  replace HXc := Lib.hid (HXc.out.below hb)
  replace HYc := Lib.hid (HYc.out.below hb)
  replace HSt := Lib.hid (HSt.out.below hb)
  replace HFr := Lib.hid (HFr.out.below hb)
  replace HB := Lib.hid (HB.out.trans (hb.mono HB.out.size))
  have HC4 := Lib.hid hC
  have HO4 := Lib.hid hO
  clear hb hC hO
  go_wp2_with fail
  refine (diff_Apply_string.calls k3 (some ⟨gx, 0, none⟩) (xs.length + 3) xs (some ⟨gy, 0, none⟩) (ys.length + 3) ys D f st r1 r2 _ HXc.out.1 HXc.out.2 HYc.out.1 HYc.out.2 HSt.out.1 HSt.out.2 F3.out).mono ?_
  rintro e w5 ⟨v, rfl, hr, hb⟩
  have hO : OwnV 9 1 w5 w4.heap.size v r1.length := Kd.R_own hr
  obtain ⟨A5, c5, rfl, hC⟩ := ck_of_R hr
  have hw4 : w3.heap.size ≤ w4.heap.size := HFr.out.size
  clear hr
  replace HA := Lib.hid (HA.out.below hb)
  replace HBb := Lib.hid (HBb.out.below hb)
  replace HXc := Lib.hid (HXc.out.below hb)
  replace HYc := Lib.hid (HYc.out.below hb)
  replace HSt := Lib.hid (HSt.out.below hb)
  replace HFr := Lib.hid (HFr.out.below hb)
  replace HC4 := Lib.hid (HC4.out.below hb)
  replace HO4 := Lib.hid (HO4.out.below hb)
  replace HB := Lib.hid (HB.out.trans (hb.mono HB.out.size))
  have HC5 := Lib.hid hC
  have HO5 := Lib.hid hO
  clear hb hC hO
  go_wp2_with fail
  refine (cortegeref4_Apply.calls k4 A c xs B d ys D f st r1 r2 _ HA.out.1 HA.out.2 HBb.out.1 HBb.out.2 HSt.out.1 HSt.out.2 F4.out).mono ?_
  rintro e w6 ⟨v, rfl, hr, hb⟩
  obtain ⟨A6, c6, rfl, hC⟩ := ck_of_R hr
  clear hr
  replace HA := Lib.hid (HA.out.below hb)
  replace HBb := Lib.hid (HBb.out.below hb)
  replace HXc := Lib.hid (HXc.out.below hb)
  replace HYc := Lib.hid (HYc.out.below hb)
  replace HFr := Lib.hid (HFr.out.below hb)
  replace HC4 := Lib.hid (HC4.out.below hb)
  replace HO4 := Lib.hid (HO4.out.below hb)
  replace HC5 := Lib.hid (HC5.out.below hb)
  replace HO5 := Lib.hid (HO5.out.below hb)
  replace HB := Lib.hid (HB.out.trans (hb.mono HB.out.size))
  have HC6 := Lib.hid hC
  clear hb hC HSt
  go_wp2_with fail
  refine (diff_Length_string.calls k5 (some ⟨gx, 0, none⟩) (xs.length + 3) xs (some ⟨gy, 0, none⟩) (ys.length + 3) ys n _ HXc.out.1 HXc.out.2 HYc.out.1 HYc.out.2 F5.out).mono ?_
  rintro e w7 ⟨rfl, hb⟩
  replace HA := Lib.hid (HA.out.below hb)
  replace HBb := Lib.hid (HBb.out.below hb)
  replace HXc := Lib.hid (HXc.out.below hb)
  replace HYc := Lib.hid (HYc.out.below hb)
  replace HFr := Lib.hid (HFr.out.below hb)
  replace HC4 := Lib.hid (HC4.out.below hb)
  replace HO4 := Lib.hid (HO4.out.below hb)
  replace HC5 := Lib.hid (HC5.out.below hb)
  replace HO5 := Lib.hid (HO5.out.below hb)
  replace HC6 := Lib.hid (HC6.out.below hb)
  replace HB := Lib.hid (HB.out.trans (hb.mono HB.out.size))
  clear hb
  go_wp2_with fail
  refine (cortegeref4_Length.calls k6 A c xs B d ys n _ HA.out.1 HA.out.2 HBb.out.1 HBb.out.2 F6.out).mono ?_
  rintro e w8 ⟨rfl, hb⟩
  replace HA := Lib.hid (HA.out.below hb)
  replace HBb := Lib.hid (HBb.out.below hb)
  replace HXc := Lib.hid (HXc.out.below hb)
  replace HYc := Lib.hid (HYc.out.below hb)
  replace HFr := Lib.hid (HFr.out.below hb)
  replace HC4 := Lib.hid (HC4.out.below hb)
  replace HO4 := Lib.hid (HO4.out.below hb)
  replace HC5 := Lib.hid (HC5.out.below hb)
  replace HO5 := Lib.hid (HO5.out.below hb)
  replace HC6 := Lib.hid (HC6.out.below hb)
  replace HB := Lib.hid (HB.out.trans (hb.mono HB.out.size))
  clear hb
  go_wp2_with fail
  refine (diff_Pairs_string.calls k7 (some ⟨gx, 0, none⟩) (xs.length + 3) xs (some ⟨gy, 0, none⟩) (ys.length + 3) ys P _ HXc.out.1 HXc.out.2 HYc.out.1 HYc.out.2 F7.out).mono ?_
  rintro e w9 ⟨v, rfl, hr, hb⟩
  obtain ⟨A9, c9, rfl, hC⟩ := ck_of_R hr
  clear hr
  replace HA := Lib.hid (HA.out.below hb)
  replace HBb := Lib.hid (HBb.out.below hb)
  replace HFr := Lib.hid (HFr.out.below hb)
  replace HC4 := Lib.hid (HC4.out.below hb)
  replace HO4 := Lib.hid (HO4.out.below hb)
  replace HC5 := Lib.hid (HC5.out.below hb)
  replace HO5 := Lib.hid (HO5.out.below hb)
  replace HC6 := Lib.hid (HC6.out.below hb)
  replace HB := Lib.hid (HB.out.trans (hb.mono HB.out.size))
  have HC9 := Lib.hid hC
  clear hb hC HXc HYc
  go_wp2_with fail
  refine (cortegeref4_Pairs.calls k8 A c xs B d ys P _ HA.out.1 HA.out.2 HBb.out.1 HBb.out.2 F8.out).mono ?_
  rintro e w10 ⟨v, rfl, hr, hb⟩
  obtain ⟨A10, c10, rfl, hC⟩ := ck_of_R hr
  clear hr
  replace HA := Lib.hid (HA.out.below hb)
  replace HBb := Lib.hid (HBb.out.below hb)
  replace HFr := Lib.hid (HFr.out.below hb)
  replace HC4 := Lib.hid (HC4.out.below hb)
  replace HO4 := Lib.hid (HO4.out.below hb)
  replace HC5 := Lib.hid (HC5.out.below hb)
  replace HO5 := Lib.hid (HO5.out.below hb)
  replace HC6 := Lib.hid (HC6.out.below hb)
  replace HC9 := Lib.hid (HC9.out.below hb)
  replace HB := Lib.hid (HB.out.trans (hb.mono HB.out.size))
  have HC10 := Lib.hid hC
  clear hb hC
  go_wp2_with fail
  refine (cortegelaw4_samePairs.calls k9 A9 c9 P A10 c10 P true _ HC9.out.1 HC9.out.2 HC10.out.1 HC10.out.2 F9.out).mono ?_
  rintro e w11 ⟨rfl, hd⟩
  have hb := Drawn0.below hd
  clear hd
  replace HA := Lib.hid (HA.out.below hb)
  replace HBb := Lib.hid (HBb.out.below hb)
  replace HFr := Lib.hid (HFr.out.below hb)
  replace HC4 := Lib.hid (HC4.out.below hb)
  replace HO4 := Lib.hid (HO4.out.below hb)
  replace HC5 := Lib.hid (HC5.out.below hb)
  replace HO5 := Lib.hid (HO5.out.below hb)
  replace HC6 := Lib.hid (HC6.out.below hb)
  replace HB := Lib.hid (HB.out.trans (hb.mono HB.out.size))
  clear hb HC9 HC10
  go_wp2_with fail
  refine (cortegeref4_Steps.calls k2 A c xs B d ys S _ HA.out.1 HA.out.2 HBb.out.1 HBb.out.2 F2.out).mono ?_
  rintro e w12 ⟨v, rfl, hr, hb⟩
  obtain ⟨A12, c12, rfl, hC⟩ := ck_of_R hr
  clear hr
  replace HFr := Lib.hid (HFr.out.below hb)
  replace HC4 := Lib.hid (HC4.out.below hb)
  replace HO4 := Lib.hid (HO4.out.below hb)
  replace HC5 := Lib.hid (HC5.out.below hb)
  replace HO5 := Lib.hid (HO5.out.below hb)
  replace HC6 := Lib.hid (HC6.out.below hb)
  replace HB := Lib.hid (HB.out.trans (hb.mono HB.out.size))
  have HC12 := Lib.hid hC
  clear hb hC HA HBb
  go_wp2_with fail
  refine (cortegelaw0_SameSteps.calls k10 A4 c4 S A12 c12 S true _ HC4.out.1 HC4.out.2 HC12.out.1 HC12.out.2 F10.out).mono ?_
  rintro e w13 ⟨rfl, hd⟩
  have hb := Drawn0.below hd
  clear hd
  replace HFr := Lib.hid (HFr.out.below hb)
  replace HO4 := Lib.hid (HO4.out.below hb)
  replace HC5 := Lib.hid (HC5.out.below hb)
  replace HO5 := Lib.hid (HO5.out.below hb)
  replace HC6 := Lib.hid (HC6.out.below hb)
  replace HB := Lib.hid (HB.out.trans (hb.mono HB.out.size))
  clear hb HC4 HC12
  go_wp2_with fail
  refine (cortegelaw0_SameTexts.calls k11 A5 c5 r1 A6 c6 r1 true _ HC5.out.1 HC5.out.2 HC6.out.1 HC6.out.2 F11.out).mono ?_
  rintro e w14 ⟨rfl, hd⟩
  have hb := Drawn0.below hd
  clear hd
  replace HFr := Lib.hid (HFr.out.below hb)
  replace HO4 := Lib.hid (HO4.out.below hb)
  replace HO5 := Lib.hid (HO5.out.below hb)
  replace HB := Lib.hid (HB.out.trans (hb.mono HB.out.size))
  clear hb HC5 HC6
  go_wp2_with fail
  obtain ⟨zs4, ho4⟩ := HO4.out
  refine (overS_any _ _ _ _ zs4 hSl ho4).mono ?_
  rintro e w15 ⟨⟨v, rfl⟩, ht⟩
  have hb15 : Below w3.heap.size w14 w15 := HO4.out.ge HFr.out.size ht
  replace HO5 := Lib.hid (HO5.out.turn HO4.out (by decide) ht)
  replace HB := Lib.hid (HB.out.trans (hb15.mono hw3))
  replace HFr : Hid (From w3 w15) := Lib.hid (Below.trans HFr.out hb15)
  clear ht hb15 ho4 HO4
  go_wp2_with fail
  obtain ⟨zs5, ho5⟩ := HO5.out
  refine (overT_any _ _ _ _ zs5 hrl ho5).mono ?_
  rintro e w16 ⟨⟨v', rfl⟩, ht⟩
  have hb16 : Below w3.heap.size w15 w16 := HO5.out.ge' hw4 (Below.size HFr.out) ht
  replace HB := Lib.hid (HB.out.trans (hb16.mono hw3))
  replace HFr : Hid (From w3 w16) := Lib.hid (Below.trans HFr.out hb16)
  clear ht hb16 ho5 HO5
  go_wp2_with fail
  refine (kept_calls _ gx A c xs hx1 (HLx0.out.below HFr.out) (HX0.out.below HFr.out) hc).mono ?_
  rintro e w17 ⟨rfl, hb⟩
  replace HFr := Lib.hid (HFr.out.below hb)
  replace HB := Lib.hid (HB.out.trans (hb.mono HB.out.size))
  clear hb
  go_wp2_with fail
  refine (kept_calls _ gy B d ys hy1 (HLy0.out.below HFr.out) (HY0.out.below HFr.out) hd).mono ?_
  rintro e w18 ⟨rfl, hb⟩
  replace HFr := Lib.hid (HFr.out.below hb)
  replace HB := Lib.hid (HB.out.trans (hb.mono HB.out.size))
  clear hb
  go_wp2_with fail
  refine (awake_calls _).mono ?_
  rintro e w19 ⟨rfl, hb⟩
  replace HFr := Lib.hid (HFr.out.below hb)
  replace HB := Lib.hid (HB.out.trans (hb.mono HB.out.size))
  clear hb
  go_wp2
  go_ret
  exact ⟨rfl, HB.out⟩
theorem tells_law (A : Option Addr) (c : Nat) (xs : List ByteArray) (B : Option Addr) (d : Nat) (ys : List ByteArray) (D : Option Addr) (f : Nat) (st : List S40) (w : World)
    (hz : CellsT w A xs) (hnil : A = none → xs.length = 0 ∧ c = 0) (hc : xs.length ≤ c) (hb : xs.length * 16 ≤ 140737488351232) (hz' : CellsT w B ys) (hnil' : B = none → ys.length = 0 ∧ d = 0) (hd : ys.length ≤ d) (hb' : ys.length * 16 ≤ 140737488351232) (hst : CK k40 w D f st) :
    Calls Try.prog 3 #[.slice A xs.length c, .slice B ys.length d, .slice D st.length f] w fun e w' => e = .returned (.bool true) ∧ Below w.heap.size w w' := by
  obtain ⟨b1, g1, h1⟩ := great_calls A c xs w hz (by omega) hc
  obtain ⟨b2, g2, h2⟩ := great_calls B d ys w hz' (by omega) hd
  by_cases h : b1 = true ∨ b2 = true ∨ 30 < st.length
  · exact tells_long A B D c d f _ _ _ w b1 b2 h1 h2 h
  · have e1 : b1 = false := by cases b1 with | false => rfl | true => exact absurd (.inl rfl) h
    have e2 : b2 = false := by cases b2 with | false => rfl | true => exact absurd (.inr (.inl rfl)) h
    subst e1 e2
    exact tells_short A B D c d f xs ys st w hz hz' hnil hnil' hc hd hst h1 h2 (g1 rfl) (g2 rfl) (by omega)
end Go.Proofs.Ytniobphfbfnccaa.SeqS
