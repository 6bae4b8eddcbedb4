/- The document's own Same, loose and places, as they are called. -/
import Derived.Test.YthghpmnbnfbheaaThreeRefRun
import Derived.Test.YthghpmnbnfbheaaPRefx6
import Derived.WalkSpells
namespace Go.Proofs.Ythghpmnbnfbheaa.SeqS
open Go.RowKit Go.Shelf Go.Proofs.Ythghpmnbnfbheaa.SeqM Go.Proofs.Ythghpmnbnfbheaa.PRef Go.Proofs.YthghpmnbnfbheaaW.PrintWords Go.Proofs.YthghpmnbnfbheaaW.PrintLast Go.Proofs.YthghpmnbnfbheaaW.PrintMore Go.Proofs.Ythghpmnbnfbheaa.Lcs
attribute [local go_sem] Oper.semAt_some
set_option linter.unusedVariables false
set_option linter.unusedSimpArgs false
open ThreeString (PV Rd)
theorem w1d {i : Nat} (h : i ≤ 1000000) : wrap64 ((i : Int) + 1) = ((i + 1 : Nat) : Int) := by unfold wrap64; omega
/-- The document's Same, plainly. -/
theorem sameDoc_ev (a b : List ByteArray) (hl : a.length ≤ 1000000) : ∃ k, cortegeref4_Same.f k a b = some (decide (a = b)) := by
  by_cases hab : a.length = b.length
  · have key : ∀ (d i : Nat), i + d = a.length → ∀ k, d < k → cortegeref4_Same.l0 k a b (i : Int) = some (decide (a.drop i = b.drop i)) := by
      intro d
      induction d with
      | zero =>
        intro i hi k hk
        obtain ⟨k, rfl⟩ : ∃ m, k = m + 1 := ⟨k - 1, by omega⟩
        simp only [cortegeref4_Same.l0]
        rw [if_neg (by omega), List.drop_eq_nil_of_le (by omega), List.drop_eq_nil_of_le (by omega)]
        simp
      | succ d ih =>
        intro i hi k hk
        obtain ⟨k, rfl⟩ : ∃ m, k = m + 1 := ⟨k - 1, by omega⟩
        simp only [cortegeref4_Same.l0]
        have h1 : i < a.length := by omega
        have h2 : i < b.length := by omega
        rw [if_pos (by omega), if_pos (by omega), if_pos (by omega), List.drop_eq_getElem_cons h1, List.drop_eq_getElem_cons h2]
        have hc := ThreeString.eqAt a b i h1 h2
        by_cases he : a[i] = b[i]
        · rw [if_pos (hc.2 he), w1d (by omega), ih (i + 1) (by omega) k (by omega)]
          exact congrArg some (decide_eq_decide.2 ⟨fun h => by rw [he, h], fun h => (List.cons.inj h).2⟩)
        · rw [if_neg (fun e => he (hc.1 e)), decide_eq_false (fun e => he (List.cons.inj e).1)]
    refine ⟨a.length + 1, ?_⟩
    unfold cortegeref4_Same.f
    rw [if_pos (by omega)]
    have := key a.length 0 (by omega) (a.length + 1) (by omega)
    simpa using this
  · refine ⟨0, ?_⟩
    unfold cortegeref4_Same.f
    rw [if_neg (by omega), decide_eq_false (fun e => hab (by rw [e]))]
theorem same_doc (A B : Option Addr) (c d : Nat) (a b : List ByteArray) (w : World) (ha : TX w A c a) (hb : TX w B d b) (h : a.length ≤ 1000000) (r : Bool) (hr : r = decide (a = b)) :
    Calls Try.prog 33 #[.slice A a.length c, .slice B b.length d] w fun e w' => e = .returned (.bool r) ∧ ∃ n, w' = w.drewN n := by
  obtain ⟨k, hk⟩ := sameDoc_ev a b h
  subst hr
  exact (cortegeref4_Same.calls k A c a B d b _ w ha.1 ha.2 hb.1 hb.2 hk).mono fun e w' ⟨he, hw⟩ => ⟨he, hw.out⟩
/-- places: a row of numbers of its own. -/
def PlPost (l : List Int) (w : World) (e : Ending) (w' : World) : Prop := ∃ A c, e = .returned (.slice A l.length c) ∧ Kd.C (Kd.int .i64) w' A l.length l ∧ l.length ≤ c ∧ Below w.heap.size w w'
theorem places_calls (A B : Option Addr) (c d : Nat) (a b : List ByteArray) (w : World) (ha : TX w A c a) (hb : TX w B d b) (h0 : a.length ≤ 400) (h1 : b.length ≤ 400) :
    Calls Try.prog 38 #[.slice A a.length c, .slice B b.length d] w (PlPost (RefRun.plList a b) w) := by
  obtain ⟨k, hk⟩ := (RefRun.places a b h0 h1).rounds
  refine (cortegeref5_places.calls k A c a B d b _ w ha.1 ha.2 hb.1 hb.2 hk).mono ?_
  rintro e w' ⟨v, rfl, hR, hB⟩
  obtain ⟨A', c', rfl⟩ := Kd.R_slice hR
  exact ⟨A', c', rfl, (Kd.R_reads' hR).2.2, (Kd.R_reads' hR).2.1, hB⟩
theorem alloc_drew (w : World) (o : Obj) (n : Nat) : ((w.alloc o).drewN n).heap[w.heap.size]? = some o := by
  show (w.heap.push o)[w.heap.size]? = _
  simp
theorem infoD4 : (Try.prog.info? 45).map (·.size) = some 4 := by kernel_rfl
def LoosePost (c : Bool) (v1 v2 v3 : Value) (w : World) (e : Ending) (w' : World) : Prop := e = .returned (.agg #[.bool c, v1, v2, v3]) ∧ Below w.heap.size w w'
set_option maxHeartbeats 8000000 in
set_option maxRecDepth 100000 in
attribute [local go_sem] ThreeString.alloc_drewN ThreeString.setCell_drewN' in
theorem loose_calls (A B D : Option Addr) (c d f : Nat) (O P Q : List ByteArray) (w : World) (ho : TX w A c O) (ha : TX w B d P) (hb : TX w D f Q) (lO : O.length ≤ 1000000) (lP : P.length ≤ 1000000) (lQ : Q.length ≤ 1000000) :
    Calls Try.prog 39 #[.slice A O.length c, .slice B P.length d, .slice D Q.length f] w (LoosePost (Three.clash O P Q) (.slice A O.length c) (.slice B P.length d) (.slice D Q.length f) w) := by
  obtain ⟨t1, ht1⟩ : ∃ r, r = decide (O = P) := ⟨_, rfl⟩
  obtain ⟨t2, ht2⟩ : ∃ r, r = decide (O = Q) := ⟨_, rfl⟩
  obtain ⟨t3, ht3⟩ : ∃ r, r = decide (P = Q) := ⟨_, rfl⟩
  have hc : Three.clash O P Q = (!t1 && !t2 && !t3) := by
    unfold Three.clash
    have e1 : decide (P = O) = t1 := by rw [ht1]; exact decide_eq_decide.2 eq_comm
    have e2 : decide (Q = O) = t2 := by rw [ht2]; exact decide_eq_decide.2 eq_comm
    rw [e1, e2, ← ht3]
    cases t1 <;> cases t2 <;> cases t3 <;> rfl
  rw [hc]
  clear hc
  have HO := Lib.hid ho
  have HA := Lib.hid ha
  have HB := Lib.hid hb
  have HT1 := Lib.hid ht1
  have HT2 := Lib.hid ht2
  have HT3 := Lib.hid ht3
  clear ho ha hb ht1 ht2 ht3
  cases t1 with
  | true =>
    go_enter Try.func39, Try.ntmps39
    go_wp2_with (first
      | (go_at_call 33; (with_reducible refine Calls.mono (same_doc A B c d O P _ (HO.out.below (below_alloc (Below.refl _ _) _)) (HA.out.below (below_alloc (Below.refl _ _) _)) lO _ HT1.out) ?_); rintro e w4 ⟨rfl, n0, rfl⟩))
    refine bodyPost_ret (results_cell_row rfl _ _ w.heap.size 45 (#[.bool false, .slice A O.length c, .slice B P.length d, .slice D Q.length f]) (0, 0) _ rfl (alloc_drew w _ _) Try.underlying45 rfl infoD4) rfl ?_
    exact ⟨rfl, pw_below_drewN (below_alloc (Below.refl _ _) _) _⟩
  | false =>
    cases t2 with
    | true =>
      go_enter Try.func39, Try.ntmps39
      go_wp2_with (first
        | (go_at_call 33; (with_reducible refine Calls.mono (same_doc A B c d O P _ (HO.out.below (below_alloc (Below.refl _ _) _)) (HA.out.below (below_alloc (Below.refl _ _) _)) lO _ HT1.out) ?_); rintro e w4 ⟨rfl, n0, rfl⟩)
        | (go_at_call 33; (with_reducible refine Calls.mono (same_doc A D c f O Q _ (HO.out.below (pw_below_drewN (below_alloc (Below.refl _ _) _) _)) (HB.out.below (pw_below_drewN (below_alloc (Below.refl _ _) _) _)) lO _ HT2.out) ?_); rintro e w4 ⟨rfl, n1, rfl⟩))
      refine bodyPost_ret (results_cell_row rfl _ _ w.heap.size 45 (#[.bool false, .slice A O.length c, .slice B P.length d, .slice D Q.length f]) (0, 0) _ rfl (alloc_drew w _ _) Try.underlying45 rfl infoD4) rfl ?_
      exact ⟨rfl, pw_below_drewN (below_alloc (Below.refl _ _) _) _⟩
    | false =>
      cases t3 with
      | true =>
        go_enter Try.func39, Try.ntmps39
        go_wp2_with (first
          | (go_at_call 33; (with_reducible refine Calls.mono (same_doc A B c d O P _ (HO.out.below (below_alloc (Below.refl _ _) _)) (HA.out.below (below_alloc (Below.refl _ _) _)) lO _ HT1.out) ?_); rintro e w4 ⟨rfl, n0, rfl⟩)
          | (go_at_call 33; (with_reducible refine Calls.mono (same_doc A D c f O Q _ (HO.out.below (pw_below_drewN (below_alloc (Below.refl _ _) _) _)) (HB.out.below (pw_below_drewN (below_alloc (Below.refl _ _) _) _)) lO _ HT2.out) ?_); rintro e w4 ⟨rfl, n1, rfl⟩)
          | (go_at_call 33; (with_reducible refine Calls.mono (same_doc B D d f P Q _ (HA.out.below (pw_below_drewN (below_alloc (Below.refl _ _) _) _)) (HB.out.below (pw_below_drewN (below_alloc (Below.refl _ _) _) _)) lP _ HT3.out) ?_); rintro e w4 ⟨rfl, n2, rfl⟩))
        refine bodyPost_ret (results_cell_row rfl _ _ w.heap.size 45 (#[.bool false, .slice A O.length c, .slice B P.length d, .slice D Q.length f]) (0, 0) _ rfl (alloc_drew w _ _) Try.underlying45 rfl infoD4) rfl ?_
        exact ⟨rfl, pw_below_drewN (below_alloc (Below.refl _ _) _) _⟩
      | false =>
        go_enter Try.func39, Try.ntmps39
        go_wp2_with (first
          | (go_at_call 33; (with_reducible refine Calls.mono (same_doc A B c d O P _ (HO.out.below (below_alloc (Below.refl _ _) _)) (HA.out.below (below_alloc (Below.refl _ _) _)) lO _ HT1.out) ?_); rintro e w4 ⟨rfl, n0, rfl⟩)
          | (go_at_call 33; (with_reducible refine Calls.mono (same_doc A D c f O Q _ (HO.out.below (pw_below_drewN (below_alloc (Below.refl _ _) _) _)) (HB.out.below (pw_below_drewN (below_alloc (Below.refl _ _) _) _)) lO _ HT2.out) ?_); rintro e w4 ⟨rfl, n1, rfl⟩)
          | (go_at_call 33; (with_reducible refine Calls.mono (same_doc B D d f P Q _ (HA.out.below (pw_below_drewN (below_alloc (Below.refl _ _) _) _)) (HB.out.below (pw_below_drewN (below_alloc (Below.refl _ _) _) _)) lP _ HT3.out) ?_); rintro e w4 ⟨rfl, n2, rfl⟩))
        refine bodyPost_ret (results_cell_row rfl _ _ w.heap.size 45 (#[.bool true, .slice A O.length c, .slice B P.length d, .slice D Q.length f]) (0, 0) _ rfl (alloc_drew w _ _) Try.underlying45 rfl infoD4) rfl ?_
        exact ⟨rfl, pw_below_drewN (below_alloc (Below.refl _ _) _) _⟩
end Go.Proofs.Ythghpmnbnfbheaa.SeqS
