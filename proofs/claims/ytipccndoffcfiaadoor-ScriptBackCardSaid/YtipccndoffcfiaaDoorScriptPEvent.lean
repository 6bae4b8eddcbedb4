/- script.printer's event, as it is called. -/
import Derived.Test.YtipccndoffcfiaaDoorScriptPrinter
namespace Go.Proofs.YtipccndoffcfiaaDoor.Script
open Go.RowKit Go.Proofs.YtipccndoffcfiaaDoor.PRef Go.Proofs.YtipccndoffcfiaaDoorW.PrintWords Go.Proofs.YtipccndoffcfiaaDoorW.PrintLast Go.Proofs.YtipccndoffcfiaaDoor.SeqM
attribute [local go_sem] Oper.semAt_some
set_option linter.unusedVariables false
set_option linter.unusedSimpArgs false
def askB : ByteArray := ⟨#[97, 115, 107]⟩
def evB : ByteArray := ⟨#[101, 118]⟩
def setB : ByteArray := ⟨#[115, 101, 116]⟩
/-- A line of words. -/
def lineW (word : ByteArray) (l : List ByteArray) : List UInt8 := word.data.toList ++ wordsT l ++ [10]
/-- An event's line. -/
def lineE (e : S47) : List UInt8 := if e.f0 = 1 then lineW askB [hexP e.f2] else lineW evB [itoaB e.f0, itoaB e.f1]
/-- Something of it may not be written. -/
def badE (e : S47) : Bool := if e.f0 = 1 then decide (¬ e.f1 = 0) else (decide (¬ e.f2 = ⟨#[]⟩) || [e.f0, e.f1].any badN)
theorem nx_alloc (w : World) (l : List Int) (h : l.length ≤ 1000000) : NX (w.alloc (.cells (l.map (Value.int .i64)).toArray 3)) (some ⟨w.heap.size, 0, none⟩) l.length l := by
  refine ⟨Kd.C_of_reads (d := (0 : Int)) ⟨rfl, by omega, fun _ => ⟨_, rfl, fun j hj => ?_⟩⟩, Nat.le_refl _⟩
  have := (ptrs_alloc w 0 3 (l.map (Value.int .i64))).cell j (by simpa using hj)
  have e : ((⟨w.heap.size, 0, none⟩ : Addr).add j) = ⟨w.heap.size, j, none⟩ := by unfold Addr.add; simp only [Nat.zero_add]; split <;> first | rfl | simp_all
  rw [e, this]
  simp [rdOf, List.getD_eq_getElem?_getD, hj]
/-- The first part of an event's work: the mark. -/
theorem mark_wr {b : Nat} {p v : Value} {l0 : List UInt8} {bad : Bool} {w : World} {o : Obj} (h : Pr w b p v l0 bad) (bd' : Bool) : Pr ((w.setCell ⟨b, 2, none⟩ (.bool bd')).alloc o) b p v l0 bd' ∧ TurnM (PrM b v) w ((w.setCell ⟨b, 2, none⟩ (.bool bd')).alloc o) :=
  ⟨(h.set2 bd').below (below_push _ o), (TurnM.setCell (M := PrM b v) w (p := ⟨b, 2, none⟩) (.inl rfl) _).trans (TurnM.alloc _ _ o)⟩
theorem ev_wr {b : Nat} {v v' : Value} {l' : List UInt8} {bad : Bool} {w w1 w2 : World} (ht : TurnM (PrM b v) w w1) (k : Wr b v v' l' bad w1 w2) : Wr b v v' l' bad w w2 :=
  ⟨k.pr, ht.trans k.turn, k.own.imp id fun ⟨g, h1, h2⟩ => ⟨g, h1, Nat.le_trans ht.size h2⟩⟩
theorem far_new {b : Nat} {v : Value} {W : World} (hw : ∀ k, PrM b v k → k < W.heap.size) : Far (some ⟨W.heap.size, 0, none⟩) b v := fun ad e => by
  cases e
  exact ⟨fun e => by have := hw b (.inl rfl); simp at e; omega, fun e => by have := hw _ (.inr e); simp at this⟩
theorem far_row {b : Nat} {v : Value} {W : World} {n : Nat} {A : Option Addr} {m c : Nat} {l : List ByteArray} (hr : Kd.R Kd.string 9 W n (fun _ => True) (.slice A m c) l) (hw : ∀ k, PrM b v k → k < n) : Far A b v := fun ad e => by
  subst e
  have h0 := Kd.R_base hr ad.block (by simp [Value.ownBlock])
  exact ⟨fun e => by have := hw b (.inl rfl); omega, fun e => by have := hw _ (.inr e); omega⟩
set_option maxHeartbeats 8000000 in
set_option maxRecDepth 100000 in
theorem pevent_calls (b : Nat) (p v : Value) (l0 : List UInt8) (bad : Bool) (e : S47) (w : World) (h : Pr w b p v l0 bad) (hs : e.f2.size ≤ 1000000) (hlen : l0.length + (lineE e).length ≤ 140737488355328)
    (h0 : -9223372036854775808 ≤ e.f0 ∧ e.f0 ≤ 9223372036854775807) (h1 : -9223372036854775808 ≤ e.f1 ∧ e.f1 ≤ 9223372036854775807) (h6 : 6 ≤ b) (he : Env w) :
    Calls Tryd.prog 31 #[.pointer (some ⟨b, 0, none⟩), .agg #[.int .i64 e.f0, .int .i64 e.f1, .string e.f2]] w fun en w' => (∃ r, en = .returned r) ∧ ∃ v', Wr b v v' (l0 ++ lineE e) (bad || badE e) w w' := by
  obtain ⟨k, x, y⟩ := e
  simp only at hs h0 h1 ⊢
  have HP := Lib.hid h
  have HE := Lib.hid he
  have hlt := h.blk.lt
  have c2 := h.c2
  have f2 : w.frozen? ⟨b, 2, none⟩ = false := h.blk.free 2
  have HPW : Hid (∀ k, PrM b v k → k < w.heap.size) := Lib.hid h.lt
  clear h he
  by_cases hk : k = 1
  · subst hk
    have hle : lineE ⟨1, x, y⟩ = lineW askB [hexP y] := if_pos rfl
    rw [hle] at hlen ⊢
    have hcase : (bad = true ∧ (bad || badE ⟨1, x, y⟩) = true) ∨ (bad = false ∧ x = 0 ∧ (bad || badE ⟨1, x, y⟩) = false) ∨ (bad = false ∧ ¬ x = 0 ∧ (bad || badE ⟨1, x, y⟩) = true) := by
      unfold badE
      cases bad <;> by_cases h1 : x = 0 <;> simp [h1]
    have HBD : Hid ((bad || badE ⟨1, x, y⟩) = (bad || badE ⟨1, x, y⟩)) := Lib.hid rfl
    generalize hbd : (bad || badE ⟨1, x, y⟩) = bd' at hcase ⊢
    clear HBD hbd hle
    have hlw : l0.length + (lineW askB [hexP y]).length ≤ 140737488355328 := hlen
    have hxs := hexP_size y
    have HXC := Lib.hid (hex_calls y hs)
    generalize hexP y = hx at hlw hxs HXC hlen ⊢
    have HLW : Hid (l0.length + askB.size + (wordsT [hx]).length + 1 ≤ 140737488355328) := Lib.hid (by
      unfold lineW at hlw
      rw [List.length_append, List.length_append, size_toList, List.length_singleton] at hlw
      omega)
    clear hlw hlen hxs
    rcases hcase with ⟨rfl, rfl⟩ | ⟨rfl, h2, rfl⟩ | ⟨rfl, h2, rfl⟩
    · skip
      go_enter Tryd.func31, Tryd.ntmps31
      go_wp2_with fail
      have hm := mark_wr (o := .cells #[.int .i64 1, .int .i64 x, .string y] 47) HP.out true
      have HM1 := Lib.hid hm.1
      have HM2 := Lib.hid hm.2
      clear hm
      refine (HXC.out _).mono ?_
      rintro e w2 ⟨rfl, hb2⟩
      have hsz2 : w.heap.size ≤ w2.heap.size := by have := hb2.size; simp [World.setCell] at this; omega
      have hp2 := (HM1.out.below hb2).below (below_push w2 (.cells ([hx].map Value.string).toArray 9))
      have ht2 := (HM2.out.trans (TurnM.of_below hb2)).trans (TurnM.of_below (below_push w2 (.cells ([hx].map Value.string).toArray 9)))
      have HP2 := Lib.hid hp2
      have HT2 := Lib.hid ht2
      have HTX := Lib.hid (tx_alloc w2 [hx] (by simp))
      clear hp2 ht2 hb2 HM1 HM2
      go_wp2_with fail
      refine (pline_calls b _ v l0 true askB (some ⟨w2.heap.size, 0, none⟩) 1 [hx] (w2.alloc (.cells ([hx].map Value.string).toArray 9)) HP2.out HTX.out (far_new (fun k hk => by have := HPW.out k hk; omega)) (by simp) HLW.out).mono ?_
      rintro e w3 ⟨⟨r, rfl⟩, v', hw3⟩
      have HW3 := Lib.hid (ev_wr HT2.out hw3)
      clear hw3
      go_wp2_with fail
      refine bodyPost_ret (results_none rfl _ _ _) rfl ?_
      exact ⟨⟨_, rfl⟩, v', by have := HW3.out; rwa [List.append_assoc, List.append_assoc, ← List.append_assoc askB.data.toList] at this⟩
    · skip
      have d1 : decide (¬ x = 0) = false := decide_eq_false (fun h => h h2)
      have d1' : (x == 0) = true := by rw [h2]; rfl
      have d1b : (x != 0) = false := by rw [h2]; rfl
      have d1'' : decide (x = 0) = true := decide_eq_true h2
      have H2 := Lib.hid h2
      clear h2
      go_enter Tryd.func31, Tryd.ntmps31
      go_wp2_with fail
      have hm := mark_wr (o := .cells #[.int .i64 1, .int .i64 x, .string y] 47) HP.out false
      have HM1 := Lib.hid hm.1
      have HM2 := Lib.hid hm.2
      clear hm
      refine (HXC.out _).mono ?_
      rintro e w2 ⟨rfl, hb2⟩
      have hsz2 : w.heap.size ≤ w2.heap.size := by have := hb2.size; simp [World.setCell] at this; omega
      have hp2 := (HM1.out.below hb2).below (below_push w2 (.cells ([hx].map Value.string).toArray 9))
      have ht2 := (HM2.out.trans (TurnM.of_below hb2)).trans (TurnM.of_below (below_push w2 (.cells ([hx].map Value.string).toArray 9)))
      have HP2 := Lib.hid hp2
      have HT2 := Lib.hid ht2
      have HTX := Lib.hid (tx_alloc w2 [hx] (by simp))
      clear hp2 ht2 hb2 HM1 HM2
      go_wp2_with fail
      refine (pline_calls b _ v l0 false askB (some ⟨w2.heap.size, 0, none⟩) 1 [hx] (w2.alloc (.cells ([hx].map Value.string).toArray 9)) HP2.out HTX.out (far_new (fun k hk => by have := HPW.out k hk; omega)) (by simp) HLW.out).mono ?_
      rintro e w3 ⟨⟨r, rfl⟩, v', hw3⟩
      have HW3 := Lib.hid (ev_wr HT2.out hw3)
      clear hw3
      go_wp2_with fail
      refine bodyPost_ret (results_none rfl _ _ _) rfl ?_
      exact ⟨⟨_, rfl⟩, v', by have := HW3.out; rwa [List.append_assoc, List.append_assoc, ← List.append_assoc askB.data.toList] at this⟩
    · skip
      have d1 : decide (¬ x = 0) = true := decide_eq_true h2
      have d1' : (x == 0) = false := beq_false_of_ne h2
      have d1b : (x != 0) = true := bne_iff_ne.2 h2
      have d1'' : decide (x = 0) = false := decide_eq_false h2
      go_enter Tryd.func31, Tryd.ntmps31
      go_wp2_with fail
      have hm := mark_wr (o := .cells #[.int .i64 1, .int .i64 x, .string y] 47) HP.out true
      have HM1 := Lib.hid hm.1
      have HM2 := Lib.hid hm.2
      clear hm
      refine (HXC.out _).mono ?_
      rintro e w2 ⟨rfl, hb2⟩
      have hsz2 : w.heap.size ≤ w2.heap.size := by have := hb2.size; simp [World.setCell] at this; omega
      have hp2 := (HM1.out.below hb2).below (below_push w2 (.cells ([hx].map Value.string).toArray 9))
      have ht2 := (HM2.out.trans (TurnM.of_below hb2)).trans (TurnM.of_below (below_push w2 (.cells ([hx].map Value.string).toArray 9)))
      have HP2 := Lib.hid hp2
      have HT2 := Lib.hid ht2
      have HTX := Lib.hid (tx_alloc w2 [hx] (by simp))
      clear hp2 ht2 hb2 HM1 HM2
      go_wp2_with fail
      refine (pline_calls b _ v l0 true askB (some ⟨w2.heap.size, 0, none⟩) 1 [hx] (w2.alloc (.cells ([hx].map Value.string).toArray 9)) HP2.out HTX.out (far_new (fun k hk => by have := HPW.out k hk; omega)) (by simp) HLW.out).mono ?_
      rintro e w3 ⟨⟨r, rfl⟩, v', hw3⟩
      have HW3 := Lib.hid (ev_wr HT2.out hw3)
      clear hw3
      go_wp2_with fail
      refine bodyPost_ret (results_none rfl _ _ _) rfl ?_
      exact ⟨⟨_, rfl⟩, v', by have := HW3.out; rwa [List.append_assoc, List.append_assoc, ← List.append_assoc askB.data.toList] at this⟩
  · have dk : decide (k = 1) = false := decide_eq_false hk
    have dk' : (k == 1) = false := beq_false_of_ne hk
    have hle : lineE ⟨k, x, y⟩ = lineW evB [itoaB k, itoaB x] := if_neg hk
    rw [hle] at hlen ⊢
    have hcase : (bad = true ∧ (bad || decide (¬ y = ⟨#[]⟩)) = true) ∨ (bad = false ∧ y = ⟨#[]⟩ ∧ (bad || decide (¬ y = ⟨#[]⟩)) = false) ∨ (bad = false ∧ ¬ y = ⟨#[]⟩ ∧ (bad || decide (¬ y = ⟨#[]⟩)) = true) := by
      cases bad <;> by_cases h1 : y = ⟨#[]⟩ <;> simp [h1]
    have hbe : (bad || badE ⟨k, x, y⟩) = ((bad || decide (¬ y = ⟨#[]⟩)) || [k, x].any badN) := by
      unfold badE
      rw [if_neg hk, Bool.or_assoc]
    rw [hbe]
    generalize (bad || decide (¬ y = ⟨#[]⟩)) = bd' at hcase ⊢
    clear hbe hle
    have HLW : Hid (l0.length + evB.size + (wordsT ([k, x].map itoaB)).length + 1 ≤ 140737488355328) := Lib.hid (by
      unfold lineW at hlen
      rw [List.length_append, List.length_append, size_toList, List.length_singleton] at hlen
      show l0.length + evB.size + (wordsT [itoaB k, itoaB x]).length + 1 ≤ _
      omega)
    clear hlen
    have HRG : Hid (∀ n ∈ [k, x], -9223372036854775808 ≤ n ∧ n ≤ 9223372036854775807) := Lib.hid (fun n hn => by
      rcases List.mem_cons.1 hn with rfl | hn
      · exact h0
      · rw [List.mem_singleton.1 hn]; exact h1)
    clear h0 h1
    rcases hcase with ⟨rfl, rfl⟩ | ⟨rfl, h2, rfl⟩ | ⟨rfl, h2, rfl⟩
    · skip
      go_enter Tryd.func31, Tryd.ntmps31
      go_wp2_with fail
      have hm := mark_wr (o := .cells #[.int .i64 k, .int .i64 x, .string y] 47) HP.out true
      have hs1 : ((w.setCell ⟨b, 2, none⟩ (.bool true)).alloc (.cells #[.int .i64 k, .int .i64 x, .string y] 47)).heap.size = w.heap.size + 1 := by simp [World.setCell]
      have he1 : Env ((w.setCell ⟨b, 2, none⟩ (.bool true)).alloc (.cells #[.int .i64 k, .int .i64 x, .string y] 47)) := (env_set 2 _ HE.out h6).below (below_push _ _)
      have hp1 := hm.1.below (below_push ((w.setCell ⟨b, 2, none⟩ (.bool true)).alloc (.cells #[.int .i64 k, .int .i64 x, .string y] 47)) (.cells ([k, x].map (Value.int .i64)).toArray 3))
      have ht1 := hm.2.trans (TurnM.of_below (below_push ((w.setCell ⟨b, 2, none⟩ (.bool true)).alloc (.cells #[.int .i64 k, .int .i64 x, .string y] 47)) (.cells ([k, x].map (Value.int .i64)).toArray 3)))
      have hnx := nx_alloc ((w.setCell ⟨b, 2, none⟩ (.bool true)).alloc (.cells #[.int .i64 k, .int .i64 x, .string y] 47)) [k, x] (by simp)
      have he2 := he1.below (below_push ((w.setCell ⟨b, 2, none⟩ (.bool true)).alloc (.cells #[.int .i64 k, .int .i64 x, .string y] 47)) (.cells ([k, x].map (Value.int .i64)).toArray 3))
      have HP1 := Lib.hid hp1
      have HT1 := Lib.hid ht1
      have HNX := Lib.hid hnx
      have HE2 := Lib.hid he2
      clear hp1 ht1 hnx he1 he2 hm
      rw [hs1] at HNX
      refine (pnumbers_calls b _ v l0 true (some ⟨w.heap.size + 1, 0, none⟩) 2 [k, x] (((w.setCell ⟨b, 2, none⟩ (.bool true)).alloc (.cells #[.int .i64 k, .int .i64 x, .string y] 47)).alloc (.cells ([k, x].map (Value.int .i64)).toArray 3)) HP1.out HNX.out (fun ad e => by cases e; show w.heap.size + 1 ≠ b; omega) (by simp) HRG.out h6 HE2.out).mono ?_
      rintro e w2 ⟨sv, rfl, hr2, hp2, ht2⟩
      have hsz2 : w.heap.size ≤ (((w.setCell ⟨b, 2, none⟩ (.bool true)).alloc (.cells #[.int .i64 k, .int .i64 x, .string y] 47)).alloc (.cells ([k, x].map (Value.int .i64)).toArray 3)).heap.size := by simp [World.setCell]; omega
      obtain ⟨A2, c2', rfl, htx⟩ := tx_of hr2
      have hfar := far_row hr2 (fun k hk => Nat.lt_of_lt_of_le (HPW.out k hk) hsz2)
      have HP2 := Lib.hid hp2
      have HT2 := Lib.hid (HT1.out.trans (ht2.mono (fun k _ e => .inl e)))
      have HTX := Lib.hid htx
      have HFR := Lib.hid hfar
      clear hr2 hp2 ht2 htx hfar hsz2 HP1 HT1 HNX
      go_wp2_with fail
      refine (pline_calls b _ v l0 _ evB A2 c2' ([k, x].map itoaB) w2 HP2.out HTX.out HFR.out (by simp) HLW.out).mono ?_
      rintro e w3 ⟨⟨r, rfl⟩, v', hw3⟩
      have HW3 := Lib.hid (ev_wr HT2.out hw3)
      clear hw3
      go_wp2_with fail
      go_end0
      exact ⟨⟨_, rfl⟩, v', by have := HW3.out; rwa [List.append_assoc, List.append_assoc, ← List.append_assoc evB.data.toList] at this⟩
    · skip
      subst h2
      go_enter Tryd.func31, Tryd.ntmps31
      go_wp2_with fail
      have hm := mark_wr (o := .cells #[.int .i64 k, .int .i64 x, .string ⟨#[]⟩] 47) HP.out false
      have hs1 : ((w.setCell ⟨b, 2, none⟩ (.bool false)).alloc (.cells #[.int .i64 k, .int .i64 x, .string ⟨#[]⟩] 47)).heap.size = w.heap.size + 1 := by simp [World.setCell]
      have he1 : Env ((w.setCell ⟨b, 2, none⟩ (.bool false)).alloc (.cells #[.int .i64 k, .int .i64 x, .string ⟨#[]⟩] 47)) := (env_set 2 _ HE.out h6).below (below_push _ _)
      have hp1 := hm.1.below (below_push ((w.setCell ⟨b, 2, none⟩ (.bool false)).alloc (.cells #[.int .i64 k, .int .i64 x, .string ⟨#[]⟩] 47)) (.cells ([k, x].map (Value.int .i64)).toArray 3))
      have ht1 := hm.2.trans (TurnM.of_below (below_push ((w.setCell ⟨b, 2, none⟩ (.bool false)).alloc (.cells #[.int .i64 k, .int .i64 x, .string ⟨#[]⟩] 47)) (.cells ([k, x].map (Value.int .i64)).toArray 3)))
      have hnx := nx_alloc ((w.setCell ⟨b, 2, none⟩ (.bool false)).alloc (.cells #[.int .i64 k, .int .i64 x, .string ⟨#[]⟩] 47)) [k, x] (by simp)
      have he2 := he1.below (below_push ((w.setCell ⟨b, 2, none⟩ (.bool false)).alloc (.cells #[.int .i64 k, .int .i64 x, .string ⟨#[]⟩] 47)) (.cells ([k, x].map (Value.int .i64)).toArray 3))
      have HP1 := Lib.hid hp1
      have HT1 := Lib.hid ht1
      have HNX := Lib.hid hnx
      have HE2 := Lib.hid he2
      clear hp1 ht1 hnx he1 he2 hm
      rw [hs1] at HNX
      refine (pnumbers_calls b _ v l0 false (some ⟨w.heap.size + 1, 0, none⟩) 2 [k, x] (((w.setCell ⟨b, 2, none⟩ (.bool false)).alloc (.cells #[.int .i64 k, .int .i64 x, .string ⟨#[]⟩] 47)).alloc (.cells ([k, x].map (Value.int .i64)).toArray 3)) HP1.out HNX.out (fun ad e => by cases e; show w.heap.size + 1 ≠ b; omega) (by simp) HRG.out h6 HE2.out).mono ?_
      rintro e w2 ⟨sv, rfl, hr2, hp2, ht2⟩
      have hsz2 : w.heap.size ≤ (((w.setCell ⟨b, 2, none⟩ (.bool false)).alloc (.cells #[.int .i64 k, .int .i64 x, .string ⟨#[]⟩] 47)).alloc (.cells ([k, x].map (Value.int .i64)).toArray 3)).heap.size := by simp [World.setCell]; omega
      obtain ⟨A2, c2', rfl, htx⟩ := tx_of hr2
      have hfar := far_row hr2 (fun k hk => Nat.lt_of_lt_of_le (HPW.out k hk) hsz2)
      have HP2 := Lib.hid hp2
      have HT2 := Lib.hid (HT1.out.trans (ht2.mono (fun k _ e => .inl e)))
      have HTX := Lib.hid htx
      have HFR := Lib.hid hfar
      clear hr2 hp2 ht2 htx hfar hsz2 HP1 HT1 HNX
      go_wp2_with fail
      refine (pline_calls b _ v l0 _ evB A2 c2' ([k, x].map itoaB) w2 HP2.out HTX.out HFR.out (by simp) HLW.out).mono ?_
      rintro e w3 ⟨⟨r, rfl⟩, v', hw3⟩
      have HW3 := Lib.hid (ev_wr HT2.out hw3)
      clear hw3
      go_wp2_with fail
      go_end0
      exact ⟨⟨_, rfl⟩, v', by have := HW3.out; rwa [List.append_assoc, List.append_assoc, ← List.append_assoc evB.data.toList] at this⟩
    · skip
      have t1 : (y.toList == []) = false := tl_lit h2
      have t1d : ¬ y.toList = [] := fun e => by rw [e] at t1; exact absurd t1 (by decide)
      go_enter Tryd.func31, Tryd.ntmps31
      go_wp2_with fail
      have hm := mark_wr (o := .cells #[.int .i64 k, .int .i64 x, .string y] 47) HP.out true
      have hs1 : ((w.setCell ⟨b, 2, none⟩ (.bool true)).alloc (.cells #[.int .i64 k, .int .i64 x, .string y] 47)).heap.size = w.heap.size + 1 := by simp [World.setCell]
      have he1 : Env ((w.setCell ⟨b, 2, none⟩ (.bool true)).alloc (.cells #[.int .i64 k, .int .i64 x, .string y] 47)) := (env_set 2 _ HE.out h6).below (below_push _ _)
      have hp1 := hm.1.below (below_push ((w.setCell ⟨b, 2, none⟩ (.bool true)).alloc (.cells #[.int .i64 k, .int .i64 x, .string y] 47)) (.cells ([k, x].map (Value.int .i64)).toArray 3))
      have ht1 := hm.2.trans (TurnM.of_below (below_push ((w.setCell ⟨b, 2, none⟩ (.bool true)).alloc (.cells #[.int .i64 k, .int .i64 x, .string y] 47)) (.cells ([k, x].map (Value.int .i64)).toArray 3)))
      have hnx := nx_alloc ((w.setCell ⟨b, 2, none⟩ (.bool true)).alloc (.cells #[.int .i64 k, .int .i64 x, .string y] 47)) [k, x] (by simp)
      have he2 := he1.below (below_push ((w.setCell ⟨b, 2, none⟩ (.bool true)).alloc (.cells #[.int .i64 k, .int .i64 x, .string y] 47)) (.cells ([k, x].map (Value.int .i64)).toArray 3))
      have HP1 := Lib.hid hp1
      have HT1 := Lib.hid ht1
      have HNX := Lib.hid hnx
      have HE2 := Lib.hid he2
      clear hp1 ht1 hnx he1 he2 hm
      rw [hs1] at HNX
      refine (pnumbers_calls b _ v l0 true (some ⟨w.heap.size + 1, 0, none⟩) 2 [k, x] (((w.setCell ⟨b, 2, none⟩ (.bool true)).alloc (.cells #[.int .i64 k, .int .i64 x, .string y] 47)).alloc (.cells ([k, x].map (Value.int .i64)).toArray 3)) HP1.out HNX.out (fun ad e => by cases e; show w.heap.size + 1 ≠ b; omega) (by simp) HRG.out h6 HE2.out).mono ?_
      rintro e w2 ⟨sv, rfl, hr2, hp2, ht2⟩
      have hsz2 : w.heap.size ≤ (((w.setCell ⟨b, 2, none⟩ (.bool true)).alloc (.cells #[.int .i64 k, .int .i64 x, .string y] 47)).alloc (.cells ([k, x].map (Value.int .i64)).toArray 3)).heap.size := by simp [World.setCell]; omega
      obtain ⟨A2, c2', rfl, htx⟩ := tx_of hr2
      have hfar := far_row hr2 (fun k hk => Nat.lt_of_lt_of_le (HPW.out k hk) hsz2)
      have HP2 := Lib.hid hp2
      have HT2 := Lib.hid (HT1.out.trans (ht2.mono (fun k _ e => .inl e)))
      have HTX := Lib.hid htx
      have HFR := Lib.hid hfar
      clear hr2 hp2 ht2 htx hfar hsz2 HP1 HT1 HNX
      go_wp2_with fail
      refine (pline_calls b _ v l0 _ evB A2 c2' ([k, x].map itoaB) w2 HP2.out HTX.out HFR.out (by simp) HLW.out).mono ?_
      rintro e w3 ⟨⟨r, rfl⟩, v', hw3⟩
      have HW3 := Lib.hid (ev_wr HT2.out hw3)
      clear hw3
      go_wp2_with fail
      go_end0
      exact ⟨⟨_, rfl⟩, v', by have := HW3.out; rwa [List.append_assoc, List.append_assoc, ← List.append_assoc evB.data.toList] at this⟩
end Go.Proofs.YtipccndoffcfiaaDoor.Script
