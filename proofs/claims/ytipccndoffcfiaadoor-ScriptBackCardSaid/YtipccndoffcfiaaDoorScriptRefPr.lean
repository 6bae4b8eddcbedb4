/- The document's Decimal, line, event and Print, as they are called. -/
import Derived.Test.YtipccndoffcfiaaDoorScriptPrint
namespace Go.Proofs.YtipccndoffcfiaaDoor.Script
open Go.RowKit Go.Proofs.YtipccndoffcfiaaDoor.PRef Go.Proofs.YtipccndoffcfiaaDoorW.PrintWords Go.Proofs.YtipccndoffcfiaaDoorW.PrintLast Go.Proofs.YtipccndoffcfiaaDoor.SeqM
attribute [local go_sem] Oper.semAt_some
set_option linter.unusedVariables false
set_option linter.unusedSimpArgs false
def decB : ByteArray := ⟨#[48, 49, 50, 51, 52, 53, 54, 55, 56, 57]⟩
theorem dec_low : ∀ n : Nat, n < 10 → decB.extract n (n + 1) = ⟨#[UInt8.ofNat (48 + n)]⟩ := by
  have : ∀ n ∈ List.range 10, decB.extract n (n + 1) = ⟨#[UInt8.ofNat (48 + n)]⟩ := by decide
  exact fun n h => this n (List.mem_range.2 h)
theorem itoaB_low (n : Nat) (h : n < 10) : itoaB (n : Int) = ⟨#[UInt8.ofNat (48 + n)]⟩ := by
  unfold itoaB
  rw [itoa_nat, Lib.decDigits, dif_pos h]
theorem itoaB_step (n : Nat) (h : ¬ n < 10) : itoaB (n : Int) = itoaB ((n / 10 : Nat) : Int) ++ itoaB ((n % 10 : Nat) : Int) := by
  rw [itoaB_low (n % 10) (by omega)]
  unfold itoaB
  rw [itoa_nat, itoa_nat, Lib.decDigits, dif_neg h]
  apply ByteArray.ext
  apply Array.ext'
  simp
set_option maxHeartbeats 4000000 in
set_option maxRecDepth 100000 in
theorem decimal_calls (n : Nat) : n ≤ 1099511627776 → ∀ w, Calls Tryd.prog 49 #[.int .i64 (n : Int)] w fun e w' => e = .returned (.string (itoaB (n : Int))) ∧ Below w.heap.size w w' := by
  induction n using Nat.strongRecOn with
  | ind n ih =>
    intro hn w
    by_cases h : n < 10
    · have d1 : decide ((n : Int) < 10) = true := decide_eq_true (by omega)
      have hl := dec_low n h
      have hi := itoaB_low n h
      have HI := Lib.hid hi
      have HL := Lib.hid hl
      clear hi hl
      go_enter Tryd.func49, Tryd.ntmps49
      go_wp2_with fail
      go_ret
      refine ⟨?_, ?_⟩
      · show _ = Ending.returned (.string (itoaB (n : Int)))
        rw [HI.out, ← HL.out]
        rfl
      · exact Below.refl _ _
    · have d1 : decide ((n : Int) < 10) = false := decide_eq_false (by omega)
      have i1 : ∀ w, Calls Tryd.prog 49 #[.int .i64 ((n : Int) / 10)] w fun e w' => e = .returned (.string (itoaB ((n / 10 : Nat) : Int))) ∧ Below w.heap.size w w' := ih (n / 10) (by omega) (by omega)
      have i2 : ∀ w, Calls Tryd.prog 49 #[.int .i64 ((n : Int) % 10)] w fun e w' => e = .returned (.string (itoaB ((n % 10 : Nat) : Int))) ∧ Below w.heap.size w w' := ih (n % 10) (by omega) (by omega)
      have HI := Lib.hid (itoaB_step n h)
      have z1 := itoa_size ((n / 10 : Nat) : Int) ⟨by omega, by omega⟩
      have z2 := itoa_size ((n % 10 : Nat) : Int) ⟨by omega, by omega⟩
      generalize itoaB ((n / 10 : Nat) : Int) = y1 at i1 HI z1
      generalize itoaB ((n % 10 : Nat) : Int) = y2 at i2 HI z2
      have HI1 := Lib.hid i1
      have HI2 := Lib.hid i2
      clear i1 i2 ih
      go_enter Tryd.func49, Tryd.ntmps49
      go_wp2_with fail
      refine (HI1.out _).mono ?_
      rintro e w1 ⟨rfl, hb1⟩
      have HB1 := Lib.hid hb1
      clear hb1
      go_wp2_with fail
      refine (HI2.out _).mono ?_
      rintro e w2 ⟨rfl, hb2⟩
      have HB2 := Lib.hid hb2
      clear hb2
      go_wp2_with fail
      go_ret
      exact ⟨by rw [HI.out]; rfl, then_below HB1.out HB2.out⟩
/-- A word and numbers, as the document's line tells them. -/
def refLine (word : ByteArray) (ns : List Int) : ByteArray × Bool := if ns.any badN = true then (⟨#[]⟩, false) else (⟨(word.data.toList ++ wordsT (ns.map itoaB)).toArray⟩, true)
theorem wordsI_take (l : List Int) (i : Nat) (h : i < l.length) : wordsT ((l.take (i + 1)).map itoaB) = wordsT ((l.take i).map itoaB) ++ (32 :: (itoaB l[i]).data.toList) := by
  rw [map_take_succ l i h, wordsT_snoc]
theorem bytes_snoc (a : List UInt8) (y : ByteArray) : (⟨a.toArray⟩ : ByteArray) ++ ⟨#[32]⟩ ++ y = ⟨(a ++ (32 :: y.data.toList)).toArray⟩ := by
  apply ByteArray.ext
  apply Array.ext'
  simp
set_option maxHeartbeats 8000000 in
set_option maxRecDepth 100000 in
theorem refline_calls (word : ByteArray) (A : Option Addr) (c : Nat) (ns : List Int) (w : World) (hl : NX w A c ns) (hn : ns.length ≤ 1000000) (hs : word.size ≤ 1000) (hr : ∀ n ∈ ns, i64 n) :
    Calls Tryd.prog 34 #[.string word, .slice A ns.length c] w fun e w' => e = .returned (.tuple #[.string (refLine word ns).1, .bool (refLine word ns).2]) ∧ Below w.heap.size w w' := by
  have HL := Lib.hid hl
  have HR := Lib.hid hr
  clear hl hr
  obtain ⟨P, HP0⟩ : ∃ P, Hid (refLine word ns = P) := ⟨_, Lib.hid rfl⟩
  rw [HP0.out]
  go_enter Tryd.func34, Tryd.ntmps34
  go_wp2_with fail
  go_loopg [0, 6] ns.length (fun gg v0 v6 w' => ∃ (i : Nat) (cur : ByteArray), v0 = .string cur ∧ v6 = .int .i64 (i : Int) ∧ Hid (i + gg = ns.length) ∧ Hid (cur = ⟨(word.data.toList ++ wordsT ((ns.take i).map itoaB)).toArray⟩) ∧ Hid ((ns.take i).any badN = false) ∧ Hid (Below w.heap.size w w'))
  case atStart => exact ⟨0, word, rfl, rfl, Lib.hid (by simp), Lib.hid (by simp [wordsT]), Lib.hid (by simp), Lib.hid (Below.refl _ _)⟩
  case round =>
    obtain ⟨i, cur, rfl, rfl, HI, HCU, HNB, HB⟩ := hrel
    by_cases hi : i < ns.length
    · obtain ⟨ad, ead, hc⟩ := (HL.out.below HB.out).at_ i hi
      subst ead
      have HAT := Lib.hid (any_take ns i hi)
      have HWT := Lib.hid (wordsI_take ns i hi)
      have hbad : badN ns[i] = true → ns.any badN = true := fun h => List.any_eq_true.2 ⟨_, List.getElem_mem hi, h⟩
      generalize ns[i] = n at hc HAT HWT hbad
      have HBAD : Hid (badN n = true → (⟨#[]⟩, false) = P) := Lib.hid (fun h => by rw [← HP0.out]; unfold refLine; rw [if_pos (hbad h)])
      clear hbad
      by_cases h1 : n < 0
      · have d1 : decide (n < 0) = true := decide_eq_true h1
        have HE9 := Lib.hid (HBAD.out (by unfold badN; rw [d1]; rfl))
        clear HBAD
        go_wp2_with fail
        go_ret2
        rw [← HE9.out]
        exact ⟨rfl, HB.out⟩
      · have d1 : decide (n < 0) = false := decide_eq_false h1
        by_cases h2 : 1099511627776 < n
        · have d2 : decide (1099511627776 < n) = true := decide_eq_true h2
          have HE9 := Lib.hid (HBAD.out (by unfold badN; rw [d2, Bool.or_true]))
          clear HBAD
          go_wp2_with fail
          go_ret2
          rw [← HE9.out]
          exact ⟨rfl, HB.out⟩
        · have d2 : decide (1099511627776 < n) = false := decide_eq_false h2
          obtain ⟨m, rfl⟩ := Int.eq_ofNat_of_zero_le (by omega : 0 ≤ n)
          have hd := decimal_calls m (by omega)
          have hb9 : badN (m : Int) = false := by unfold badN; rw [d1, d2]; rfl
          have z1 := itoa_size (m : Int) ⟨by omega, by omega⟩
          have z2 : cur.size ≤ 100000000 := by
            rw [HCU.out]
            have h5 := setline_len (ns.take i) (fun n hn => HR.out n (List.mem_of_mem_take hn))
            unfold lineW at h5
            rw [List.length_append, List.length_append, size_toList, List.length_singleton] at h5
            have h6 : (ns.take i).length ≤ ns.length := by rw [List.length_take]; omega
            show (word.data.toList ++ wordsT ((ns.take i).map itoaB)).toArray.size ≤ _
            rw [List.size_toArray, List.length_append, size_toList]
            omega
          have z3 : (cur ++ ⟨#[32]⟩).size = cur.size + 1 := by rw [ByteArray.size_append]; rfl
          generalize itoaB (m : Int) = y at hd HWT z1
          have HD := Lib.hid hd
          have HB9 := Lib.hid hb9
          clear hd hb9 HBAD
          go_wp2_with fail
          refine (HD.out _).mono ?_
          rintro e w2 ⟨rfl, hb2⟩
          have HB2 := Lib.hid (then_below HB.out hb2)
          clear hb2
          go_wp2_with fail
          go_roundg (ns.length - (i + 1))
          case measure => have := HI.out; omega
          case rel => exact ⟨i + 1, _, rfl, by go_num, Lib.hid (by omega), Lib.hid (by rw [HWT.out, HCU.out, bytes_snoc, List.append_assoc]), Lib.hid (by rw [HAT.out, HNB.out, HB9.out]; rfl), HB2⟩
    · have hi2 : i = ns.length := by have := HI.out; omega
      subst hi2
      rw [List.take_length] at HCU HNB
      go_wp2_with fail
      go_ret2
      rw [← HP0.out]
      unfold refLine
      rw [if_neg (by rw [HNB.out]; decide), ← HCU.out]
      exact ⟨rfl, HB.out⟩
theorem three_keep {w w' : World} {a b c : Addr} {x y z : Value} (h0 : w.cell? a = some x) (h1 : w.cell? b = some y) (h2 : w.cell? c = some z) (hb : Below w.heap.size w.drew w') : w'.cell? a = some x ∧ w'.cell? b = some y ∧ w'.cell? c = some z :=
  ⟨(hb.cell (World.block_lt_of_cell? w _ h0)).trans h0, (hb.cell (World.block_lt_of_cell? w _ h1)).trans h1, (hb.cell (World.block_lt_of_cell? w _ h2)).trans h2⟩
theorem three_keep2 {w w' : World} {a b c : Addr} {x y z : Value} {o : Obj} (h0 : w.cell? a = some x) (h1 : w.cell? b = some y) (h2 : w.cell? c = some z) (hb : Below (w.alloc o).heap.size (w.alloc o) w') : w'.cell? a = some x ∧ w'.cell? b = some y ∧ w'.cell? c = some z := by
  have h := then_below (below_push w o) hb
  exact ⟨(h.cell (World.block_lt_of_cell? w _ h0)).trans h0, (h.cell (World.block_lt_of_cell? w _ h1)).trans h1, (h.cell (World.block_lt_of_cell? w _ h2)).trans h2⟩
/-- An event's line without its end. -/
def lineN (e : S47) : List UInt8 := if e.f0 = 1 then askB.data.toList ++ wordsT [hexP e.f2] else evB.data.toList ++ wordsT ([e.f0, e.f1].map itoaB)
theorem lineE_lineN (e : S47) : lineE e = lineN e ++ [10] := by
  unfold lineE lineN lineW
  split <;> rfl
def RefEvPost (e : S47) (w : World) (en : Ending) (w' : World) : Prop :=
  ∃ (t : ByteArray) (ok : Bool), en = .returned (.tuple #[.string t, .bool ok]) ∧ (badE e = true → ok = false) ∧ (badE e = false → ok = true ∧ t = ⟨(lineN e).toArray⟩) ∧ Below w.heap.size w w'
theorem ask_text (y : ByteArray) : (⟨#[97, 115, 107, 32]⟩ : ByteArray) ++ y = ⟨(askB.data.toList ++ wordsT [y]).toArray⟩ := by
  apply ByteArray.ext
  apply Array.ext'
  simp [askB, wordsT]
set_option maxHeartbeats 8000000 in
set_option maxRecDepth 100000 in
theorem refevent_calls (e : S47) (w : World) (hok : EvOk e) :
    Calls Tryd.prog 35 #[.agg #[.int .i64 e.f0, .int .i64 e.f1, .string e.f2]] w (RefEvPost e w) := by
  obtain ⟨k, x, y⟩ := e
  obtain ⟨hs, h0, h1⟩ := hok
  simp only at hs h0 h1 ⊢
  have hblk := ptrs_alloc w 0 47 [.int .i64 k, .int .i64 x, .string y]
  have k0 := hblk.cell 0 (by simp)
  have k1 := hblk.cell 1 (by simp)
  have k2 := hblk.cell 2 (by simp)
  simp only [List.getElem_cons_zero, List.getElem_cons_succ] at k0 k1 k2
  by_cases hk : k = 1
  · subst hk
    have hxs := hexP_size y
    have HXC := Lib.hid (refhex_calls y hs)
    have hbd : badE ⟨1, x, y⟩ = decide (¬ x = 0) := if_pos rfl
    have hln : lineN ⟨1, x, y⟩ = askB.data.toList ++ wordsT [hexP y] := if_pos rfl
    unfold RefEvPost
    rw [hbd, hln]
    generalize hexP y = hx at hxs HXC hln ⊢
    have hat := ask_text hx
    have HATX := Lib.hid hat
    have zz : (⟨#[97, 115, 107, 32]⟩ : ByteArray).size = 4 := rfl
    have hadd := fun W => run_string_add_sum (P := Tryd.prog) W ⟨#[97, 115, 107, 32]⟩ hx (by omega)
    clear hbd hln hat hblk
    go_enter Tryd.func35, Tryd.ntmps35
    go_wp2_with fail
    go_region_held3 (fun W' => W'.cell? ⟨w.heap.size, 0, none⟩ = some (.int .i64 1) ∧ W'.cell? ⟨w.heap.size, 1, none⟩ = some (.int .i64 x) ∧ W'.cell? ⟨w.heap.size, 2, none⟩ = some (.string y)) (first | exact ⟨k0, k1, k2⟩ | exact HSb.out)
      (first | (go_at_call 13; refine (HXC.out _).mono ?_; rintro e w2 ⟨rfl, hb2⟩; have HB2 := Lib.hid hb2; have HSb := Lib.hid (three_keep k0 k1 k2 hb2); clear hb2))
    go_wp2_with fail
    go_ret2
    refine ⟨_, _, rfl, fun h => ?_, fun h => ⟨?_, HATX.out⟩, then_below (pushed w _) HB2.out⟩
    · have := of_decide_eq_true h
      exact beq_false_of_ne this
    · have : x = 0 := by simpa using of_decide_eq_false h
      rw [this]
      rfl
  · have dk : decide (k = 1) = false := decide_eq_false hk
    have dk' : (k == 1) = false := beq_false_of_ne hk
    have hbd : badE ⟨k, x, y⟩ = (decide (¬ y = ⟨#[]⟩) || [k, x].any badN) := if_neg hk
    have hln : lineN ⟨k, x, y⟩ = evB.data.toList ++ wordsT ([k, x].map itoaB) := if_neg hk
    have HRG : ∀ n ∈ [k, x], i64 n := fun n hn => by
      rcases List.mem_cons.1 hn with rfl | hn
      · exact h0
      · rw [List.mem_singleton.1 hn]; exact h1
    have hnx := nx_alloc (w.alloc (.cells #[.int .i64 k, .int .i64 x, .string y] 47)) [k, x] (by simp)
    rw [World.size_alloc] at hnx
    have hrl := refline_calls evB (some ⟨w.heap.size + 1, 0, none⟩) 2 [k, x] _ hnx (by simp) (by decide) HRG
    have HRL := Lib.hid hrl
    have hrf : refLine evB [k, x] = if [k, x].any badN = true then (⟨#[]⟩, false) else (⟨(lineN ⟨k, x, y⟩).toArray⟩, true) := by rw [hln]; rfl
    unfold RefEvPost
    rw [hbd]
    generalize lineN ⟨k, x, y⟩ = ln at hrf ⊢
    generalize [k, x].any badN = bn at hrf ⊢
    clear hnx hrl hbd hln HRG hblk
    rw [hrf] at HRL
    have hq2 := k2
    by_cases hy : y = ⟨#[]⟩
    · subst hy
      cases bn with
      | true =>
        rw [if_pos rfl] at HRL
        go_enter Tryd.func35, Tryd.ntmps35
        go_wp2_with fail
        refine HRL.out.mono ?_
        rintro e w2 ⟨rfl, hb2⟩
        have HB2 := Lib.hid (then_below (then_below (below_push w _) (below_push _ _)) hb2)
        have HSb := Lib.hid (three_keep2 k0 k1 k2 hb2)
        clear hb2
        obtain ⟨j0, j1, j2⟩ := HSb.out
        go_wp2_with fail
        go_region
        go_wp2_with fail
        go_ret2
        refine ⟨_, _, rfl, fun h => ?_, fun h => ?_, HB2.out.drew⟩
        · first | rfl | simp
        · rw [Bool.or_true] at h; cases h
      | false =>
        rw [if_neg (by decide)] at HRL
        go_enter Tryd.func35, Tryd.ntmps35
        go_wp2_with fail
        refine HRL.out.mono ?_
        rintro e w2 ⟨rfl, hb2⟩
        have HB2 := Lib.hid (then_below (then_below (below_push w _) (below_push _ _)) hb2)
        have HSb := Lib.hid (three_keep2 k0 k1 k2 hb2)
        clear hb2
        obtain ⟨j0, j1, j2⟩ := HSb.out
        go_wp2_with fail
        go_region_held3 (fun W' => W'.cell? ⟨w.heap.size, 0, none⟩ = some (.int .i64 k) ∧ W'.cell? ⟨w.heap.size, 1, none⟩ = some (.int .i64 x) ∧ W'.cell? ⟨w.heap.size, 2, none⟩ = some (.string ⟨#[]⟩)) (exact HSb.out) (fail)
        go_wp2_with fail
        go_ret2
        refine ⟨_, _, rfl, fun h => ?_, fun h => ?_, HB2.out.drew⟩
        · simp at h
        · exact ⟨by first | rfl | simp, rfl⟩
    · have t1 : (y.toList == []) = false := tl_lit hy
      have t1d : ¬ y.toList = [] := fun e => by rw [e] at t1; exact absurd t1 (by decide)
      cases bn with
      | true =>
        rw [if_pos rfl] at HRL
        go_enter Tryd.func35, Tryd.ntmps35
        go_wp2_with fail
        refine HRL.out.mono ?_
        rintro e w2 ⟨rfl, hb2⟩
        have HB2 := Lib.hid (then_below (then_below (below_push w _) (below_push _ _)) hb2)
        have HSb := Lib.hid (three_keep2 k0 k1 k2 hb2)
        clear hb2
        obtain ⟨j0, j1, j2⟩ := HSb.out
        go_wp2_with fail
        go_region
        go_wp2_with fail
        go_ret2
        refine ⟨_, _, rfl, fun h => ?_, fun h => ?_, HB2.out.drew⟩
        · first | rfl | simp
        · rw [Bool.or_true] at h; cases h
      | false =>
        rw [if_neg (by decide)] at HRL
        go_enter Tryd.func35, Tryd.ntmps35
        go_wp2_with fail
        refine HRL.out.mono ?_
        rintro e w2 ⟨rfl, hb2⟩
        have HB2 := Lib.hid (then_below (then_below (below_push w _) (below_push _ _)) hb2)
        have HSb := Lib.hid (three_keep2 k0 k1 k2 hb2)
        clear hb2
        obtain ⟨j0, j1, j2⟩ := HSb.out
        go_wp2_with fail
        go_region_held3 (fun W' => W'.cell? ⟨w.heap.size, 0, none⟩ = some (.int .i64 k) ∧ W'.cell? ⟨w.heap.size, 1, none⟩ = some (.int .i64 x) ∧ W'.cell? ⟨w.heap.size, 2, none⟩ = some (.string y)) (exact HSb.out) (fail)
        go_wp2_with fail
        go_ret2
        refine ⟨_, _, rfl, fun h => ?_, fun h => ?_, HB2.out.drew⟩
        · first | rfl | (simp; done) | exact t1
        · rw [decide_eq_true hy] at h; cases h
end Go.Proofs.YtipccndoffcfiaaDoor.Script
