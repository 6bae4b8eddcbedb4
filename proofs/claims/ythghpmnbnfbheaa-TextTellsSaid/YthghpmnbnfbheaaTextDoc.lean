/- The document's own Merge and Conflicts of texts, as they are called. -/
import Derived.Test.YthghpmnbnfbheaaTextRun
import Derived.Test.YthghpmnbnfbheaaTextRefs
import Derived.Test.YthghpmnbnfbheaaThreeDocMerge
namespace Go.Proofs.Ythghpmnbnfbheaa.SeqS
open Go.RowKit Go.Shelf Go.Proofs.Ythghpmnbnfbheaa.SeqM Go.Proofs.Ythghpmnbnfbheaa.PRef Go.Proofs.YthghpmnbnfbheaaW.PrintWords Go.Proofs.Ythghpmnbnfbheaa.Lines
attribute [local go_sem] Oper.semAt_some
set_option linter.unusedVariables false
set_option linter.unusedSimpArgs false
open ThreeString (PV Rd)
theorem dsplit_calls (s : ByteArray) (w : World) (h : s.size ≤ 1000000) : Calls Try.prog 19 #[.string s] w fun e w' => ∃ A c, e = .returned (.slice A (lines s).length c) ∧ TX w' A c (lines s) ∧ Below w.heap.size w w' := by
  obtain ⟨k, hk⟩ := (LineRefs.split s h).rounds
  refine (cortegeref3_Split.calls k s (lines s) w hk).mono ?_
  rintro e w' ⟨v, rfl, hr, hb⟩
  obtain ⟨A, c, rfl, hT⟩ := tx_of_R hr
  exact ⟨A, c, rfl, hT, hb⟩
theorem djoin_calls (A : Option Addr) (c : Nat) (l : List ByteArray) (w : World) (h : TX w A c l) (hl : l.length ≤ 1000) (hz : ∀ x ∈ l, x.size ≤ 1000) : Calls Try.prog 20 #[.slice A l.length c] w fun e w' => e = .returned (.string (glue l)) ∧ Below w.heap.size w w' := by
  obtain ⟨k, hk⟩ := (LineRefs.join l hl hz).rounds
  exact cortegeref3_Join.calls k A c l (glue l) w h.1 h.2 hk
theorem dbinary_calls (s : ByteArray) (w : World) (h : s.size ≤ 1000000) : Calls Try.prog 31 #[.string s] w fun e w' => e = .returned (.bool (decide (0 ≤ Lib.indexByte s.data.toList 0))) ∧ Below w.heap.size w w' := by
  obtain ⟨k, hk⟩ := (LineRefs.binary s h).rounds
  exact (cortegeref3_Binary.calls k s _ w hk).mono fun e w' ⟨he, hd⟩ => ⟨he, Drawn0.below hd⟩
theorem dfew_calls (s : ByteArray) (w : World) (h : s.size ≤ 1000000) : Calls Try.prog 32 #[.string s] w fun e w' => e = .returned (.bool (decide ((lines s).length ≤ 60))) ∧ Below w.heap.size w w' := by
  obtain ⟨k, hk⟩ := (LineRefs.few s h).rounds
  exact cortegeref3_Few.calls k s _ w hk
set_option maxRecDepth 100000 in
theorem odd_calls (s : ByteArray) (w : World) (h : s.size ≤ 1000000) : Calls Try.prog 17 #[.string s] w fun e w' => e = .returned (.bool (!Text.plainB s)) ∧ Below w.heap.size w w' := by
  obtain ⟨t1, ht1⟩ : ∃ r, r = decide (0 ≤ Lib.indexByte s.data.toList 0) := ⟨_, rfl⟩
  obtain ⟨t2, ht2⟩ : ∃ r, r = decide ((lines s).length ≤ 60) := ⟨_, rfl⟩
  have hp : (!Text.plainB s) = (t1 || !t2) := by unfold Text.plainB; rw [← ht1, ← ht2, Bool.not_not]
  rw [hp]
  have H1 := Lib.hid ht1
  have H2 := Lib.hid ht2
  clear hp ht1 ht2
  go_enter Try.func17, Try.ntmps17
  go_wp2_with fail
  refine (dbinary_calls s _ h).mono ?_
  rintro e w1 ⟨rfl, hb1⟩
  rw [← H1.out]
  have HB1 := Lib.hid hb1
  clear H1 hb1
  cases t1 with
  | true =>
    go_wp2_with fail
    go_ret
    exact ⟨rfl, HB1.out⟩
  | false =>
    go_wp2_with fail
    refine (dfew_calls s _ h).mono ?_
    rintro e w2 ⟨rfl, hb⟩
    rw [← H2.out]
    have HB := Lib.hid (HB1.out.trans (hb.mono HB1.out.size))
    clear hb H2
    cases t2
    all_goals
      go_wp2_with fail
      go_ret
      exact ⟨rfl, HB.out⟩
theorem few_len {o a b : ByteArray} {r : List ByteArray} (h : Text.mergeL o a b = some r) (l1 : (lines a).length ≤ 60) (l2 : (lines b).length ≤ 60) : r.length ≤ 1000 := by
  have := merged_len (o := lines o) (a := lines a) (b := lines b) _ _ h
  obtain ⟨_, h1, h2, _⟩ := Three.parts_whole (lines o) (lines a) (lines b)
  rw [h1, h2] at this
  omega
theorem size_mem : ∀ (l : List ByteArray) (x : ByteArray), x ∈ l → x.size ≤ (l.map ByteArray.size).sum
  | [], _, h => by cases h
  | y :: l, x, h => by
    rw [List.map_cons, List.sum_cons]
    rcases List.mem_cons.1 h with rfl | h
    · omega
    · have := size_mem l x h; omega
set_option maxHeartbeats 4000000 in
set_option maxRecDepth 100000 in
theorem dmerge_calls (o a b : ByteArray) (w : World) (h0 : o.size ≤ 500) (h1 : a.size ≤ 500) (h2 : b.size ≤ 500) :
    Calls Try.prog 9 #[.string o, .string a, .string b] w (TMPost (Text.merge o a b) w) := by
  by_cases hab : a = b
  · have hm : Text.merge o a b = some a := by unfold Text.merge; rw [if_pos (.inl hab)]
    rw [hm]
    go_enter Try.func9, Try.ntmps9
    go_wp2_with fail
    go_ret2
    exact ⟨rfl, Below.refl _ _⟩
  · have t1 := tl_ne hab
    have t1' := tl_beq hab
    have t1'' := tl_dec hab
    by_cases hbo : b = o
    · have hm : Text.merge o a b = some a := by unfold Text.merge; rw [if_pos (.inr hbo)]
      rw [hm]
      clear hm
      subst hbo
      go_enter Try.func9, Try.ntmps9
      go_wp2_with fail
      go_ret2
      exact ⟨rfl, Below.refl _ _⟩
    · have t2 := tl_ne hbo
      have t2' := tl_beq hbo
      have t2'' := tl_dec hbo
      have hn1 : ¬ (a = b ∨ b = o) := fun h => h.elim hab hbo
      by_cases hao : a = o
      · have hm : Text.merge o a b = some b := by unfold Text.merge; rw [if_neg hn1, if_pos hao]
        rw [hm]
        clear hm
        subst hao
        go_enter Try.func9, Try.ntmps9
        go_wp2_with fail
        go_ret2
        exact ⟨rfl, Below.refl _ _⟩
      · have t3 := tl_ne hao
        have t3' := tl_beq hao
        have t3'' := tl_dec hao
        have HN1 := Lib.hid hn1
        clear hn1
        go_enter Try.func9, Try.ntmps9
        go_wp2_with fail
        refine (odd_calls o _ (by omega)).mono ?_
        rintro e x0 ⟨rfl, hb⟩
        have HB := Lib.hid hb
        clear hb
        rcases Bool.eq_false_or_eq_true (Text.plainB o) with p0 | p0
        case inr =>
          have hpl : Text.plain3 o a b = false := by unfold Text.plain3; rw [p0]; rfl
          have hm : Text.merge o a b = none := by unfold Text.merge; rw [if_neg HN1.out, if_neg hao, if_pos hpl]
          have HM := Lib.hid hm
          clear hm hpl
          rw [p0]
          go_wp2_with fail
          go_ret2
          exact ⟨by rw [HM.out]; rfl, HB.out⟩
        case inl =>
          rw [p0]
          have P0 := Lib.hid p0
          clear p0
          go_wp2_with fail
          refine (odd_calls a _ (by omega)).mono ?_
          rintro e x1 ⟨rfl, hb⟩
          replace HB := Lib.hid (HB.out.trans (hb.mono HB.out.size))
          clear hb
          rcases Bool.eq_false_or_eq_true (Text.plainB a) with p1 | p1
          case inr =>
            have hpl : Text.plain3 o a b = false := by unfold Text.plain3; rw [p1]; cases Text.plainB o <;> rfl
            have hm : Text.merge o a b = none := by unfold Text.merge; rw [if_neg HN1.out, if_neg hao, if_pos hpl]
            have HM := Lib.hid hm
            clear hm hpl
            rw [p1]
            go_wp2_with fail
            go_ret2
            exact ⟨by rw [HM.out]; rfl, HB.out⟩
          case inl =>
            rw [p1]
            have P1 := Lib.hid p1
            clear p1
            go_wp2_with fail
            refine (odd_calls b _ (by omega)).mono ?_
            rintro e x2 ⟨rfl, hb⟩
            replace HB := Lib.hid (HB.out.trans (hb.mono HB.out.size))
            clear hb
            rcases Bool.eq_false_or_eq_true (Text.plainB b) with p2 | p2
            case inr =>
              have hpl : Text.plain3 o a b = false := by unfold Text.plain3; rw [p2]; cases Text.plainB o <;> cases Text.plainB a <;> rfl
              have hm : Text.merge o a b = none := by unfold Text.merge; rw [if_neg HN1.out, if_neg hao, if_pos hpl]
              have HM := Lib.hid hm
              clear hm hpl
              rw [p2]
              go_wp2_with fail
              go_ret2
              exact ⟨by rw [HM.out]; rfl, HB.out⟩
            case inl =>
              rw [p2]
              have P2 := Lib.hid p2
              clear p2
              go_wp2_with fail
              have hpl : Text.plain3 o a b = true := by unfold Text.plain3; rw [P0.out, P1.out, P2.out]; rfl
              obtain ⟨g0, g1, g2⟩ := Text.plain3_few hpl
              obtain ⟨m, hm⟩ : ∃ m, m = Text.mergeL o a b := ⟨_, rfl⟩
              have hms : ((m.getD []).map ByteArray.size).sum ≤ 1000 := by
                cases m with
                | none => simp
                | some l => have := mergeL_sum hm.symm; simp only [Option.getD_some]; omega
              have hml : (m.getD []).length ≤ 1000 := by
                cases m with
                | none => simp
                | some l => exact few_len hm.symm g1 g2
              have hmr : Text.merge o a b = Text.kept m := by unfold Text.merge; rw [if_neg HN1.out, if_neg hao, hpl, hm]; rfl
              have HMR := Lib.hid hmr
              have HM := Lib.hid hm
              clear hmr hm hpl P0 P1 P2
              refine (dsplit_calls o _ (by omega)).mono ?_
              rintro e y1 ⟨A1, c1, rfl, hT, hb⟩
              replace HB := Lib.hid (HB.out.trans (hb.mono HB.out.size))
              have HL1 := Lib.hid hT
              clear hb hT
              go_wp2_with fail
              refine (dsplit_calls a _ (by omega)).mono ?_
              rintro e y2 ⟨A2, c2, rfl, hT, hb⟩
              replace HL1 := Lib.hid (HL1.out.below hb)
              replace HB := Lib.hid (HB.out.trans (hb.mono HB.out.size))
              have HL2 := Lib.hid hT
              clear hb hT
              go_wp2_with fail
              refine (dsplit_calls b _ (by omega)).mono ?_
              rintro e y3 ⟨A3, c3, rfl, hT, hb⟩
              replace HL1 := Lib.hid (HL1.out.below hb)
              replace HL2 := Lib.hid (HL2.out.below hb)
              replace HB := Lib.hid (HB.out.trans (hb.mono HB.out.size))
              have HL3 := Lib.hid hT
              clear hb hT
              go_wp2_with fail
              refine (doc_merge A1 A2 A3 c1 c2 c3 (lines o) (lines a) (lines b) _ HL1.out HL2.out HL3.out (by omega) (by omega) (by omega)).mono ?_
              rintro e y4 ⟨A4, c4, rfl, hT, -, hb⟩
              rw [show Three.merge (lines o) (lines a) (lines b) = m from HM.out.symm] at hT ⊢
              replace HB := Lib.hid (HB.out.trans (hb.mono HB.out.size))
              have HT := Lib.hid hT
              clear hb hT HL1 HL2 HL3 HM
              go_wp2_with fail
              refine (djoin_calls A4 c4 (m.getD []) _ HT.out hml (fun x hx => Nat.le_trans (size_mem _ x hx) hms)).mono ?_
              rintro e y5 ⟨rfl, hb⟩
              replace HB := Lib.hid (HB.out.trans (hb.mono HB.out.size))
              clear hb HT
              cases m with
              | none =>
                simp only [Option.isSome_none, Option.getD_none]
                go_wp2_with fail
                go_ret2
                exact ⟨by rw [HMR.out]; rfl, HB.out⟩
              | some l =>
                simp only [Option.isSome_some, Option.getD_some] at hms ⊢
                by_cases hz : (glue l).size ≤ 400
                · have hk : Text.kept (some l) = some (glue l) := by unfold Text.kept; simp only [if_pos hz]
                  have HK := Lib.hid (HMR.out.trans hk)
                  have z1 : decide ((400 : Int) < ((glue l).size : Int)) = false := by simp; omega
                  have z2 : decide (400 < (glue l).size) = false := by simp; omega
                  clear hk
                  go_wp2_with fail
                  go_ret2
                  exact ⟨by rw [HK.out]; rfl, HB.out⟩
                · have hk : Text.kept (some l) = none := by unfold Text.kept; simp only [if_neg hz]
                  have HK := Lib.hid (HMR.out.trans hk)
                  have z1 : decide ((400 : Int) < ((glue l).size : Int)) = true := by simp; omega
                  have z2 : decide (400 < (glue l).size) = true := by simp; omega
                  clear hk
                  go_wp2_with fail
                  go_ret2
                  exact ⟨by rw [HK.out]; rfl, HB.out⟩
set_option maxHeartbeats 4000000 in
set_option maxRecDepth 100000 in
theorem dconfl_calls (o a b : ByteArray) (w : World) (h0 : o.size ≤ 500) (h1 : a.size ≤ 500) (h2 : b.size ≤ 500) :
    Calls Try.prog 11 #[.string o, .string a, .string b] w (ConflPost (Text.confl o a b) w) := by
  obtain ⟨C, hC⟩ : ∃ C, C = Text.confl o a b := ⟨_, rfl⟩
  rw [← hC]
  obtain ⟨r, hr⟩ : ∃ r, r = Text.merge o a b := ⟨_, rfl⟩
  obtain ⟨pl, hpl⟩ : ∃ pl, pl = Text.plain3 o a b := ⟨_, rfl⟩
  have hc : Text.confl o a b = if r.isSome = true then 0 else if pl = false then 1 else max (Three.clashes (Three.parts (lines o) (lines a) (lines b))) 1 := by rw [hr, hpl]; rfl
  obtain ⟨N, hN⟩ : ∃ N, N = Three.clashes (Three.parts (lines o) (lines a) (lines b)) := ⟨_, rfl⟩
  rw [hc, ← hN] at hC
  have HC := Lib.hid hC
  have HN := Lib.hid hN
  clear hN hC
  have HR := Lib.hid hr
  have HPL := Lib.hid hpl
  clear hr hpl hc
  go_enter Try.func11, Try.ntmps11
  go_wp2_with fail
  refine (dmerge_calls o a b _ h0 h1 h2).mono ?_
  rintro e w1 ⟨rfl, hb⟩
  rw [← HR.out]
  have HB := Lib.hid hb
  clear hb HR
  cases r with
  | some s =>
    simp only [Option.isSome_some, Option.getD_some]
    go_wp2_with fail
    go_ret
    exact ⟨by rw [HC.out]; rfl, HB.out⟩
  | none =>
    simp only [Option.isSome_none, Option.getD_none]
    go_wp2_with fail
    refine (odd_calls o _ (by omega)).mono ?_
    rintro e x0 ⟨rfl, hb⟩
    replace HB := Lib.hid (HB.out.trans (hb.mono HB.out.size))
    clear hb
    rcases Bool.eq_false_or_eq_true (Text.plainB o) with p0 | p0
    case inr =>
      have hpl : Text.plain3 o a b = false := by unfold Text.plain3; rw [p0]; rfl
      have hpf : pl = false := by rw [HPL.out]; exact hpl
      subst hpf
      clear hpl
      rw [p0]
      go_wp2_with fail
      go_ret
      exact ⟨by rw [HC.out]; rfl, HB.out⟩
    case inl =>
      rw [p0]
      have P0 := Lib.hid p0
      clear p0
      go_wp2_with fail
      refine (odd_calls a _ (by omega)).mono ?_
      rintro e x1 ⟨rfl, hb⟩
      replace HB := Lib.hid (HB.out.trans (hb.mono HB.out.size))
      clear hb
      rcases Bool.eq_false_or_eq_true (Text.plainB a) with p1 | p1
      case inr =>
        have hpl : Text.plain3 o a b = false := by unfold Text.plain3; rw [p1]; cases Text.plainB o <;> rfl
        have hpf : pl = false := by rw [HPL.out]; exact hpl
        subst hpf
        clear hpl
        rw [p1]
        go_wp2_with fail
        go_ret
        exact ⟨by rw [HC.out]; rfl, HB.out⟩
      case inl =>
        rw [p1]
        have P1 := Lib.hid p1
        clear p1
        go_wp2_with fail
        refine (odd_calls b _ (by omega)).mono ?_
        rintro e x2 ⟨rfl, hb⟩
        replace HB := Lib.hid (HB.out.trans (hb.mono HB.out.size))
        clear hb
        rcases Bool.eq_false_or_eq_true (Text.plainB b) with p2 | p2
        case inr =>
          have hpl : Text.plain3 o a b = false := by unfold Text.plain3; rw [p2]; cases Text.plainB o <;> cases Text.plainB a <;> rfl
          have hpf : pl = false := by rw [HPL.out]; exact hpl
          subst hpf
          clear hpl
          rw [p2]
          go_wp2_with fail
          go_ret
          exact ⟨by rw [HC.out]; rfl, HB.out⟩
        case inl =>
          rw [p2]
          have P2 := Lib.hid p2
          clear p2
          go_wp2_with fail
          have hpl : Text.plain3 o a b = true := by unfold Text.plain3; rw [P0.out, P1.out, P2.out]; rfl
          obtain ⟨g0, g1, g2⟩ := Text.plain3_few hpl
          have hpt : pl = true := by rw [HPL.out]; exact hpl
          subst hpt
          clear hpl HPL P0 P1 P2
          refine (dsplit_calls o _ (by omega)).mono ?_
          rintro e y1 ⟨A1, c1, rfl, hT, hb⟩
          replace HB := Lib.hid (HB.out.trans (hb.mono HB.out.size))
          have HL1 := Lib.hid hT
          clear hb hT
          go_wp2_with fail
          refine (dsplit_calls a _ (by omega)).mono ?_
          rintro e y2 ⟨A2, c2, rfl, hT, hb⟩
          replace HL1 := Lib.hid (HL1.out.below hb)
          replace HB := Lib.hid (HB.out.trans (hb.mono HB.out.size))
          have HL2 := Lib.hid hT
          clear hb hT
          go_wp2_with fail
          refine (dsplit_calls b _ (by omega)).mono ?_
          rintro e y3 ⟨A3, c3, rfl, hT, hb⟩
          replace HL1 := Lib.hid (HL1.out.below hb)
          replace HL2 := Lib.hid (HL2.out.below hb)
          replace HB := Lib.hid (HB.out.trans (hb.mono HB.out.size))
          have HL3 := Lib.hid hT
          clear hb hT
          go_wp2_with fail
          refine (doc_parts A1 A2 A3 c1 c2 c3 (lines o) (lines a) (lines b) _ _ HL1.out HL2.out HL3.out (Below.refl _ _) (by omega) (by omega) (by omega)).mono ?_
          rintro e w5 ⟨v, xs, rfl, hR, hx, -, hb⟩
          obtain ⟨A4, c4, e4⟩ := Kd.R_slice hR
          subst e4
          have hxl : xs.length ≤ 123 := by have h1 := congrArg List.length hx; have h2 := ThreeString.parts_len (lines o) (lines a) (lines b); rw [List.length_map] at h1; omega
          have hxc : Three.clashes (Three.parts (lines o) (lines a) (lines b)) = cntX xs xs.length := by unfold cntX; rw [List.take_length, hx]
          have HN2 : Hid (N = cntX xs xs.length) := Lib.hid (HN.out.trans hxc)
          clear HN
          have HP := Lib.hid (Kd.R_reads' hR).2.2
          replace HB := Lib.hid (HB.out.trans (hb.mono HB.out.size))
          have hs5 := HB.out.size
          clear hb hR hx hxc HL1 HL2 HL3
          go_wp2_with fail
          go_loopg [9, 11] xs.length (fun g v9 v11 w' => ∃ i : Nat, v11 = .int .i64 (i : Int) ∧ v9 = .int .i64 (cntX xs i : Nat) ∧ Hid (i + g = xs.length) ∧ Hid (Below w5.heap.size w5 w'))
          case atStart => exact ⟨0, rfl, rfl, Lib.hid (by simp), Lib.hid (Below.refl _ _)⟩
          case round =>
            obtain ⟨i, rfl, rfl, HI, HW⟩ := hrel
            have hq := cntX_le xs i
            by_cases hlt : i < xs.length
            · obtain ⟨ad, ead, x0, x1, x2, x3⟩ := at_D HP.out i hlt rfl
              subst ead
              have hs := cntX_succ xs i hlt
              obtain ⟨n, hn⟩ : ∃ n, n = cntX xs i := ⟨_, rfl⟩
              rw [← hn] at hq hs ⊢
              have HS := Lib.hid hs
              have k0 := (HW.out.cell (World.block_lt_of_cell? w5 _ x0)).trans x0
              have k1 := (HW.out.cell (World.block_lt_of_cell? w5 _ x1)).trans x1
              have k2 := (HW.out.cell (World.block_lt_of_cell? w5 _ x2)).trans x2
              have k3 := (HW.out.cell (World.block_lt_of_cell? w5 _ x3)).trans x3
              clear hs hn x0 x1 x2 x3
              have hw9 := HW.out.size
              generalize xs[i] = x at k0 k1 k2 k3 HS
              obtain ⟨⟨cf, O, P, Q⟩, v1, v2, v3⟩ := x
              simp only at k0 k1 k2 k3 HS
              have hi0 : (0 : Int) ≤ (i : Int) := by omega
              have hi1 : (i : Int) < (xs.length : Int) := by omega
              cases cf
              all_goals
                go_wp2_with fail
                go_roundg (xs.length - (i + 1))
                case measure => have := HI.out; omega
                case rel => exact ⟨i + 1, by go_num, by rw [HS.out]; simp, Lib.hid (by have := HI.out; omega), HW⟩
            · have hi : i = xs.length := by have := HI.out; omega
              subst hi
              replace HB := Lib.hid (HB.out.trans (HW.out.mono HB.out.size))
              rw [← HN2.out]
              have hn9 : N ≤ 1000 := by have := cntX_le xs xs.length; have := HN2.out; omega
              go_wp2_with fail
              go_ret
              have hC9 : C = max N 1 := by rw [HC.out]; rfl
              exact ⟨congrArg (fun z => Ending.returned (Value.int .i64 z)) (by omega), HB.out⟩
end Go.Proofs.Ythghpmnbnfbheaa.SeqS
