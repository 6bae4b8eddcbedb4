/- text.plain, text.Merge, text.Conflicts. -/
import Derived.Test.YthghpmnbnfbheaaThreeTxS
import Derived.Test.YthghpmnbnfbheaaText
import Derived.Test.YthghpmnbnfbheaaFewS
import Derived.Test.YthghpmnbnfbheaaJoinS
import Derived.Test.YthghpmnbnfbheaaLinesV
namespace Go.Proofs.Ythghpmnbnfbheaa.SeqS
open Go.RowKit Go.Shelf Go.Proofs.Ythghpmnbnfbheaa.SeqM Go.Proofs.Ythghpmnbnfbheaa.PRef Go.Proofs.YthghpmnbnfbheaaW.PrintWords Go.Proofs.Ythghpmnbnfbheaa.Lines
attribute [local go_sem] Oper.semAt_some
set_option linter.unusedVariables false
set_option linter.unusedSimpArgs false
theorem TX.at_ {W : World} {A : Option Addr} {c : Nat} {l : List ByteArray} (h : TX W A c l) (k : Nat) (hk : k < l.length) : ∃ ad, A = some ad ∧ (ad.add k).block < W.heap.size ∧ W.cell? (ad.add k) = some (.string l[k]) := by
  obtain ⟨ad, e, hc⟩ := ReadsOf.at_ (Kd.reads_of_C (d := ByteArray.empty) h.1) (k : Int) (by omega) (by omega)
  have hc' : W.cell? (ad.add k) = some (.string l[k]) := by
    rw [Int.toNat_natCast] at hc
    rw [hc]
    simp [rdOf, List.getD_eq_getElem?_getD, hk]
  exact ⟨ad, e, World.block_lt_of_cell? W _ hc', hc'⟩
theorem tx_of_block {W : World} {g t : Nat} {xs : List ByteArray} (h : W.heap[g]? = some (.cells (xs.map Value.string).toArray t (0, 0))) (hl : xs.length ≤ 1000000) : TX W (some ⟨g, 0, none⟩) xs.length xs := by
  refine ⟨⟨rfl, by omega, fun _ => ⟨_, rfl, fun j p hp => ⟨[.string p], rfl, rfl, fun i u hu => ?_⟩⟩⟩, Nat.le_refl _⟩
  cases i with
  | succ i => simp at hu
  | zero =>
    simp only [List.getElem?_cons_zero, Option.some.injEq] at hu
    subst hu
    have hs : Kd.string.sz = 1 := rfl
    rw [hs, Nat.mul_one, Nat.add_zero, Addr.add_lit, Nat.zero_add]
    have : (xs.map Value.string)[j]? = some (.string p) := by rw [List.getElem?_map, hp]; rfl
    simp [World.cell?, h, hp]
theorem tx_of_ownS {W : World} {n₀ : Nat} {v : Value} {l : List ByteArray} (h : W.ownsRow n₀ 9 1 v l.length (l.map Value.string)) : ∃ A c, v = .slice A l.length c ∧ TX W A c l := by
  have hr : Kd.R Kd.string 9 W n₀ (fun _ => True) v l := Kd.R_of_own (enc := Value.string) (h1 := fun _ => rfl) h (fun _ _ => trivial)
  exact tx_of_R hr
set_option maxRecDepth 100000 in
theorem plainc_calls (s : ByteArray) (w : World) (h : s.size ≤ 1000000) : Calls Try.prog 24 #[.string s] w fun e w' => e = .returned (.bool (!Text.plainB s)) ∧ Below w.heap.size w w' := by
  obtain ⟨t1, ht1⟩ : ∃ r, r = decide (0 ≤ Lib.indexByte s.data.toList 0) := ⟨_, rfl⟩
  obtain ⟨t2, ht2⟩ : ∃ r, r = decide ((lines s).length ≤ 60) := ⟨_, rfl⟩
  have hp : (!Text.plainB s) = (t1 || !t2) := by unfold Text.plainB; rw [← ht1, ← ht2, Bool.not_not]
  rw [hp]
  have H1 := Lib.hid ht1
  have H2 := Lib.hid ht2
  clear hp ht1 ht2
  go_enter Try.func24, Try.ntmps24
  go_wp2_with fail
  refine (binary_calls s _).mono ?_
  rintro e w1 ⟨rfl, rfl⟩
  rw [← H1.out]
  clear H1
  cases t1 with
  | true =>
    go_wp2_with fail
    go_ret
    exact ⟨rfl, Below.refl _ _⟩
  | false =>
    go_wp2_with fail
    refine (few_calls s _ h).mono ?_
    rintro e w2 ⟨rfl, hb⟩
    rw [← H2.out]
    have HB := Lib.hid hb
    clear hb H2
    cases t2
    all_goals
      go_wp2_with fail
      go_ret
      exact ⟨rfl, HB.out⟩
def IdxPost (xs : List ByteArray) (w : World) (e : Ending) (w' : World) : Prop := ∃ r : Int, e = .returned (.int .i64 r) ∧ decide (0 ≤ r) = xs.any (fun x => !Text.plainB x) ∧ Below w.heap.size w w'
set_option maxHeartbeats 4000000 in
set_option maxRecDepth 100000 in
theorem idx_calls (A : Option Addr) (c : Nat) (xs : List ByteArray) (w : World) (hx : TX w A c xs) (hs : ∀ x ∈ xs, x.size ≤ 1000000) (hl : xs.length ≤ 1000) :
    Calls Try.prog 40 #[.slice A xs.length c, .func (.func 24) #[] #[]] w (IdxPost xs w) := by
  have HX := Lib.hid hx
  have HS := Lib.hid hs
  clear hx hs
  go_enter Try.func40, Try.ntmps40
  go_wp2_with fail
  go_loopg [5, 8] xs.length (fun g v5 v8 w' => ∃ i : Nat, v8 = .int .i64 (i : Int) ∧ Hid (i + g = xs.length) ∧ Hid (Below w.heap.size w w') ∧ Hid ((xs.take i).any (fun x => !Text.plainB x) = false))
  case atStart => exact ⟨0, rfl, Lib.hid (by simp), Lib.hid (Below.refl _ _), Lib.hid rfl⟩
  case round =>
    obtain ⟨i, rfl, HI, HB, HN⟩ := hrel
    by_cases hlt : i < xs.length
    · obtain ⟨ad, rfl, hb, hcw⟩ := HX.out.at_ i hlt
      have hck : wr.cell? (ad.add i) = some (.string xs[i]) := (HB.out.cell hb).trans hcw
      have hsx := HS.out _ (List.getElem_mem hlt)
      have hmem : xs[i] ∈ xs := List.getElem_mem hlt
      have htk : (xs.take (i + 1)).any (fun x => !Text.plainB x) = !Text.plainB xs[i] := by
        rw [List.take_succ_eq_append_getElem hlt, List.any_append, HN.out]
        simp
      have HTK := Lib.hid htk
      have HMem := Lib.hid hmem
      clear htk hcw hb hmem
      generalize xs[i] = x at hck hsx HTK HMem
      go_wp2_with fail
      refine (plainc_calls x _ hsx).mono ?_
      rintro e w1 ⟨rfl, hb1⟩
      have HB1 := Lib.hid (HB.out.trans (hb1.mono HB.out.size))
      clear hb1 hck
      cases hp : Text.plainB x with
      | false =>
        have HP := Lib.hid hp
        clear hp
        simp only [Bool.not_false]
        go_wp2_with fail
        go_ret
        exact ⟨i, rfl, by rw [decide_eq_true (by omega)]; exact (List.any_eq_true.2 ⟨x, HMem.out, by rw [HP.out]; rfl⟩).symm, HB1.out⟩
      | true =>
        have HP := Lib.hid hp
        clear hp
        simp only [Bool.not_true]
        go_wp2_with fail
        go_roundg (xs.length - (i + 1))
        case measure => have := HI.out; omega
        case rel => exact ⟨i + 1, by go_num, Lib.hid (by have := HI.out; omega), HB1, Lib.hid (by rw [HTK.out, HP.out]; rfl)⟩
    · have hi : i = xs.length := by have := HI.out; omega
      subst hi
      rw [List.take_length] at HN
      go_wp2_with fail
      go_ret
      exact ⟨-1, rfl, by rw [HN.out]; rfl, HB.out⟩
set_option maxRecDepth 100000 in
theorem contains_calls (A : Option Addr) (c : Nat) (xs : List ByteArray) (w : World) (hx : TX w A c xs) (hs : ∀ x ∈ xs, x.size ≤ 1000000) (hl : xs.length ≤ 1000) :
    Calls Try.prog 23 #[.slice A xs.length c, .func (.func 24) #[] #[]] w fun e w' => e = .returned (.bool (xs.any (fun x => !Text.plainB x))) ∧ Below w.heap.size w w' := by
  go_enter Try.func23, Try.ntmps23
  go_wp2_with fail
  refine (idx_calls A c xs _ hx hs hl).mono ?_
  rintro e w1 ⟨r, rfl, hr, hb⟩
  have HR := Lib.hid hr
  have HB := Lib.hid hb
  clear hr hb
  go_wp2_with fail
  go_ret
  exact ⟨by rw [← HR.out]; rfl, HB.out⟩
set_option maxRecDepth 100000 in
theorem plain_calls (A : Option Addr) (c : Nat) (xs : List ByteArray) (w : World) (hx : TX w A c xs) (hs : ∀ x ∈ xs, x.size ≤ 1000000) (hl : xs.length ≤ 1000) :
    Calls Try.prog 13 #[.slice A xs.length c] w fun e w' => e = .returned (.bool (!xs.any (fun x => !Text.plainB x))) ∧ Below w.heap.size w w' := by
  obtain ⟨r, hr⟩ : ∃ r, r = xs.any (fun x => !Text.plainB x) := ⟨_, rfl⟩
  go_enter Try.func13, Try.ntmps13
  go_wp2_with fail
  refine (contains_calls A c xs _ hx hs hl).mono ?_
  rintro e w1 ⟨rfl, hb⟩
  rw [← hr]
  have HB := Lib.hid hb
  clear hb
  go_wp2_with fail
  go_ret
  exact ⟨rfl, HB.out⟩
def TMPost (m : Option ByteArray) (w : World) (e : Ending) (w' : World) : Prop := e = .returned (.tuple #[.string (m.getD ⟨#[]⟩), .bool m.isSome]) ∧ Below w.heap.size w w'
theorem tl_inj {a b : ByteArray} (h : a.toList = b.toList) : a = b := by
  rw [ByteArray.toList_eq, ByteArray.toList_eq] at h
  cases a
  cases b
  simp at h
  rw [h]
theorem tl_ne {a b : ByteArray} (h : ¬ a = b) : ¬ a.toList = b.toList := fun e => h (tl_inj e)
theorem tl_beq {a b : ByteArray} (h : ¬ a = b) : (a.toList == b.toList) = false := by simpa using tl_ne h
theorem tl_dec {a b : ByteArray} (h : ¬ a = b) : decide (a.toList = b.toList) = false := decide_eq_false (tl_ne h)
theorem any3 (o a b : ByteArray) : ([o, a, b].any fun x => !Text.plainB x) = !Text.plain3 o a b := by
  unfold Text.plain3
  simp only [List.any_cons, List.any_nil]
  cases Text.plainB o <;> cases Text.plainB a <;> cases Text.plainB b <;> rfl
theorem merged_sum {o a b : ByteArray} : ∀ (P : List (Three.Pc ByteArray)) (r : List ByteArray), Three.merged P = some r → (r.map ByteArray.size).sum ≤ (((P.map (·.a)).flatten).map ByteArray.size).sum + (((P.map (·.b)).flatten).map ByteArray.size).sum := by
  intro P
  induction P with
  | nil => intro r h; simp only [Three.merged, Option.some.injEq] at h; subst h; simp
  | cons x P ih =>
    intro r h
    rw [Three.merged] at h
    split at h
    · cases h
    · obtain ⟨q, hq, rfl⟩ := Option.map_eq_some_iff.1 h
      have := ih q hq
      have hc : ((Three.chosen x.o x.a x.b).map ByteArray.size).sum ≤ (x.a.map ByteArray.size).sum + (x.b.map ByteArray.size).sum := by unfold Three.chosen; split <;> omega
      simp only [List.map_cons, List.flatten_cons, List.map_append, List.sum_append]
      omega
theorem lines_sum (s : ByteArray) : ((lines s).map ByteArray.size).sum = s.size := by rw [← glue_size, glue_lines]
/-- How long what is merged is. -/
theorem mergeL_sum {o a b : ByteArray} {r : List ByteArray} (h : Text.mergeL o a b = some r) : (r.map ByteArray.size).sum ≤ a.size + b.size := by
  have := merged_sum (o := o) (a := a) (b := b) _ _ h
  obtain ⟨_, h1, h2, _⟩ := Three.parts_whole (lines o) (lines a) (lines b)
  rw [h1, h2, lines_sum, lines_sum] at this
  exact this
theorem plain3_calls (o a b : ByteArray) (w : World) (h0 : o.size ≤ 2000) (h1 : a.size ≤ 2000) (h2 : b.size ≤ 2000) :
    Calls Try.prog 13 #[.slice (some ⟨w.heap.size, 0, none⟩) 3 3] (w.alloc (.cells #[.string o, .string a, .string b] 9)) fun e w' => e = .returned (.bool (Text.plain3 o a b)) ∧ Below (w.heap.size + 1) (w.alloc (.cells #[.string o, .string a, .string b] 9)) w' := by
  have h := plain_calls (some ⟨w.heap.size, 0, none⟩) 3 [o, a, b] (w.alloc (.cells #[.string o, .string a, .string b] 9)) (tx_of_block (t := 9) (by rw [ThreeString.heap_alloc, if_pos rfl]; rfl) (by simp)) (by intro x hx; simp only [List.mem_cons, List.not_mem_nil, or_false] at hx; rcases hx with rfl | rfl | rfl <;> omega) (by simp)
  rw [any3, Bool.not_not] at h
  refine h.mono fun e w' hh => ⟨hh.1, ?_⟩
  have := hh.2
  simpa using this
set_option maxHeartbeats 4000000 in
set_option maxRecDepth 100000 in
theorem tmerge_calls (o a b : ByteArray) (w : World) (h0 : o.size ≤ 2000) (h1 : a.size ≤ 2000) (h2 : b.size ≤ 2000) :
    Calls Try.prog 8 #[.string o, .string a, .string b] w (TMPost (Text.merge o a b) w) := by
  by_cases hab : a = b
  · have hm : Text.merge o a b = some a := by unfold Text.merge; rw [if_pos (.inl hab)]
    rw [hm]
    go_enter Try.func8, Try.ntmps8
    go_wp2_with fail
    go_ret2
    exact ⟨rfl, Below.refl _ _⟩
  · have t1 := tl_ne hab
    have t1' := tl_beq hab
    have t1'' := tl_dec hab
    by_cases hbo : b = o
    · have hm : Text.merge o a b = some a := by unfold Text.merge; rw [if_pos (.inr hbo)]
      rw [hm]
      clear hm
      subst hbo
      go_enter Try.func8, Try.ntmps8
      go_wp2_with fail
      go_ret2
      exact ⟨rfl, Below.refl _ _⟩
    · have t2 := tl_ne hbo
      have t2' := tl_beq hbo
      have t2'' := tl_dec hbo
      have hn1 : ¬ (a = b ∨ b = o) := fun h => h.elim hab hbo
      by_cases hao : a = o
      · have hm : Text.merge o a b = some b := by unfold Text.merge; rw [if_neg hn1, if_pos hao]
        rw [hm]
        clear hm
        subst hao
        go_enter Try.func8, Try.ntmps8
        go_wp2_with fail
        go_ret2
        exact ⟨rfl, Below.refl _ _⟩
      · have t3 := tl_ne hao
        have t3' := tl_beq hao
        have t3'' := tl_dec hao
        obtain ⟨pl, hpl⟩ : ∃ pl, pl = Text.plain3 o a b := ⟨_, rfl⟩
        have hm : Text.merge o a b = if pl = false then none else Text.kept (Text.mergeL o a b) := by unfold Text.merge; rw [if_neg hn1, if_neg hao, hpl]
        rw [hm]
        have HPL := Lib.hid hpl
        clear hm hn1 hpl
        cases pl with
        | false =>
          rw [if_pos rfl]
          go_enter Try.func8, Try.ntmps8
          go_wp2_with fail
          refine (plain3_calls o a b _ h0 h1 h2).mono ?_
          rintro e w1 ⟨rfl, hb⟩
          rw [← HPL.out]
          have HB := Lib.hid ((below_alloc (Below.refl _ _) _).trans (hb.mono (by simp)))
          clear hb
          go_wp2_with fail
          go_ret2
          exact ⟨rfl, HB.out⟩
        | true =>
          rw [if_neg (by decide)]
          obtain ⟨g0, g1, g2⟩ := Text.plain3_few HPL.out.symm
          obtain ⟨m, hm⟩ : ∃ m, m = Text.mergeL o a b := ⟨_, rfl⟩
          rw [← hm]
          have hms : ((m.getD []).map ByteArray.size).sum ≤ 1000000 := by
            cases m with
            | none => simp
            | some l => have := mergeL_sum hm.symm; simp only [Option.getD_some]; omega
          have hml : (m.getD []).length ≤ 1000000 := by
            cases m with
            | none => simp
            | some l => exact merge_len hm.symm (by omega) (by omega)
          obtain ⟨R, hR⟩ : ∃ R, R = Text.kept m := ⟨_, rfl⟩
          rw [← hR]
          have HM := Lib.hid hm
          have HRk := Lib.hid hR
          clear hm hR
          go_enter Try.func8, Try.ntmps8
          go_wp2_with fail
          refine (plain3_calls o a b _ h0 h1 h2).mono ?_
          rintro e w1 ⟨rfl, hb⟩
          rw [← HPL.out]
          have HB := Lib.hid ((below_alloc (Below.refl _ _) _).trans (hb.mono (by simp)))
          clear hb
          go_wp2_with fail
          refine (split_calls o _ (by omega)).mono ?_
          rintro e w2 ⟨v, rfl, hv, hb⟩
          obtain ⟨A1, c1, rfl, hT⟩ := tx_of_ownS hv
          replace HB := Lib.hid (HB.out.trans (hb.mono HB.out.size))
          have HL1 := Lib.hid hT
          clear hb hv hT
          go_wp2_with fail
          refine (split_calls a _ (by omega)).mono ?_
          rintro e w3 ⟨v, rfl, hv, hb⟩
          obtain ⟨A2, c2, rfl, hT⟩ := tx_of_ownS hv
          replace HL1 := Lib.hid (HL1.out.below hb)
          replace HB := Lib.hid (HB.out.trans (hb.mono HB.out.size))
          have HL2 := Lib.hid hT
          clear hb hv hT
          go_wp2_with fail
          refine (split_calls b _ (by omega)).mono ?_
          rintro e w4 ⟨v, rfl, hv, hb⟩
          obtain ⟨A3, c3, rfl, hT⟩ := tx_of_ownS hv
          replace HL1 := Lib.hid (HL1.out.below hb)
          replace HL2 := Lib.hid (HL2.out.below hb)
          replace HB := Lib.hid (HB.out.trans (hb.mono HB.out.size))
          have HL3 := Lib.hid hT
          clear hb hv hT
          go_wp2_with fail
          refine (merge_tx A1 c1 (lines o) A2 c2 (lines a) A3 c3 (lines b) _ HL1.out HL2.out HL3.out (by omega) (by omega) (by omega)).mono ?_
          rintro e w5 ⟨A4, c4, rfl, hT, -, hb⟩
          rw [show Three.merge (lines o) (lines a) (lines b) = m from HM.out.symm] at hT ⊢
          replace HB := Lib.hid (HB.out.trans (hb.mono HB.out.size))
          have HT := Lib.hid hT
          clear hb hT HL1 HL2 HL3 HM HPL
          go_wp2_with fail
          refine (ljoin_calls A4 c4 (m.getD []) _ HT.out.2 (Kd.reads_of_C (d := ByteArray.empty) HT.out.1).2.2 hml hms).mono ?_
          rintro e w6 ⟨rfl, hb⟩
          replace HB := Lib.hid (HB.out.trans (hb.mono HB.out.size))
          clear hb HT
          cases m with
          | none =>
            simp only [Option.isSome_none, Option.getD_none]
            go_wp2_with fail
            go_ret2
            exact ⟨by rw [HRk.out]; rfl, HB.out⟩
          | some l =>
            simp only [Option.isSome_some, Option.getD_some] at hms ⊢
            by_cases hz : (glue l).size ≤ 400
            · have hk : Text.kept (some l) = some (glue l) := by unfold Text.kept; simp only [if_pos hz]
              have HK := Lib.hid (HRk.out.trans hk)
              have z1 : decide (((glue l).size : Int) ≤ 400) = true := by simp; omega
              have z2 : decide ((glue l).size ≤ 400) = true := by simp; omega
              clear hk
              go_wp2_with fail
              go_ret2
              exact ⟨by rw [HK.out]; rfl, HB.out⟩
            · have hk : Text.kept (some l) = none := by unfold Text.kept; simp only [if_neg hz]
              have HK := Lib.hid (HRk.out.trans hk)
              have z1 : decide (((glue l).size : Int) ≤ 400) = false := by simp; omega
              have z2 : decide ((glue l).size ≤ 400) = false := by simp; omega
              clear hk
              go_wp2_with fail
              go_ret2
              exact ⟨by rw [HK.out]; rfl, HB.out⟩
def ConflPost (n : Nat) (w : World) (e : Ending) (w' : World) : Prop := e = .returned (.int .i64 (n : Int)) ∧ Below w.heap.size w w'
def cntX (xs : List ThreeString.PV) (i : Nat) : Nat := Three.clashes ((xs.take i).map ThreeString.PV.p)
theorem cntX_succ (xs : List ThreeString.PV) (i : Nat) (h : i < xs.length) : cntX xs (i + 1) = cntX xs i + if xs[i].p.c = true then 1 else 0 := by
  unfold cntX
  rw [List.take_succ_eq_append_getElem h, List.map_append, Three.clashes_append]
  simp only [List.map_cons, List.map_nil, Three.clashes, Nat.add_zero]
theorem cntX_le (xs : List ThreeString.PV) (i : Nat) : cntX xs i ≤ i := by
  unfold cntX
  have key : ∀ l : List (Three.Pc ByteArray), Three.clashes l ≤ l.length := by
    intro l
    induction l with
    | nil => simp [Three.clashes]
    | cons x r ih => rw [Three.clashes, List.length_cons]; split <;> omega
  refine Nat.le_trans (key _) ?_
  rw [List.length_map, List.length_take]
  omega
set_option maxHeartbeats 4000000 in
set_option maxRecDepth 100000 in
theorem confl_calls (o a b : ByteArray) (w : World) (h0 : o.size ≤ 2000) (h1 : a.size ≤ 2000) (h2 : b.size ≤ 2000) :
    Calls Try.prog 10 #[.string o, .string a, .string b] w (ConflPost (Text.confl o a b) w) := by
  obtain ⟨C, hC⟩ : ∃ C, C = Text.confl o a b := ⟨_, rfl⟩
  rw [← hC]
  obtain ⟨r, hr⟩ : ∃ r, r = Text.merge o a b := ⟨_, rfl⟩
  obtain ⟨pl, hpl⟩ : ∃ pl, pl = Text.plain3 o a b := ⟨_, rfl⟩
  have hc : Text.confl o a b = if r.isSome = true then 0 else if pl = false then 1 else max (Three.clashes (Three.parts (lines o) (lines a) (lines b))) 1 := by rw [hr, hpl]; rfl
  obtain ⟨N, hN⟩ : ∃ N, N = Three.clashes (Three.parts (lines o) (lines a) (lines b)) := ⟨_, rfl⟩
  rw [hc, ← hN] at hC
  have HC := Lib.hid hC
  have HN := Lib.hid hN
  clear hN hC
  have HR := Lib.hid hr
  have HPL := Lib.hid hpl
  clear hr hpl hc
  go_enter Try.func10, Try.ntmps10
  go_wp2_with fail
  refine (tmerge_calls o a b _ h0 h1 h2).mono ?_
  rintro e w1 ⟨rfl, hb⟩
  rw [← HR.out]
  have HB := Lib.hid hb
  clear hb HR
  cases r with
  | some s =>
    simp only [Option.isSome_some, Option.getD_some]
    go_wp2_with fail
    go_ret
    exact ⟨by rw [HC.out]; rfl, HB.out⟩
  | none =>
    simp only [Option.isSome_none, Option.getD_none]
    go_wp2_with fail
    refine (plain3_calls o a b _ h0 h1 h2).mono ?_
    rintro e w1' ⟨rfl, hb⟩
    rw [← HPL.out]
    replace HB := Lib.hid (HB.out.trans (((below_alloc (Below.refl _ _) _).trans (hb.mono (by simp))).mono HB.out.size))
    clear hb
    cases pl with
    | false =>
      go_wp2_with fail
      go_ret
      exact ⟨by rw [HC.out]; rfl, HB.out⟩
    | true =>
      obtain ⟨g0, g1, g2⟩ := Text.plain3_few HPL.out.symm
      clear HPL
      go_wp2_with fail
      refine (split_calls o _ (by omega)).mono ?_
      rintro e w2 ⟨v, rfl, hv, hb⟩
      obtain ⟨A1, c1, rfl, hT⟩ := tx_of_ownS hv
      replace HB := Lib.hid (HB.out.trans (hb.mono HB.out.size))
      have HL1 := Lib.hid hT
      clear hb hv hT
      go_wp2_with fail
      refine (split_calls a _ (by omega)).mono ?_
      rintro e w3 ⟨v, rfl, hv, hb⟩
      obtain ⟨A2, c2, rfl, hT⟩ := tx_of_ownS hv
      replace HL1 := Lib.hid (HL1.out.below hb)
      replace HB := Lib.hid (HB.out.trans (hb.mono HB.out.size))
      have HL2 := Lib.hid hT
      clear hb hv hT
      go_wp2_with fail
      refine (split_calls b _ (by omega)).mono ?_
      rintro e w4 ⟨v, rfl, hv, hb⟩
      obtain ⟨A3, c3, rfl, hT⟩ := tx_of_ownS hv
      replace HL1 := Lib.hid (HL1.out.below hb)
      replace HL2 := Lib.hid (HL2.out.below hb)
      replace HB := Lib.hid (HB.out.trans (hb.mono HB.out.size))
      have HL3 := Lib.hid hT
      clear hb hv hT
      go_wp2_with fail
      refine (parts_tx A1 c1 (lines o) A2 c2 (lines a) A3 c3 (lines b) _ HL1.out HL2.out HL3.out (by omega) (by omega) (by omega)).mono ?_
      rintro e w5 ⟨v, xs, rfl, hR, hx, -, hb⟩
      obtain ⟨A4, c4, e4⟩ := Kd.R_slice hR
      subst e4
      have hxl : xs.length ≤ 123 := by have h1 := congrArg List.length hx; have h2 := ThreeString.parts_len (lines o) (lines a) (lines b); rw [List.length_map] at h1; omega
      have hxc : Three.clashes (Three.parts (lines o) (lines a) (lines b)) = cntX xs xs.length := by unfold cntX; rw [List.take_length, hx]
      have HN2 : Hid (N = cntX xs xs.length) := Lib.hid (HN.out.trans hxc)
      clear HN
      have HP := Lib.hid (Kd.R_reads' hR).2.2
      replace HB := Lib.hid (HB.out.trans (hb.mono HB.out.size))
      have hs5 := HB.out.size
      clear hb hR hx hxc HL1 HL2 HL3
      go_wp2_with fail
      go_loopg [9, 11, 34] xs.length (fun g v9 v11 v34 w' => ∃ i : Nat, v34 = .int .i64 (i : Int) ∧ v9 = .int .i64 (cntX xs i : Nat) ∧ Hid (i + g = xs.length) ∧ Hid (Below w5.heap.size w5 w'))
      case atStart => exact ⟨0, rfl, rfl, Lib.hid (by simp), Lib.hid (Below.refl _ _)⟩
      case round =>
        obtain ⟨i, rfl, rfl, HI, HW⟩ := hrel
        have hq := cntX_le xs i
        by_cases hlt : i < xs.length
        · obtain ⟨ad, ead, x0, x1, x2, x3, rd1, rd2, rd3⟩ := ThreeString.at_P HP.out i hlt rfl
          subst ead
          have hs := cntX_succ xs i hlt
          obtain ⟨n, hn⟩ : ∃ n, n = cntX xs i := ⟨_, rfl⟩
          rw [← hn] at hq hs ⊢
          have HS := Lib.hid hs
          have k0 := (HW.out.cell (World.block_lt_of_cell? w5 _ x0)).trans x0
          have k1 := (HW.out.cell (World.block_lt_of_cell? w5 _ x1)).trans x1
          have k2 := (HW.out.cell (World.block_lt_of_cell? w5 _ x2)).trans x2
          have k3 := (HW.out.cell (World.block_lt_of_cell? w5 _ x3)).trans x3
          clear hs hn x0 x1 x2 x3
          have hw9 := HW.out.size
          generalize xs[i] = x at k0 k1 k2 k3 HS rd1 rd2 rd3
          obtain ⟨⟨cf, O, P, Q⟩, v1, v2, v3⟩ := x
          simp only at k0 k1 k2 k3 HS rd1 rd2 rd3
          obtain ⟨D1, d1, rfl, -, -⟩ := rd1
          obtain ⟨D2, d2, rfl, -, -⟩ := rd2
          obtain ⟨D3, d3, rfl, -, -⟩ := rd3
          have hi0 : (0 : Int) ≤ (i : Int) := by omega
          have hi1 : (i : Int) < (xs.length : Int) := by omega
          cases cf
          all_goals
            go_wp2_with fail
            go_roundg (xs.length - (i + 1))
            case measure => have := HI.out; omega
            case rel => exact ⟨i + 1, by go_num, by rw [HS.out]; simp, Lib.hid (by have := HI.out; omega), Lib.hid (below_alloc HW.out _)⟩
        · have hi : i = xs.length := by have := HI.out; omega
          subst hi
          replace HB := Lib.hid (HB.out.trans (HW.out.mono HB.out.size))
          rw [← HN2.out]
          have hn9 : N ≤ 1000 := by have := cntX_le xs xs.length; have := HN2.out; omega
          go_wp2_with fail
          go_ret
          have hC9 : C = max N 1 := by rw [HC.out]; rfl
          exact ⟨congrArg (fun z => Ending.returned (Value.int .i64 z)) (by omega), HB.out⟩
end Go.Proofs.Ythghpmnbnfbheaa.SeqS
