/- The document's Print, as it is called. -/
import Derived.Test.YtipccndoffcfiaaDoorScriptRefPr
import Derived.Test.YtipccndoffcfiaaDoorScriptRowT
namespace Go.Proofs.YtipccndoffcfiaaDoor.Script
open Go.RowKit Go.Proofs.YtipccndoffcfiaaDoor.PRef Go.Proofs.YtipccndoffcfiaaDoorW.PrintWords Go.Proofs.YtipccndoffcfiaaDoorW.PrintLast Go.Proofs.YtipccndoffcfiaaDoor.SeqM
attribute [local go_sem] Oper.semAt_some
set_option linter.unusedVariables false
set_option linter.unusedSimpArgs false
theorem ev_at {W : World} {A : Option Addr} {zs : List S47} (h : Kd.C k47 W A zs.length zs) (k : Nat) (hk : k < zs.length) : ∃ b o, A = some ⟨b, o, none⟩ ∧ W.cell? ⟨b, o + k * 3, none⟩ = some (.int .i64 zs[k].f0) ∧ W.cell? ⟨b, o + k * 3 + 1, none⟩ = some (.int .i64 zs[k].f1) ∧ W.cell? ⟨b, o + k * 3 + 1 + 1, none⟩ = some (.string zs[k].f2) := by
  obtain ⟨⟨b, o, sp⟩, e, hc⟩ := h.2.2 (by omega)
  have hsp : sp = none := by
    obtain ⟨cs, hl, hK, hat⟩ := hc 0 zs[0] (by simp)
    have ho := k47_open hK
    subst ho
    have a0 := hat 0 _ rfl
    cases sp with
    | none => rfl
    | some x =>
      exfalso
      have : ((⟨b, o, some x⟩ : Addr).add (0 * k47.sz + 0)) = ⟨b, o, some x⟩ := rfl
      rw [this] at a0
      unfold World.cell? at a0
      simp only [Option.isSome_some, if_true] at a0
      split at a0 <;> simp at a0
  subst hsp
  obtain ⟨cs, hl, hK, hat⟩ := hc k zs[k] (by simp [hk])
  have ho := k47_open hK
  subst ho
  have a0 := hat 0 _ rfl
  have a1 := hat 1 _ rfl
  have a2 := hat 2 _ rfl
  rw [Addr.add_lit] at a0 a1 a2
  exact ⟨b, o, e, a0, a1, a2⟩
theorem badE_take (es : List S47) (i : Nat) (h : i < es.length) : (es.take (i + 1)).any badE = ((es.take i).any badE || badE es[i]) := by
  rw [List.take_succ_eq_append_getElem h, List.any_append]
  simp
theorem lines_take (es : List S47) (i : Nat) (h : i < es.length) : ((es.take (i + 1)).map lineE).flatten = ((es.take i).map lineE).flatten ++ lineE es[i] := by
  rw [List.take_succ_eq_append_getElem h, List.map_append, List.flatten_append]
  simp
theorem snoc10 (l : List UInt8) : ((⟨l.toArray⟩ : ByteArray) ++ ⟨#[10]⟩).data.toList = l ++ [10] := by simp
theorem snoc10_size (y : ByteArray) : (y ++ (⟨#[10]⟩ : ByteArray)).size = y.size + 1 := by rw [ByteArray.size_append]; rfl
theorem mk_size (l : List UInt8) : (⟨l.toArray⟩ : ByteArray).size = l.length := by show l.toArray.size = _; simp
set_option maxHeartbeats 8000000 in
set_option maxRecDepth 100000 in
theorem refprint_calls (c0 c1 c2 c3 c4 : Int) (A : Option Addr) (cap : Nat) (es : List S47) (w : World) (hC : Kd.C k47 w A es.length es) (hcap : es.length ≤ cap) (hlim : es.length ≤ 1000000) (hok : ∀ e ∈ es, EvOk e)
    (hcs : ∀ n ∈ [c0, c1, c2, c3, c4], i64 n) :
    Calls Tryd.prog 21 #[.agg #[.int .i64 c0, .int .i64 c1, .int .i64 c2, .int .i64 c3, .int .i64 c4], .slice A es.length cap] w fun e w' => e = .returned (.tuple #[.string (printP [c0, c1, c2, c3, c4] es).1, .int .i64 (printP [c0, c1, c2, c3, c4] es).2]) ∧ Below w.heap.size w w' := by
  obtain ⟨i0, hi, hz0, hz1, hz2⟩ := info_parts infoB
  have HC := Lib.hid hC
  have HOK := Lib.hid hok
  have HCS := Lib.hid hcs
  have hnx := nx_alloc (w.alloc (.cells #[.int .i64 c0, .int .i64 c1, .int .i64 c2, .int .i64 c3, .int .i64 c4] 28)) [c0, c1, c2, c3, c4] (by simp)
  rw [World.size_alloc] at hnx
  have hrl := refline_calls setB (some ⟨w.heap.size + 1, 0, none⟩) 5 [c0, c1, c2, c3, c4] _ hnx (by simp) (by decide) hcs
  have HRL := Lib.hid hrl
  have hsl := setline_len [c0, c1, c2, c3, c4] hcs
  have hrf : refLine setB [c0, c1, c2, c3, c4] = if [c0, c1, c2, c3, c4].any badN = true then (⟨#[]⟩, false) else (⟨(setB.data.toList ++ wordsT ([c0, c1, c2, c3, c4].map itoaB)).toArray⟩, true) := rfl
  have hpp : printP [c0, c1, c2, c3, c4] es = if ([c0, c1, c2, c3, c4].any badN || es.any badE) = true then (⟨#[]⟩, 2) else if 131072 < (lineW setB ([c0, c1, c2, c3, c4].map itoaB) ++ (es.map lineE).flatten).length then (⟨#[]⟩, 3) else (⟨(lineW setB ([c0, c1, c2, c3, c4].map itoaB) ++ (es.map lineE).flatten).toArray⟩, 0) := rfl
  have hlw : lineW setB ([c0, c1, c2, c3, c4].map itoaB) = setB.data.toList ++ wordsT ([c0, c1, c2, c3, c4].map itoaB) ++ [10] := rfl
  rw [hrf] at HRL
  obtain ⟨P, HPP⟩ : ∃ P, Hid (printP [c0, c1, c2, c3, c4] es = P) := ⟨_, Lib.hid rfl⟩
  rw [HPP.out]
  rw [hpp] at HPP
  rw [hlw] at hsl HPP
  have h5 : [c0, c1, c2, c3, c4].length = 5 := rfl
  generalize setB.data.toList ++ wordsT ([c0, c1, c2, c3, c4].map itoaB) = S at HRL hsl HPP
  generalize [c0, c1, c2, c3, c4].any badN = bn at HRL HPP
  have hS : S.length ≤ 1000 := by rw [List.length_append, List.length_singleton, h5] at hsl; omega
  have hB0 : Below w.heap.size w ((w.alloc (.cells #[.int .i64 c0, .int .i64 c1, .int .i64 c2, .int .i64 c3, .int .i64 c4] 28)).alloc (.cells ([c0, c1, c2, c3, c4].map (Value.int .i64)).toArray 3)) := push2 w _ _
  have HB0 := Lib.hid hB0
  clear hC hok hcs hnx hrl hrf hpp hlw hsl h5 hB0
  cases bn with
  | true =>
    rw [if_pos rfl] at HRL
    rw [Bool.true_or, if_pos rfl] at HPP
    go_enter Tryd.func21, Tryd.ntmps21
    go_wp2_with fail
    refine HRL.out.mono ?_
    rintro e w2 ⟨rfl, hb2⟩
    have HB2 := Lib.hid (then_below HB0.out hb2)
    clear hb2
    go_wp2_with fail
    go_ret2
    rw [← HPP.out]
    exact ⟨rfl, HB2.out⟩
  | false =>
    rw [if_neg (by decide)] at HRL
    rw [Bool.false_or] at HPP
    have hz9 := mk_size S
    have kb := fun W => print_bytes (P := Tryd.prog) 9 48 5 Tryd.underlying9 Tryd.underlying48 Tryd.underlying5 ((⟨S.toArray⟩ : ByteArray) ++ ⟨#[10]⟩) W
    have hsn := snoc10 S
    have hss := snoc10_size ⟨S.toArray⟩
    have hadd := fun W => run_string_add_sum (P := Tryd.prog) W ⟨S.toArray⟩ ⟨#[10]⟩ (by rw [hz9]; show S.length + 1 ≤ _; omega)
    generalize (⟨S.toArray⟩ : ByteArray) ++ ⟨#[10]⟩ = y0 at kb hsn hss hadd
    have hy0 : y0.size ≤ 2000 := by omega
    clear hss
    generalize (⟨S.toArray⟩ : ByteArray) = sB at HRL hz9 hadd
    clear hz9
    go_enter Tryd.func21, Tryd.ntmps21
    go_wp2_with fail
    refine HRL.out.mono ?_
    rintro e w2 ⟨rfl, hb2⟩
    have HB2 := Lib.hid (then_below HB0.out hb2)
    clear hb2
    go_wp2_with fail
    have hrt := RowT.conv w2 y0 (by omega)
    rw [hsn] at hrt
    have HRT := Lib.hid hrt
    have hyl : y0.size = (S ++ [10]).length := by rw [← hsn]; exact (size_toList y0).symm
    have HBW : Hid (Below w.heap.size w (Lib.bytesWorld w2 5 y0)) := Lib.hid (bytes_below HB2.out HB2.out.size 5 y0)
    have hw2 := HB2.out.size
    have HL0 : Hid ((S ++ [10]).length ≤ 2000) := Lib.hid (by omega)
    generalize S ++ [10] = T0 at HRT HPP HL0 hyl hsn
    clear hrt HRL hadd HB0 hsn hyl
    go_loopg [8, 9, 10, 11] es.length (fun gg v8 v9 v10 v11 w' => ∃ (i : Nat), v9 = .int .i64 (i : Int) ∧ Hid (i + gg = es.length) ∧ Hid (RowT w' w.heap.size v8 (T0 ++ ((es.take i).map lineE).flatten)) ∧ Hid ((es.take i).any badE = false) ∧ Hid (Below w.heap.size w w'))
    case atStart => exact ⟨0, rfl, Lib.hid (by simp), Lib.hid (by simpa using HRT.out.weaken hw2), Lib.hid (by simp), HBW⟩
    case round =>
      obtain ⟨i, rfl, HI, HR, HNB, HB⟩ := hrel
      by_cases hi9 : i < es.length
      · have hCr := Kd.C_below HC.out HB.out
        obtain ⟨b, o, rfl, y0', y1', y2'⟩ := ev_at hCr i hi9
        have hokx := HOK.out _ (List.getElem_mem hi9)
        have HAT := Lib.hid (badE_take es i hi9)
        have HLT := Lib.hid (lines_take es i hi9)
        have hbad : badE es[i] = true → es.any badE = true := fun h => List.any_eq_true.2 ⟨_, List.getElem_mem hi9, h⟩
        have hll := linesE_len (es.take i) (fun e he => HOK.out e (List.mem_of_mem_take he))
        have htl : (es.take i).length ≤ es.length := by rw [List.length_take]; omega
        have hlx := lineE_len _ hokx
        rw [lineE_lineN, List.length_append, List.length_singleton] at hlx
        have hln := lineE_lineN es[i]
        have hre := refevent_calls es[i] wr hokx
        generalize hex : es[i] = x at y0' y1' y2' hokx HAT HLT hbad hlx hln hre
        have HRE := Lib.hid hre
        have HBAD := Lib.hid hbad
        have HLN := Lib.hid hln
        clear hCr hre hbad hln hex
        go_wp2_with fail
        refine HRE.out.mono ?_
        rintro e w3 ⟨t, ok, rfl, hk1, hk2, hb3⟩
        have HB3 := Lib.hid (then_below HB.out hb3)
        have HR3 := Lib.hid (HR.out.below hb3)
        clear hb3 y0' y1' y2' HR
        cases hbx : badE x with
        | true =>
          obtain rfl := hk1 hbx
          have HP9 : Hid ((⟨#[]⟩, 2) = P) := Lib.hid (by rw [← HPP.out, if_pos (HBAD.out hbx)])
          clear hk1 hk2
          go_wp2_with fail
          go_ret2
          rw [← HP9.out]
          exact ⟨rfl, HB3.out⟩
        | false =>
          obtain ⟨rfl, rfl⟩ := hk2 hbx
          have HBX := Lib.hid hbx
          clear hk1 hk2 hbx
          have hz9 := mk_size (lineN x)
          have hsn := snoc10 (lineN x)
          have hss := snoc10_size ⟨(lineN x).toArray⟩
          have hadd := fun W => run_string_add_sum (P := Tryd.prog) W ⟨(lineN x).toArray⟩ ⟨#[10]⟩ (by rw [hz9]; show (lineN x).length + 1 ≤ _; omega)
          generalize (⟨(lineN x).toArray⟩ : ByteArray) ++ ⟨#[10]⟩ = y at hsn hss hadd
          have hys : y.size ≤ 2200000 := by omega
          clear hss
          generalize (⟨(lineN x).toArray⟩ : ByteArray) = sx at hz9 hadd
          clear hz9
          rw [← HLN.out] at hsn
          have HSN := Lib.hid hsn
          clear hsn
          have hq : (T0 ++ ((es.take i).map lineE).flatten).length + y.size ≤ 140737488355328 := by rw [List.length_append]; have := HL0.out; omega
          obtain ⟨X2, HX2a, HX2b⟩ : ∃ X2, Hid (T0 ++ ((es.take i).map lineE).flatten ++ y.data.toList = X2) ∧ Hid (X2 = T0 ++ ((es.take (i + 1)).map lineE).flatten) := ⟨_, Lib.hid rfl, Lib.hid (by rw [HSN.out, List.append_assoc, ← HLT.out])⟩
          generalize T0 ++ ((es.take i).map lineE).flatten = X at HR3 hq HX2a
          have HQ := Lib.hid hq
          clear hq
          obtain ⟨g8, cap8, cur8, fz8, e8, _⟩ := HR3.out.ex
          subst e8
          go_wp2_with (first | (at_builtin; refine append_rowT rfl _ _ 48 9 rfl w.heap.size i0 Tryd.underlying48 Tryd.underlying9 hi hz0 hz1 hz2 _ _ rfl HR3.out y rfl HQ.out HB3.out.size ?_; intro v4 w4 hr4 hb4; rw [HX2a.out] at hr4; obtain ⟨g4, cap4, cur4, fz4, e4, h4'⟩ := hr4.ex; subst e4; have HR4 := Lib.hid hr4; have HB4 := Lib.hid (HB3.out.trans hb4); clear hr4 hb4 h4'))
          go_roundg (es.length - (i + 1))
          case measure => have := HI.out; omega
          case rel => exact ⟨i + 1, by go_num, Lib.hid (by omega), Lib.hid (by rw [← HX2b.out]; exact HR4.out), Lib.hid (by rw [HAT.out, HNB.out, HBX.out]; rfl), HB4⟩
      · have hi2 : i = es.length := by have := HI.out; omega
        rw [hi2, List.take_length] at HR HNB
        rw [HNB.out, if_neg (by decide)] at HPP
        have htext := HR.out.text
        obtain ⟨g8, cap8, cur8, fz8, e8, _⟩ := HR.out.ex
        generalize T0 ++ (es.map lineE).flatten = TX at HR HPP htext e8
        subst e8
        by_cases hbig : 131072 < TX.length
        · have d1 : decide ((131072 : Int) < (TX.length : Int)) = true := decide_eq_true (by omega)
          rw [if_pos hbig] at HPP
          go_wp2_with fail
          go_ret2
          rw [← HPP.out]
          exact ⟨rfl, HB.out⟩
        · have d1 : decide ((131072 : Int) < (TX.length : Int)) = false := decide_eq_false (by omega)
          rw [if_neg hbig] at HPP
          go_wp2_with fail
          go_ret2
          rw [← HPP.out]
          exact ⟨rfl, HB.out⟩
end Go.Proofs.YtipccndoffcfiaaDoor.Script
