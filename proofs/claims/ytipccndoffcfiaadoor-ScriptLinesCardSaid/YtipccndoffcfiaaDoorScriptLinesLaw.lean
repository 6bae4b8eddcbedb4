/- ScriptLines' law, as it is called. -/
import Derived.Test.YtipccndoffcfiaaDoorScriptTok
namespace Go.Proofs.YtipccndoffcfiaaDoor.Script
open Go.RowKit Go.IntWalk Go.Proofs.YtipccndoffcfiaaDoor.PRef Go.Proofs.YtipccndoffcfiaaDoorW.PrintWords Go.Proofs.YtipccndoffcfiaaDoorW.PrintLast Go.Proofs.YtipccndoffcfiaaDoor.Rounds
attribute [local go_sem] Oper.semAt_some
set_option linter.unusedVariables false
set_option linter.unusedSimpArgs false
set_option maxHeartbeats 8000000 in
set_option maxRecDepth 100000 in
theorem lines_law (c0 c1 c2 c3 c4 : Int) (A : Option Addr) (cap : Nat) (es : List S47) (w : World) (hcs : ∀ n ∈ [c0, c1, c2, c3, c4], i64 n) (hx : EvX w A cap es) (he : Env w) :
    Calls Tryd.prog 8 #[.agg #[.int .i64 c0, .int .i64 c1, .int .i64 c2, .int .i64 c3, .int .i64 c4], .slice A es.length cap] w fun e w' => e = .returned (.bool true) ∧ Below w.heap.size w w' := by
  have hb0 := below_push w (.cells #[.int .i64 c0, .int .i64 c1, .int .i64 c2, .int .i64 c3, .int .i64 c4] 28)
  have HX0 := Lib.hid (hx.below hb0)
  have HE0 := Lib.hid (he.below hb0)
  have HB0 := Lib.hid hb0
  have hC0 := ptrs_alloc w 0 28 [.int .i64 c0, .int .i64 c1, .int .i64 c2, .int .i64 c3, .int .i64 c4]
  have HC0 := Lib.hid hC0
  have HCS := Lib.hid hcs
  clear hb0 hx he hC0 hcs
  go_enter Tryd.func8, Tryd.ntmps8
  go_wp2_with fail
  refine (great_calls A cap es _ HX0.out).mono ?_
  rintro e w1 ⟨rfl, hb1⟩
  have HX1 := Lib.hid (HX0.out.below hb1)
  have HE1 := Lib.hid (HE0.out.below hb1)
  have HC1 := Lib.hid (HC0.out.below hb1)
  have HB1 := Lib.hid (then_below HB0.out hb1)
  clear hb1 HX0 HE0 HC0 HB0
  cases hg : greatP es with
  | true =>
    go_wp2_with fail
    refine (awake_calls _ HE1.out).mono ?_
    rintro e w2 ⟨rfl, hb⟩
    have HB2 := Lib.hid (then_below HB1.out hb)
    clear hb
    go_wp2_with fail
    go_ret
    exact ⟨rfl, HB2.out⟩
  | false =>
    obtain ⟨hl, hs⟩ := small_of hg
    have HS := Lib.hid hs
    clear hg hs
    obtain ⟨x0, x1, x2, x3, x4, xf⟩ := blk_five HC1.out
    go_wp2_with fail
    refine (print_calls c0 c1 c2 c3 c4 A cap es w1 HX1.out.1 HX1.out.2.1 (by omega) (HX1.out.ok HS.out) HCS.out HE1.out).mono ?_
    rintro e w2 ⟨rfl, hb2⟩
    have HE2 := Lib.hid (HE1.out.below hb2)
    have HB2 := Lib.hid (then_below HB1.out hb2)
    clear hb2 x0 x1 x2 x3 x4 xf HX1 HE1 HC1 HB1 HS
    have hp := lines_plain [c0, c1, c2, c3, c4] es
    generalize printP [c0, c1, c2, c3, c4] es = P at hp ⊢
    obtain ⟨tx, r⟩ := P
    simp only at hp ⊢
    rcases hp with ⟨h1, rfl⟩ | ⟨rfl, tx, rfl, hc, ht⟩
    · have d1 : decide (r = 0) = false := decide_eq_false h1
      go_wp2_with fail
      refine (awake_calls _ HE2.out).mono ?_
      rintro e w3 ⟨rfl, hb3⟩
      have HB3 := Lib.hid (then_below HB2.out hb3)
      clear hb3
      go_wp2_with fail
      go_ret
      exact ⟨rfl, HB3.out⟩
    · have hz : (⟨(tx ++ [10]).toArray⟩ : ByteArray).size = tx.length + 1 := by
        have := B_size (tx ++ [10])
        rw [List.length_append] at this
        exact this
      have hlist : (⟨(tx ++ [10]).toArray⟩ : ByteArray).data.toList = tx ++ [10] := by simp
      have hlast : ∀ (h : tx.length < (tx ++ [10]).length), (tx ++ [10])[tx.length] = 10 := fun h => by simp
      generalize hT : (⟨(tx ++ [10]).toArray⟩ : ByteArray) = T at hz hlist
      go_wp2_with fail
      have HT := Lib.hid hlist
      have HC := Lib.hid hc
      have HZ := Lib.hid hz
      have hzb : T.size ≤ 131073 := by omega
      clear hlist hc hz hT
      go_loopg [7, 8] T.size (fun gg v7 v8 w' => ∃ (i : Nat), v8 = .int .i64 (i : Int) ∧ Hid (i + gg = T.size) ∧ v7 = .int .i64 ((((T.data.toList.take i).count 10 : Nat)) : Int) ∧ w' = w2)
      case atStart => exact ⟨0, rfl, Lib.hid (by simp), by simp, rfl⟩
      case round =>
        obtain ⟨i, rfl, HI, rfl, rfl⟩ := hrel
        have hcl : (T.data.toList.take i).count 10 ≤ 131073 := Nat.le_trans (List.count_le_length) (by rw [List.length_take, size_toList]; omega)
        by_cases hi : i < T.size
        · have hil : i < T.data.toList.length := by rw [size_toList]; exact hi
          have hcn : (T.data.toList.take (i + 1)).count 10 = (T.data.toList.take i).count 10 + if T[i] = 10 then 1 else 0 := by
            rw [List.take_succ_eq_append_getElem hil, List.count_append]
            congr 1
            rw [List.count_singleton]
            show (if (T[i] == 10) = true then 1 else 0) = _
            simp
          have HCN := Lib.hid hcn
          clear hcn
          by_cases hb : T[i] = 10
          · have d1 : ((T[i].toNat : Int) == 10) = true := by rw [hb]; rfl
            have hcn := HCN.out
            rw [if_pos hb] at hcn
            have HCN2 := Lib.hid hcn
            clear hcn hb
            go_wp2_with fail
            go_roundg (T.size - (i + 1))
            case measure => have := HI.out; omega
            case rel => exact ⟨i + 1, by go_num, Lib.hid (by omega), by rw [HCN2.out]; go_num, rfl⟩
          · have d1 : ((T[i].toNat : Int) == 10) = false := by
              rw [beq_eq_false_iff_ne]
              intro e
              exact hb (UInt8.toNat_inj.1 (by show T[i].toNat = 10; omega))
            have hcn := HCN.out
            rw [if_neg hb, Nat.add_zero] at hcn
            have HCN2 := Lib.hid hcn
            clear hcn hb
            go_wp2_with fail
            go_roundg (T.size - (i + 1))
            case measure => have := HI.out; omega
            case rel => exact ⟨i + 1, by go_num, Lib.hid (by omega), by rw [HCN2.out]; rfl, rfl⟩
        · obtain rfl : i = T.size := by have := HI.out; omega
          have hp : 0 < T.size := by have := HZ.out; omega
          have hq : T.size - 1 < T.data.toList.length := by rw [size_toList]; omega
          have e1 : (((T.data.toList.take T.size).count 10 : Nat) : Int) = 1 + (es.length : Int) := by
            rw [List.take_of_length_le (Nat.le_of_eq (size_toList T)), HT.out, HC.out]
            omega
          have e2 : ((T[T.size - 1]'(by omega)).toNat : Int) = 10 := by
            have h0 : T[T.size - 1]'(by omega) = T.data.toList[T.size - 1] := rfl
            rw [h0]
            have h1 := HZ.out
            have h2 : T.data.toList[T.size - 1]? = some 10 := by rw [HT.out, show T.size - 1 = tx.length by omega]; simp
            rw [List.getElem?_eq_getElem hq] at h2
            rw [Option.some.inj h2]
            rfl
          clear hq
          go_wp2_with fail
          refine (awake_calls _ HE2.out).mono ?_
          rintro e w3 ⟨rfl, hb3⟩
          have HB3 := Lib.hid (then_below HB2.out hb3)
          clear hb3
          go_wp2_with fail
          go_ret
          exact ⟨rfl, HB3.out⟩
end Go.Proofs.YtipccndoffcfiaaDoor.Script
