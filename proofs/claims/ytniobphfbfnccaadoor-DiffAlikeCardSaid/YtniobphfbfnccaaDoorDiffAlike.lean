/- The walk of the law DiffAlike answers true, whatever the two lists. -/
import Derived.Test.YtniobphfbfnccaaDoorDiffAlikeP
import Derived.Outline
import Derived.Maps.AppendAt
import Derived.WalkSpells
import Derived.OwnWalk
import Derived.RangeFuncRecord
namespace Go.Proofs.YtniobphfbfnccaaDoor.Alike
open Go.RowKit Go.Shelf Go.Proofs.YtniobphfbfnccaaDoor.PAll Go.Proofs.YtniobphfbfnccaaDoorW.PrintWords Go.Proofs.YtniobphfbfnccaaDoor.Num
attribute [local go_sem] Oper.semAt_some
set_option linter.unusedVariables false

/-- A row that is read. -/
def CK {α : Type} (d : Kd α) (W : World) (A : Option Addr) (c : Nat) (l : List α) : Prop := d.C W A l.length l ∧ l.length ≤ c
theorem CK.below {α : Type} {d : Kd α} {W W' : World} {A : Option Addr} {c : Nat} {l : List α} (h : CK d W A c l) (hb : Below W.heap.size W W') : CK d W' A c l := ⟨Kd.C_below h.1 hb, h.2⟩
theorem ck_of_R {α : Type} {d : Kd α} {e : Nat} {W : World} {base : Nat} {ok : Nat → Prop} {v : Value} {l : List α} (h : Kd.R d e W base ok v l) : ∃ A c, v = .slice A l.length c ∧ CK d W A c l := by
  obtain ⟨A, c, he, hl, hc⟩ := Kd.R_reads h
  exact ⟨A, c, he, hc, hl⟩
theorem ck_of_own {W : World} {n₀ : Nat} {v : Value} {l : List ByteArray} (h : W.ownsRow n₀ 9 1 v l.length (l.map Value.string)) : ∃ A c, v = .slice A l.length c ∧ CK Kd.string W A c l := by
  have hr : Kd.R Kd.string 9 W n₀ (fun _ => True) v l := Kd.R_of_own (enc := Value.string) (h1 := fun _ => rfl) h (fun _ _ => trivial)
  exact ck_of_R hr
theorem Drawn0.below {w w' : World} (h : Drawn0 w w') : Below w.heap.size w w' := by
  obtain ⟨n, rfl⟩ := h.out
  exact ⟨rfl, rfl, rfl, Nat.le_refl _, fun _ _ => rfl⟩
/-- The numbers lie in W. -/
def Cells (W : World) (A : Option Addr) (zs : List Int) : Prop :=
  zs = [] ∨ ∃ b off, A = some ⟨b, off, none⟩ ∧ b < W.heap.size ∧ ∀ j (h : j < zs.length), W.cell? ⟨b, off + j, none⟩ = some (.int .i64 zs[j])
theorem Cells.below {W W' : World} {A : Option Addr} {zs : List Int} (h : Cells W A zs) (hb : Below W.heap.size W W') : Cells W' A zs := by
  rcases h with rfl | ⟨b, off, rfl, h1, h2⟩
  · exact .inl rfl
  · exact .inr ⟨b, off, rfl, Nat.lt_of_lt_of_le h1 hb.size, fun j hj => (hb.cell (p := ⟨b, off + j, none⟩) h1).trans (h2 j hj)⟩
theorem Cells.ck {W : World} {A : Option Addr} {c : Nat} {l : List Int} (h : Cells W A l) (hl : l.length ≤ 1000000) (hc : l.length ≤ c) : CK (Kd.int .i64) W A c l := by
  refine ⟨Kd.C_of_reads (enc := Value.int .i64) (d := (0 : Int)) (h1 := fun _ => rfl) ⟨rfl, by omega, fun hp => ?_⟩, hc⟩
  rcases h with rfl | ⟨g, off, e, hg, hcc⟩
  · simp at hp
  · exact ⟨_, e, fun j hj => by rw [Addr.add_lit, hcc j hj]; simp [List.getD_eq_getElem?_getD, hj]⟩
theorem gb {W W' : World} (h : Below W.heap.size W W') (row : Option Nat) : W.grownBy W' row := ⟨h.os, h.tape, h.output, h.size, fun k hk _ => h.block k hk⟩
theorem own_below {W W' : World} {n₀ : Nat} {e : TypeId} {s : Nat} {v : Value} {n : Nat} {xs : List Value} (h : W.ownsRow n₀ e s v n xs) (hb : Below W.heap.size W W') : W'.ownsRow n₀ e s v n xs :=
  h.kept (gb hb none) (by cases hv : v.ownBlock <;> simp)
theorem below_grown {B : Nat} {w W W' : World} {tmp : Obj} {row : Option Nat} (h : Below B w W) (hg : (W.alloc tmp).grownBy W' row) (hB : B ≤ W.heap.size) (hr : ∀ k, row = some k → B ≤ k) : Below B w W' :=
  h.trans (((Below.refl _ W).alloc hB tmp).grown hg (by simp; omega) hr)
theorem infoS : (Tryd.prog.info? 9).map (fun i => (i.zero, i.size, i.bytes)) = some (some (.string ⟨#[]⟩), 1, 16) := by kernel_rfl
theorem cell_one (w : World) (v : Value) (t : TypeId) : ∀ (j : Nat) u, ([v] : List Value)[j]? = some u → (w.alloc (.cells #[v] t)).cell? ((⟨w.heap.size, 0, none⟩ : Addr).add j) = some u := by
  intro j u hj
  rw [Addr.add_lit]
  have h := World.alloc_heap_new w (.cells #[v] t)
  simp only [World.cell?, h, Nat.zero_add]
  simpa using hj
/-- The texts of the first k. -/
def TxR (w : World) (xs : List Int) (k : Nat) (v : Value) (W : World) : Prop := W.ownsRow w.heap.size 9 1 v k (((xs.take k).map itoaB).map Value.string) ∧ Below w.heap.size w W
theorem txR_step {w W : World} {x : Int} {xs : List Int} {k : Nat} {v : Value} (hTk : xs.take (k + 1) = xs.take k ++ [x]) (h : W.ownsRow w.heap.size 9 1 v (k + 1) (((xs.take k).map itoaB).map Value.string ++ [.string (itoaB x)])) (hB : Below w.heap.size w W) : TxR w xs (k + 1) v W := by
  unfold TxR
  rw [hTk]
  exact ⟨by simpa using h, hB⟩
theorem txR_end {w W : World} {xs : List Int} {v : Value} (h : TxR w xs xs.length v W) : ∃ A c, v = .slice A (xs.map itoaB).length c ∧ CK Kd.string W A c (xs.map itoaB) := by
  have h1 := h.1
  rw [List.take_length] at h1
  exact ck_of_own (by simpa using h1)

theorem awake_calls (w : World) : Calls Tryd.prog 4 #[] w fun e w' => e = .returned (.bool true) ∧ Below w.heap.size w w' := by
  obtain ⟨k, hk⟩ := awake
  exact cortegelaw4_awake.calls k true w hk
set_option maxHeartbeats 4000000 in
set_option maxRecDepth 100000 in
theorem alike_long (A B : Option Addr) (c d : Nat) (xs ys : List Int) (w : World) (hl : 40 < xs.length ∨ 40 < ys.length) :
    Calls Tryd.prog 3 #[.slice A xs.length c, .slice B ys.length d] w fun e w' => e = .returned (.bool true) ∧ Below w.heap.size w w' := by
  by_cases h : 40 < xs.length
  · have h1 : decide ((40 : Int) < (xs.length : Int)) = true := by simp; omega
    clear hl
    go_enter Tryd.func3, Tryd.ntmps3
    go_wp2_with (go_at_call 4; refine (awake_calls _).mono ?_; rintro e w7 ⟨rfl, hB7⟩; have HB7 := Lib.hid hB7; clear hB7)
    go_ret
    exact ⟨rfl, HB7.out⟩
  · have h1 : decide ((40 : Int) < (xs.length : Int)) = false := by simp; omega
    have h2 : decide ((40 : Int) < (ys.length : Int)) = true := by simp; omega
    clear hl
    go_enter Tryd.func3, Tryd.ntmps3
    go_wp2_with (go_at_call 4; refine (awake_calls _).mono ?_; rintro e w7 ⟨rfl, hB7⟩; have HB7 := Lib.hid hB7; clear hB7)
    go_ret
    exact ⟨rfl, HB7.out⟩
set_option maxHeartbeats 8000000 in
set_option maxRecDepth 100000 in
theorem alike_short (A B : Option Addr) (c d : Nat) (xs ys : List Int) (w : World) (hl : xs.length ≤ 40) (hl' : ys.length ≤ 40) (hz : Cells w A xs) (hz' : Cells w B ys) (hc : xs.length ≤ c) (hd : ys.length ≤ d)
    (hwf : ∀ x ∈ xs, (Lit.int .i64 x).wf = true) (hwf' : ∀ x ∈ ys, (Lit.int .i64 x).wf = true) (hT : Tab w) :
    Calls Tryd.prog 3 #[.slice A xs.length c, .slice B ys.length d] w fun e w' => e = .returned (.bool true) ∧ Below w.heap.size w w' := by
  have h1 : decide ((40 : Int) < (xs.length : Int)) = false := by simp; omega
  have h2 : decide ((40 : Int) < (ys.length : Int)) = false := by simp; omega
  have HA := Lib.hid (hz.ck (c := c) (by omega) hc)
  have HBb := Lib.hid (hz'.ck (c := d) (by omega) hd)
  obtain ⟨X, hX⟩ : ∃ X, X = xs.map itoaB := ⟨_, rfl⟩
  obtain ⟨Y, hY⟩ : ∃ Y, Y = ys.map itoaB := ⟨_, rfl⟩
  have HF := Lib.hid (facts xs ys X Y hX hY hl hl')
  have HX := Lib.hid hX
  have HY := Lib.hid hY
  have HZ := Lib.hid hz
  have HZ' := Lib.hid hz'
  have HW := Lib.hid hwf
  have HW' := Lib.hid hwf'
  have HT := Lib.hid hT
  obtain ⟨iS, hiS, yS0, yS1, yS2⟩ := info_parts infoS
  clear hz hz' hwf hwf' hT hX hY
  go_enter Tryd.func3, Tryd.ntmps3
  go_wp2_with fail
  go_loopw [5, 7] (fun v i wr => ∃ k : Nat, k ≤ xs.length ∧ i = .int .i64 k ∧ TxR w xs k v wr) (fun _ i _ => xs.length - (intOf i).toNat)
  case atStart => exact ⟨0, Nat.zero_le _, rfl, World.ownsRow_nil _ _ _ _, Below.refl _ _⟩
  case round =>
    obtain ⟨k, hk, rfl, hV, hB⟩ := hrel
    have HB := Lib.hid hB
    have HV := Lib.hid hV
    clear hV hB
    by_cases hlt : k < xs.length
    · obtain ⟨b, off, rfl, hb, hcs⟩ : ∃ b off, A = some ⟨b, off, none⟩ ∧ b < w.heap.size ∧ ∀ j (h : j < xs.length), w.cell? ⟨b, off + j, none⟩ = some (.int .i64 xs[j]) := by
        rcases HZ.out with h | h
        · subst h; simp at hlt
        · exact h
      have hcw := hcs k hlt
      have hck : wr.cell? ⟨b, off + k, none⟩ = some (.int .i64 xs[k]) := (HB.out.cell (p := ⟨b, off + k, none⟩) hb).trans hcw
      have hwk : (Lit.int .i64 xs[k]).wf = true := HW.out _ (List.getElem_mem hlt)
      have HTk : Hid (xs.take (k + 1) = xs.take k ++ [xs[k]]) := List.take_succ_eq_append_getElem hlt
      have HT0 := Lib.hid (HT.out.block (HB.out.block 0 HT.out.lt))
      clear hcs
      generalize xs[k] = x at hcw hck hwk HTk
      have hn0 := HB.out.size
      go_wp2_with (first
        | (go_at_call 5; refine (itoa_calls x _ hwk HT0.out).mono ?_; rintro e w1 ⟨rfl, hb1⟩; have hn1 := Nat.le_trans hn0 hb1.size; have HB1 := Lib.hid (HB.out.trans (hb1.mono HB.out.size)); have HV1 := Lib.hid (own_below HV.out hb1); clear hb1 hck HV HB HT0 hn0)
        | (at_builtin; refine wpList_append_own _ rfl _ _ 24 rfl w.heap.size 9 iS (.string ⟨#[]⟩) 1 16 Tryd.underlying24 hiS yS0 yS1 yS2 rfl (by decide) _ _ _ rfl (HV1.out.alloc _) ⟨w1.heap.size, 0, none⟩ 1 1 [.string (itoaB x)] rfl rfl (cell_one _ _ _) (by simp [Value.oneCell']) (by unfold maxLen; omega) (by omega) (by simp; omega) ?_; intro v2 w2 hown' hgrow _; have HV2 := Lib.hid hown'; have HB2 := Lib.hid (below_grown HB1.out hgrow hn1 (fun g e => (HV1.out.lt g e).1)); clear hown' hgrow HV1 HB1 hn1))
      exact ⟨⟨k + 1, by omega, by simp, txR_step HTk.out HV2.out HB2.out⟩, by simp [intOf]; omega⟩
    · obtain rfl : k = xs.length := by omega
      obtain ⟨A1, c1, rfl, hCx⟩ := txR_end ⟨HV.out, HB.out⟩
      rw [← HX.out] at hCx ⊢
      have HCx := Lib.hid hCx
      replace HA := Lib.hid (HA.out.below HB.out)
      replace HBb := Lib.hid (HBb.out.below HB.out)
      replace HT := Lib.hid (HT.out.below HB.out)
      have HZ2 : Hid (Cells wr B ys) := Lib.hid (Cells.below HZ'.out HB.out)
      clear hCx HV hlt HZ' HZ
      obtain ⟨wA, hw1⟩ : ∃ wA, wA = wr := ⟨_, rfl⟩
      rw [← hw1] at HB HA HBb HT HZ2 HCx ⊢
      clear hw1
      go_wp2_with fail
      have HBw := HB
      clear HB
      go_loopw [6, 8] (fun v i wr => ∃ k : Nat, k ≤ ys.length ∧ i = .int .i64 k ∧ TxR wA ys k v wr) (fun _ i _ => ys.length - (intOf i).toNat)
      case atStart => exact ⟨0, Nat.zero_le _, rfl, World.ownsRow_nil _ _ _ _, Below.refl _ _⟩
      case round =>
        obtain ⟨k, hk, rfl, hV, hB⟩ := hrel
        have HB := Lib.hid hB
        have HV := Lib.hid hV
        clear hV hB
        by_cases hlt : k < ys.length
        · obtain ⟨b, off, rfl, hb, hcs⟩ : ∃ b off, B = some ⟨b, off, none⟩ ∧ b < wA.heap.size ∧ ∀ j (h : j < ys.length), wA.cell? ⟨b, off + j, none⟩ = some (.int .i64 ys[j]) := by
            rcases HZ2.out with h | h
            · subst h; simp at hlt
            · exact h
          have hcw := hcs k hlt
          have hck : wr.cell? ⟨b, off + k, none⟩ = some (.int .i64 ys[k]) := (HB.out.cell (p := ⟨b, off + k, none⟩) hb).trans hcw
          have hwk : (Lit.int .i64 ys[k]).wf = true := HW'.out _ (List.getElem_mem hlt)
          have HTk : Hid (ys.take (k + 1) = ys.take k ++ [ys[k]]) := List.take_succ_eq_append_getElem hlt
          have HT0 := Lib.hid (HT.out.block (HB.out.block 0 HT.out.lt))
          clear hcs
          generalize ys[k] = x at hcw hck hwk HTk
          have hn0 := HB.out.size
          go_wp2_with (first
            | (go_at_call 5; refine (itoa_calls x _ hwk HT0.out).mono ?_; rintro e w1 ⟨rfl, hb1⟩; have hn1 := Nat.le_trans hn0 hb1.size; have HB1 := Lib.hid (HB.out.trans (hb1.mono HB.out.size)); have HV1 := Lib.hid (own_below HV.out hb1); clear hb1 hck HV HB HT0 hn0)
            | (at_builtin; refine wpList_append_own _ rfl _ _ 24 rfl wA.heap.size 9 iS (.string ⟨#[]⟩) 1 16 Tryd.underlying24 hiS yS0 yS1 yS2 rfl (by decide) _ _ _ rfl (HV1.out.alloc _) ⟨w1.heap.size, 0, none⟩ 1 1 [.string (itoaB x)] rfl rfl (cell_one _ _ _) (by simp [Value.oneCell']) (by unfold maxLen; omega) (by omega) (by simp; omega) ?_; intro v2 w2 hown' hgrow _; have HV2 := Lib.hid hown'; have HB2 := Lib.hid (below_grown HB1.out hgrow hn1 (fun g e => (HV1.out.lt g e).1)); clear hown' hgrow HV1 HB1 hn1))
          exact ⟨⟨k + 1, by omega, by simp, txR_step HTk.out HV2.out HB2.out⟩, by simp [intOf]; omega⟩
        · obtain rfl : k = ys.length := by omega
          obtain ⟨A2, c2, rfl, hCy⟩ := txR_end ⟨HV.out, HB.out⟩
          rw [← HY.out] at hCy ⊢
          have HCy := Lib.hid hCy
          replace HA := Lib.hid (HA.out.below HB.out)
          replace HBb := Lib.hid (HBb.out.below HB.out)
          replace HCx := Lib.hid (HCx.out.below HB.out)
          replace HB := Lib.hid (HBw.out.trans (HB.out.mono HBw.out.size))
          clear hCy HV hlt HZ2 HBw HT HX HY
          obtain ⟨n, P, S, k1, k2, k3, k4, k5, k6, k7, k8, k9, k10, f1, f2, f3, f4, f5, f6, f7, f8, f9, f10⟩ := HF.out
          have F1 := Lib.hid f1
          have F2 := Lib.hid f2
          have F3 := Lib.hid f3
          have F4 := Lib.hid f4
          have F5 := Lib.hid f5
          have F6 := Lib.hid f6
          have F7 := Lib.hid f7
          have F8 := Lib.hid f8
          have F9 := Lib.hid f9
          have F10 := Lib.hid f10
          clear f1 f2 f3 f4 f5 f6 f7 f8 f9 f10 HF
          obtain ⟨w2, hw2⟩ : ∃ w2, w2 = wr := ⟨_, rfl⟩
          rw [← hw2] at HB HA HBb HCx HCy ⊢
          clear hw2
          go_wp2_with fail
          refine (diff_Steps_int.calls k1 A c xs B d ys S _ HA.out.1 HA.out.2 HBb.out.1 HBb.out.2 F1.out).mono ?_
          rintro e w3 ⟨v, rfl, hr, hb⟩
          obtain ⟨A3, c3, rfl, hC⟩ := ck_of_R hr
          clear hr
          replace HA := Lib.hid (HA.out.below hb)
          replace HBb := Lib.hid (HBb.out.below hb)
          replace HCx := Lib.hid (HCx.out.below hb)
          replace HCy := Lib.hid (HCy.out.below hb)
          replace HB := Lib.hid (HB.out.trans (hb.mono HB.out.size))
          have HC3 := Lib.hid hC
          clear hb hC
          go_wp2_with fail
          refine (diff_Apply_int.calls k3 A c xs B d ys A3 c3 S ys true _ HA.out.1 HA.out.2 HBb.out.1 HBb.out.2 HC3.out.1 HC3.out.2 F3.out).mono ?_
          rintro e w4 ⟨v, rfl, hr, hb⟩
          obtain ⟨A4, c4, rfl, hC⟩ := ck_of_R hr
          clear hr
          replace HA := Lib.hid (HA.out.below hb)
          replace HBb := Lib.hid (HBb.out.below hb)
          replace HCx := Lib.hid (HCx.out.below hb)
          replace HCy := Lib.hid (HCy.out.below hb)
          replace HC3 := Lib.hid (HC3.out.below hb)
          replace HB := Lib.hid (HB.out.trans (hb.mono HB.out.size))
          have HC4 := Lib.hid hC
          clear hb hC
          go_wp2_with fail
          refine (diff_Length_int.calls k4 A c xs B d ys n _ HA.out.1 HA.out.2 HBb.out.1 HBb.out.2 F4.out).mono ?_
          rintro e w5 ⟨rfl, hb⟩
          replace HA := Lib.hid (HA.out.below hb)
          replace HBb := Lib.hid (HBb.out.below hb)
          replace HCx := Lib.hid (HCx.out.below hb)
          replace HCy := Lib.hid (HCy.out.below hb)
          replace HC3 := Lib.hid (HC3.out.below hb)
          replace HC4 := Lib.hid (HC4.out.below hb)
          replace HB := Lib.hid (HB.out.trans (hb.mono HB.out.size))
          clear hb
          go_wp2_with fail
          refine (diff_Length_string.calls k5 A1 c1 X A2 c2 Y n _ HCx.out.1 HCx.out.2 HCy.out.1 HCy.out.2 F5.out).mono ?_
          rintro e w6 ⟨rfl, hb⟩
          replace HA := Lib.hid (HA.out.below hb)
          replace HBb := Lib.hid (HBb.out.below hb)
          replace HCx := Lib.hid (HCx.out.below hb)
          replace HCy := Lib.hid (HCy.out.below hb)
          replace HC3 := Lib.hid (HC3.out.below hb)
          replace HC4 := Lib.hid (HC4.out.below hb)
          replace HB := Lib.hid (HB.out.trans (hb.mono HB.out.size))
          clear hb
          go_wp2_with fail
          refine (diff_Pairs_int.calls k6 A c xs B d ys P _ HA.out.1 HA.out.2 HBb.out.1 HBb.out.2 F6.out).mono ?_
          rintro e w7 ⟨v, rfl, hr, hb⟩
          obtain ⟨A7, c7, rfl, hC⟩ := ck_of_R hr
          clear hr
          replace HBb := Lib.hid (HBb.out.below hb)
          replace HCx := Lib.hid (HCx.out.below hb)
          replace HCy := Lib.hid (HCy.out.below hb)
          replace HC3 := Lib.hid (HC3.out.below hb)
          replace HC4 := Lib.hid (HC4.out.below hb)
          replace HB := Lib.hid (HB.out.trans (hb.mono HB.out.size))
          have HC7 := Lib.hid hC
          clear hb hC HA
          go_wp2_with fail
          refine (diff_Pairs_string.calls k7 A1 c1 X A2 c2 Y P _ HCx.out.1 HCx.out.2 HCy.out.1 HCy.out.2 F7.out).mono ?_
          rintro e w8 ⟨v, rfl, hr, hb⟩
          obtain ⟨A8, c8, rfl, hC⟩ := ck_of_R hr
          clear hr
          replace HBb := Lib.hid (HBb.out.below hb)
          replace HCx := Lib.hid (HCx.out.below hb)
          replace HCy := Lib.hid (HCy.out.below hb)
          replace HC3 := Lib.hid (HC3.out.below hb)
          replace HC4 := Lib.hid (HC4.out.below hb)
          replace HC7 := Lib.hid (HC7.out.below hb)
          replace HB := Lib.hid (HB.out.trans (hb.mono HB.out.size))
          have HC8 := Lib.hid hC
          clear hb hC
          go_wp2_with fail
          refine (cortegelaw4_samePairs.calls k8 A7 c7 P A8 c8 P true _ HC7.out.1 HC7.out.2 HC8.out.1 HC8.out.2 F8.out).mono ?_
          rintro e w9 ⟨rfl, hd⟩
          have hb := Drawn0.below hd
          clear hd
          replace HBb := Lib.hid (HBb.out.below hb)
          replace HCx := Lib.hid (HCx.out.below hb)
          replace HCy := Lib.hid (HCy.out.below hb)
          replace HC3 := Lib.hid (HC3.out.below hb)
          replace HC4 := Lib.hid (HC4.out.below hb)
          replace HB := Lib.hid (HB.out.trans (hb.mono HB.out.size))
          clear hb HC7 HC8
          go_wp2_with fail
          refine (diff_Steps_string.calls k2 A1 c1 X A2 c2 Y S _ HCx.out.1 HCx.out.2 HCy.out.1 HCy.out.2 F2.out).mono ?_
          rintro e w10 ⟨v, rfl, hr, hb⟩
          obtain ⟨A10, c10, rfl, hC⟩ := ck_of_R hr
          clear hr
          replace HBb := Lib.hid (HBb.out.below hb)
          replace HC3 := Lib.hid (HC3.out.below hb)
          replace HC4 := Lib.hid (HC4.out.below hb)
          replace HB := Lib.hid (HB.out.trans (hb.mono HB.out.size))
          have HC10 := Lib.hid hC
          clear hb hC HCx HCy
          go_wp2_with fail
          refine (cortegelaw0_SameSteps.calls k9 A3 c3 S A10 c10 S true _ HC3.out.1 HC3.out.2 HC10.out.1 HC10.out.2 F9.out).mono ?_
          rintro e w11 ⟨rfl, hd⟩
          have hb := Drawn0.below hd
          clear hd
          replace HBb := Lib.hid (HBb.out.below hb)
          replace HC4 := Lib.hid (HC4.out.below hb)
          replace HB := Lib.hid (HB.out.trans (hb.mono HB.out.size))
          clear hb HC3 HC10
          go_wp2_with fail
          refine (cortegelaw0_SameInts.calls k10 A4 c4 ys B d ys true _ HC4.out.1 HC4.out.2 HBb.out.1 HBb.out.2 F10.out).mono ?_
          rintro e w12 ⟨rfl, hd⟩
          have hb := Drawn0.below hd
          clear hd
          replace HB := Lib.hid (HB.out.trans (hb.mono HB.out.size))
          clear hb HC4 HBb
          go_wp2_with fail
          refine (awake_calls _).mono ?_
          rintro e w13 ⟨rfl, hb⟩
          replace HB := Lib.hid (HB.out.trans (hb.mono HB.out.size))
          clear hb
          go_wp2
          go_ret
          exact ⟨rfl, HB.out⟩
theorem alike_law (A : Option Addr) (c : Nat) (xs : List Int) (B : Option Addr) (d : Nat) (ys : List Int) (w : World) (hz : Cells w A xs) (_ : A = none → xs.length = 0 ∧ c = 0) (hc : xs.length ≤ c) (hwf : ∀ x ∈ xs, (Lit.int .i64 x).wf = true) (_ : xs.length * 8 ≤ 140737488351232)
    (hz' : Cells w B ys) (_ : B = none → ys.length = 0 ∧ d = 0) (hd : ys.length ≤ d) (hwf' : ∀ x ∈ ys, (Lit.int .i64 x).wf = true) (_ : ys.length * 8 ≤ 140737488351232) (hT : Tab w) :
    Calls Tryd.prog 3 #[.slice A xs.length c, .slice B ys.length d] w fun e w' => e = .returned (.bool true) ∧ Below w.heap.size w w' := by
  by_cases hl : 40 < xs.length ∨ 40 < ys.length
  · exact alike_long A B c d xs ys w hl
  · exact alike_short A B c d xs ys w (by omega) (by omega) hz hz' hc hd hwf hwf' hT
end Go.Proofs.YtniobphfbfnccaaDoor.Alike
