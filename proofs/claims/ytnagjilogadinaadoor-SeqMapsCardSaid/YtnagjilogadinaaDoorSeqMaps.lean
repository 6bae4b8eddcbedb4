/- The walk of the law SeqMaps answers true, whatever the list and the number. -/
import Derived.Test.YtnagjilogadinaaDoorSeqSame
import Derived.Test.YtnagjilogadinaaDoorSeqText
import Derived.Outline
import Derived.Deep.RegionHeld3
namespace Go.Proofs.YtnagjilogadinaaDoor.SeqK
open Go.RowKit Go.Shelf Go.Proofs.YtnagjilogadinaaDoor.SeqM Go.Proofs.YtnagjilogadinaaDoor.SeqI Go.Proofs.YtnagjilogadinaaDoor.Num
attribute [local go_sem] Oper.semAt_some
set_option linter.unusedVariables false
set_option maxHeartbeats 4000000 in
set_option maxRecDepth 100000 in
theorem maps_long (A : Option Addr) (cap : Nat) (xs : List Int) (a : Int) (w : World) (hl : 60 < xs.length) :
    Calls Tryd.prog 3 #[.slice A xs.length cap, .int .i64 a] w fun e w' => e = .returned (.bool true) ∧ Below w.heap.size w w' := by
  go_enter Tryd.func3, Tryd.ntmps3
  go_wp2_with (go_at_call 5; refine (awake_calls _).mono ?_; rintro e w7 ⟨rfl, hB7⟩; have HB7 := Lib.hid hB7; clear hB7)
  go_ret
  exact ⟨rfl, HB7.out⟩
theorem _root_.Go.Proofs.YtnagjilogadinaaDoor.SeqI.Cells.below' {W W' : World} {A : Option Addr} {zs : List Int} (h : Cells W A zs) (hb : Below W.heap.size W W') : Cells W' A zs := h.below hb
theorem gb {W W' : World} (h : Below W.heap.size W W') (row : Option Nat) : W.grownBy W' row := ⟨h.os, h.tape, h.output, h.size, fun k hk _ => h.block k hk⟩
theorem own_below {W W' : World} {n₀ : Nat} {e : TypeId} {s : Nat} {v : Value} {n : Nat} {xs : List Value} (h : W.ownsRow n₀ e s v n xs) (hb : Below W.heap.size W W') : W'.ownsRow n₀ e s v n xs :=
  h.kept (gb hb none) (by cases hv : v.ownBlock <;> simp)
/-- Rows of unlike elements lie apart. -/
theorem apart {W : World} {n₀ n₁ : Nat} {e e' : TypeId} {s s' : Nat} {v v' : Value} {n n' : Nat} {xs ys : List Value} (h : W.ownsRow n₀ e s v n xs) (h' : W.ownsRow n₁ e' s' v' n' ys) (he : e ≠ e') : v.ownBlock = none ∨ v.ownBlock ≠ v'.ownBlock := by
  rcases h.2 with ⟨rfl, _⟩ | ⟨g, cap, cur, rfl, _, hg, _⟩
  · exact .inl rfl
  · rcases h'.2 with ⟨rfl, _⟩ | ⟨g', cap', cur', rfl, _, hg', _⟩
    · exact .inr (by simp [Value.ownBlock])
    · refine .inr fun e' => ?_
      simp [Value.ownBlock] at e'
      subst e'
      rw [hg] at hg'
      cases hg'
      exact he rfl
theorem other {W W' : World} {tmp : Obj} {n₀ n₁ : Nat} {e e' : TypeId} {s s' : Nat} {v v' : Value} {n n' : Nat} {xs ys : List Value} (hg : (W.alloc tmp).grownBy W' v'.ownBlock) (h : W.ownsRow n₀ e s v n xs) (h' : W.ownsRow n₁ e' s' v' n' ys) (he : e ≠ e') : W'.ownsRow n₀ e s v n xs :=
  (h.alloc tmp).kept hg (apart h h' he)
theorem below_grown {B : Nat} {w W W' : World} {tmp : Obj} {row : Option Nat} (h : Below B w W) (hg : (W.alloc tmp).grownBy W' row) (hB : B ≤ W.heap.size) (hr : ∀ k, row = some k → B ≤ k) : Below B w W' :=
  h.trans (((Below.refl _ W).alloc hB tmp).grown hg (by simp; omega) hr)

/-- The loop's relation behind k rounds. -/
def MapsR (w : World) (a : Int) (xs : List Int) (k : Nat) (vt ve vs : Value) (W : World) : Prop :=
  vs = .int .i64 (foldW a (xs.take k)) ∧ W.ownsRow w.heap.size 9 1 vt k (((xs.take k).map itoaB).map Value.string) ∧ W.ownsRow w.heap.size 3 1 ve ((xs.take k).filter evenB).length (((xs.take k).filter evenB).map (Value.int .i64)) ∧ Below w.heap.size w W

theorem mapsR_t {w W : World} {a x : Int} {xs : List Int} {k : Nat} {vt ve : Value} (hTk : xs.take (k + 1) = xs.take k ++ [x]) (hev : evenB x = true)
    (hVt : W.ownsRow w.heap.size 9 1 vt (k + 1) (((xs.take k).map itoaB).map Value.string ++ [.string (itoaB x)])) (hVe : W.ownsRow w.heap.size 3 1 ve (((xs.take k).filter evenB).length + 1) (((xs.take k).filter evenB).map (Value.int .i64) ++ [.int .i64 x])) (hB : Below w.heap.size w W) :
    MapsR w a xs (k + 1) vt ve (.int .i64 (wrap64 (foldW a (xs.take k) + x))) W := by
  unfold MapsR
  rw [hTk]
  exact ⟨by rw [foldW_snoc], by simpa using hVt, by simpa [List.filter_append, hev] using hVe, hB⟩
theorem mapsR_f {w W : World} {a x : Int} {xs : List Int} {k : Nat} {vt ve : Value} (hTk : xs.take (k + 1) = xs.take k ++ [x]) (hev : evenB x = false)
    (hVt : W.ownsRow w.heap.size 9 1 vt (k + 1) (((xs.take k).map itoaB).map Value.string ++ [.string (itoaB x)])) (hVe : W.ownsRow w.heap.size 3 1 ve ((xs.take k).filter evenB).length (((xs.take k).filter evenB).map (Value.int .i64))) (hB : Below w.heap.size w W) :
    MapsR w a xs (k + 1) vt ve (.int .i64 (wrap64 (foldW a (xs.take k) + x))) W := by
  unfold MapsR
  rw [hTk]
  exact ⟨by rw [foldW_snoc], by simpa using hVt, by simpa [List.filter_append, hev] using hVe, hB⟩

set_option maxHeartbeats 4000000 in
set_option maxRecDepth 100000 in
theorem maps_short (A : Option Addr) (cap : Nat) (xs : List Int) (a : Int) (w : World) (hl : xs.length ≤ 60) (hz : Cells w A xs) (hnil : A = none → xs = []) (hwf : ∀ x ∈ xs, (Lit.int .i64 x).wf = true) (hT : Tab w) :
    Calls Tryd.prog 3 #[.slice A xs.length cap, .int .i64 a] w fun e w' => e = .returned (.bool true) ∧ Below w.heap.size w w' := by
  have hl1 : decide ((60 : Int) < (xs.length : Int)) = false := by simp; omega
  go_enter Tryd.func3, Tryd.ntmps3
  obtain ⟨iI, hiI, yI0, yI1, yI2⟩ := info_parts info3
  obtain ⟨iS, hiS, yS0, yS1, yS2⟩ := info_parts SeqS.info9
  have HZ := Lib.hid hz
  have HT := Lib.hid hT
  have HWf := Lib.hid hwf
  clear hz hT hwf
  go_wp2_with fail
  go_loopw [5, 6, 7, 8] (fun vt ve vs i wr => ∃ k : Nat, k ≤ xs.length ∧ i = .int .i64 k ∧ MapsR w a xs k vt ve vs wr) (fun _ _ _ i _ => xs.length - (intOf i).toNat)
  case atStart => exact ⟨0, Nat.zero_le _, rfl, rfl, World.ownsRow_nil _ _ _ _, World.ownsRow_nil _ _ _ _, Below.refl _ _⟩
  case round =>
    obtain ⟨k, hk, rfl, rfl, hVt, hVe, hB⟩ := hrel
    have HB := Lib.hid hB
    have HVt := Lib.hid hVt
    have HVe := Lib.hid hVe
    clear hVt hVe hB
    by_cases hlt : k < xs.length
    · obtain ⟨b, off, rfl, hb, hcs⟩ : ∃ b off, A = some ⟨b, off, none⟩ ∧ b < w.heap.size ∧ ∀ j (h : j < xs.length), w.cell? ⟨b, off + j, none⟩ = some (.int .i64 xs[j]) := by
        rcases HZ.out with h | h
        · subst h; simp at hlt
        · exact h
      have hcw := hcs k hlt
      have hck : wr.cell? ⟨b, off + k, none⟩ = some (.int .i64 xs[k]) := (HB.out.cell (p := ⟨b, off + k, none⟩) hb).trans hcw
      have hwk : (Lit.int .i64 xs[k]).wf = true := HWf.out _ (List.getElem_mem hlt)
      have HTk : Hid (xs.take (k + 1) = xs.take k ++ [xs[k]]) := List.take_succ_eq_append_getElem hlt
      have HT0 := Lib.hid (HT.out.block (HB.out.block 0 HT.out.lt))
      have hel : ((xs.take k).filter evenB).length ≤ k := Nat.le_trans (List.length_filter_le _ _) (by simp; omega)
      clear hcs
      generalize xs[k] = x at hcw hck hwk HTk
      have hn0 := HB.out.size
      cases hev : evenB x with
      | true =>
        go_wp2_with (first
          | (go_at_call 6; refine (text_calls x _ hwk HT0.out).mono ?_; rintro e w1 ⟨rfl, hb1⟩; have hn1 := Nat.le_trans hn0 hb1.size; have HB1 := Lib.hid (HB.out.trans (hb1.mono HB.out.size)); have HVt1 := Lib.hid (own_below HVt.out hb1); have HVe1 := Lib.hid (own_below HVe.out hb1); clear hb1 hck HVt HVe HB HT0 hn0)
          | (at_builtin; refine wpList_append_own _ rfl _ _ 24 rfl w.heap.size 9 iS (.string ⟨#[]⟩) 1 16 Tryd.underlying24 hiS yS0 yS1 yS2 rfl (by decide) _ _ _ rfl (HVt1.out.alloc _) ⟨w1.heap.size, 0, none⟩ 1 1 [.string (itoaB x)] rfl rfl (cell_one_new _ _ _) (by simp [Value.oneCell']) (by unfold maxLen; omega) (by omega) (by simp; omega) ?_; intro v2 w2 hown' hgrow _; have HVt2 := Lib.hid hown'; have HB2 := Lib.hid (below_grown HB1.out hgrow hn1 (fun g e => (HVt1.out.lt g e).1)); have HVe2 := Lib.hid (other hgrow HVe1.out HVt1.out (by decide)); have c2 : w2.cell? ⟨b, off + k, none⟩ = some (.int .i64 x) := (HB2.out.cell (p := ⟨b, off + k, none⟩) hb).trans hcw; have hn2 := HB2.out.size; clear hown' hgrow HVt1 HVe1 HB1 hn1)
          | (go_at_call 7; refine (even_calls x _).mono ?_; rw [hev]; rintro e w3 ⟨rfl, rfl⟩)
          | (at_builtin; refine wpList_append_own _ rfl _ _ 22 rfl w.heap.size 3 iI (.int .i64 0) 1 8 Tryd.underlying22 hiI yI0 yI1 yI2 rfl (by decide) _ _ _ rfl (HVe2.out.alloc _) ⟨w3.heap.size, 0, none⟩ 1 1 [.int .i64 x] rfl rfl (cell_one_new _ _ _) (by simp [Value.oneCell']) (by unfold maxLen; omega) (by omega) (by simp; omega) ?_; intro v4 w4 hown' hgrow _; have HVe4 := Lib.hid hown'; have HB4 := Lib.hid (below_grown HB2.out hgrow hn2 (fun g e => (HVe2.out.lt g e).1)); have HVt4 := Lib.hid (other hgrow HVt2.out HVe2.out (by decide)); have c4 : w4.cell? ⟨b, off + k, none⟩ = some (.int .i64 x) := (HB4.out.cell (p := ⟨b, off + k, none⟩) hb).trans hcw; clear hown' hgrow HVt2 HVe2 HB2 hn2)
          | (go_at_call 8; refine (plus_calls _ x _).mono ?_; rintro e w5 ⟨rfl, rfl⟩))
        exact ⟨⟨k + 1, by omega, by simp, mapsR_t HTk.out hev HVt4.out HVe4.out HB4.out⟩, by simp [intOf]; omega⟩
      | false =>
        go_wp2_with (first
          | (go_at_call 6; refine (text_calls x _ hwk HT0.out).mono ?_; rintro e w1 ⟨rfl, hb1⟩; have hn1 := Nat.le_trans hn0 hb1.size; have HB1 := Lib.hid (HB.out.trans (hb1.mono HB.out.size)); have HVt1 := Lib.hid (own_below HVt.out hb1); have HVe1 := Lib.hid (own_below HVe.out hb1); clear hb1 hck HVt HVe HB HT0 hn0)
          | (at_builtin; refine wpList_append_own _ rfl _ _ 24 rfl w.heap.size 9 iS (.string ⟨#[]⟩) 1 16 Tryd.underlying24 hiS yS0 yS1 yS2 rfl (by decide) _ _ _ rfl (HVt1.out.alloc _) ⟨w1.heap.size, 0, none⟩ 1 1 [.string (itoaB x)] rfl rfl (cell_one_new _ _ _) (by simp [Value.oneCell']) (by unfold maxLen; omega) (by omega) (by simp; omega) ?_; intro v2 w2 hown' hgrow _; have HVt2 := Lib.hid hown'; have HB2 := Lib.hid (below_grown HB1.out hgrow hn1 (fun g e => (HVt1.out.lt g e).1)); have HVe2 := Lib.hid (other hgrow HVe1.out HVt1.out (by decide)); have c2 : w2.cell? ⟨b, off + k, none⟩ = some (.int .i64 x) := (HB2.out.cell (p := ⟨b, off + k, none⟩) hb).trans hcw; have hn2 := HB2.out.size; clear hown' hgrow HVt1 HVe1 HB1 hn1)
          | (go_at_call 7; refine (even_calls x _).mono ?_; rw [hev]; rintro e w3 ⟨rfl, rfl⟩)
          | (go_at_call 8; refine (plus_calls _ x _).mono ?_; rintro e w5 ⟨rfl, rfl⟩))
        exact ⟨⟨k + 1, by omega, by simp, mapsR_f HTk.out hev HVt2.out HVe2.out HB2.out⟩, by simp [intOf]; omega⟩
    · obtain rfl : k = xs.length := by omega
      have hVt := HVt.out
      have hVe := HVe.out
      rw [List.take_length] at hVt hVe ⊢
      obtain ⟨A1, c1, rfl, hC1⟩ := colT_open (zs := xs.map itoaB) (by simpa using hVt)
      obtain ⟨A2, c2, rfl, hC2, -⟩ := col_open hVe
      have HC1 := Lib.hid hC1
      have HC2 := Lib.hid hC2
      have HC0 := Lib.hid ((HZ.out).below' HB.out)
      have hll : (xs.map itoaB).length ≤ 1000000 := by simp; omega
      have hfl : (xs.filter evenB).length ≤ 1000000 := Nat.le_trans (List.length_filter_le _ _) (by omega)
      clear hVt hVe hC1 hC2 HVt HVe hlt
      go_wp2_with fail
      have HTr := Lib.hid (HT.out.below HB.out)
      have H100 : Hid ((xs.map itoaB).take (100 : Int).toNat = xs.map itoaB) := List.take_of_length_le (by simp; omega)
      refine (of_calls _ A cap xs (by omega) HC0.out hnil).mono ?_
      rintro e w2 ⟨f2, R2', rfl, hs, _, hb⟩
      replace HTr := Lib.hid (HTr.out.below hb)
      replace HC0 := Lib.hid (HC0.out.below hb)
      replace HC1 := Lib.hid (HC1.out.below hb)
      replace HC2 := Lib.hid (HC2.out.below hb)
      replace HB := Lib.hid (HB.out.trans (hb.mono HB.out.size))
      have HS2 := Lib.hid hs
      clear hb hs
      go_wp2_with fail
      refine (SeqK.map_calls _ f2 (.func (.func 6) #[] #[]) itoaB xs R2' (fun k => k = 0) HS2.out (text_fn xs HWf.out _ HTr.out)).mono ?_
      rintro e w3 ⟨f3, R3, rfl, hs, hb⟩
      replace HTr := Lib.hid (HTr.out.below hb)
      replace HC0 := Lib.hid (HC0.out.below hb)
      replace HC1 := Lib.hid (HC1.out.below hb)
      replace HC2 := Lib.hid (HC2.out.below hb)
      replace HS2 := Lib.hid (HS2.out.below hb)
      replace HB := Lib.hid (HB.out.trans (hb.mono HB.out.size))
      have HS3 := Lib.hid hs
      clear hb hs
      go_wp2_with fail
      refine (SeqS.list_calls f3 (xs.map itoaB) R3 _ _ hll HS3.out.g).mono ?_
      rintro e w4 ⟨v, rfl, ho, ht⟩
      obtain ⟨A4, c4, rfl, hc⟩ := colT_open ho
      have hb := ht.none
      clear ho ht
      replace HTr := Lib.hid (HTr.out.below hb)
      replace HC0 := Lib.hid (HC0.out.below hb)
      replace HC1 := Lib.hid (HC1.out.below hb)
      replace HC2 := Lib.hid (HC2.out.below hb)
      replace HS2 := Lib.hid (HS2.out.below hb)
      replace HS3 := Lib.hid (HS3.out.below hb)
      replace HB := Lib.hid (HB.out.trans (hb.mono HB.out.size))
      have HC4 := Lib.hid hc
      clear hb hc
      go_wp2_with fail
      refine (same_n A4 A1 _ _ c4 c1 (xs.map itoaB) _ (by simp) (by simp) hll HC4.out HC1.out).mono ?_
      rintro e w5 ⟨rfl, hb⟩
      replace HTr := Lib.hid (HTr.out.below hb)
      replace HC0 := Lib.hid (HC0.out.below hb)
      replace HC1 := Lib.hid (HC1.out.below hb)
      replace HC2 := Lib.hid (HC2.out.below hb)
      replace HS2 := Lib.hid (HS2.out.below hb)
      replace HS3 := Lib.hid (HS3.out.below hb)
      replace HB := Lib.hid (HB.out.trans (hb.mono HB.out.size))
      clear hb HC4
      go_wp2_with fail
      refine (SeqS.texts_calls f3 (xs.map itoaB) 100 R3 _ _ hll (by omega) HS3.out.g).mono ?_
      rintro e w6 ⟨v, rfl, ho, ht⟩
      rw [H100.out] at ho
      obtain ⟨A5, c5, rfl, hc⟩ := colT_open ho
      have hb := ht.none
      clear ho ht
      replace HTr := Lib.hid (HTr.out.below hb)
      replace HC0 := Lib.hid (HC0.out.below hb)
      replace HC1 := Lib.hid (HC1.out.below hb)
      replace HC2 := Lib.hid (HC2.out.below hb)
      replace HS2 := Lib.hid (HS2.out.below hb)
      replace HB := Lib.hid (HB.out.trans (hb.mono HB.out.size))
      have HC5 := Lib.hid hc
      clear hb hc HS3
      go_wp2_with fail
      refine (same_n A5 A1 _ _ c5 c1 (xs.map itoaB) _ (by simp) (by simp) hll HC5.out HC1.out).mono ?_
      rintro e w7 ⟨rfl, hb⟩
      replace HTr := Lib.hid (HTr.out.below hb)
      replace HC0 := Lib.hid (HC0.out.below hb)
      replace HC2 := Lib.hid (HC2.out.below hb)
      replace HS2 := Lib.hid (HS2.out.below hb)
      replace HB := Lib.hid (HB.out.trans (hb.mono HB.out.size))
      clear hb HC5 HC1
      go_wp2_with fail
      refine (filter_calls _ f2 _ evenB xs R2' _ HS2.out (even_fn _)).mono ?_
      rintro e w8 ⟨f7, R7, rfl, hs, hb⟩
      replace HTr := Lib.hid (HTr.out.below hb)
      replace HC0 := Lib.hid (HC0.out.below hb)
      replace HC2 := Lib.hid (HC2.out.below hb)
      replace HS2 := Lib.hid (HS2.out.below hb)
      replace HB := Lib.hid (HB.out.trans (hb.mono HB.out.size))
      have HS7 := Lib.hid hs
      clear hb hs
      go_wp2_with fail
      refine (SeqI.list_calls f7 (xs.filter evenB) R7 _ _ hfl HS7.out.g).mono ?_
      rintro e w9 ⟨v, rfl, ho, ht⟩
      obtain ⟨A8, c8, rfl, hc, -⟩ := col_open ho
      have hb := ht.none
      clear ho ht
      replace HTr := Lib.hid (HTr.out.below hb)
      replace HC0 := Lib.hid (HC0.out.below hb)
      replace HC2 := Lib.hid (HC2.out.below hb)
      replace HS2 := Lib.hid (HS2.out.below hb)
      replace HB := Lib.hid (HB.out.trans (hb.mono HB.out.size))
      have HC8 := Lib.hid hc
      clear hb hc HS7
      go_wp2_with fail
      refine (same_i A8 A2 _ _ c8 c2 (xs.filter evenB) _ (by simp) (by simp) hfl HC8.out HC2.out).mono ?_
      rintro e w10 ⟨rfl, hb⟩
      replace HTr := Lib.hid (HTr.out.below hb)
      replace HC0 := Lib.hid (HC0.out.below hb)
      replace HS2 := Lib.hid (HS2.out.below hb)
      replace HB := Lib.hid (HB.out.trans (hb.mono HB.out.size))
      clear hb HC8 HC2
      go_wp2_with fail
      refine (fold_calls f2 a xs R2' _ _ HS2.out.g).mono ?_
      rintro e w11 ⟨rfl, ht⟩
      have hb := ht.none
      clear ht
      replace HTr := Lib.hid (HTr.out.below hb)
      replace HC0 := Lib.hid (HC0.out.below hb)
      replace HB := Lib.hid (HB.out.trans (hb.mono HB.out.size))
      clear hb HS2
      go_wp2_with fail
      refine (awake_calls _).mono ?_
      rintro e w12 ⟨rfl, hb⟩
      replace HTr := Lib.hid (HTr.out.below hb)
      replace HC0 := Lib.hid (HC0.out.below hb)
      replace HB := Lib.hid (HB.out.trans (hb.mono HB.out.size))
      clear hb
      go_wp2
      go_ret
      exact ⟨rfl, HB.out⟩
theorem maps_law (A : Option Addr) (cap : Nat) (xs : List Int) (a : Int) (w : World) (hz : Cells w A xs) (hnil : A = none → xs.length = 0 ∧ cap = 0) (_ : xs.length ≤ cap) (hwf : ∀ x ∈ xs, (Lit.int .i64 x).wf = true) (_ : xs.length * 8 ≤ 140737488351232) (_ : (Lit.int .i64 a).wf = true) (hT : Tab w) :
    Calls Tryd.prog 3 #[.slice A xs.length cap, .int .i64 a] w fun e w' => e = .returned (.bool true) ∧ Below w.heap.size w w' := by
  by_cases hl : 60 < xs.length
  · exact maps_long A cap xs a w hl
  · exact maps_short A cap xs a w (by omega) hz (fun h => List.eq_nil_of_length_eq_zero (hnil h).1) hwf hT
end Go.Proofs.YtnagjilogadinaaDoor.SeqK
