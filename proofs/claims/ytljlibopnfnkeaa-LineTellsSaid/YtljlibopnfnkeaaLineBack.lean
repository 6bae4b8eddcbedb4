/- The walk of the law LineBack answers true, whatever the text and the number. -/
import Derived.Test.YtljlibopnfnkeaaLineCommon
import Derived.Test.YtljlibopnfnkeaaLinesGood
import Derived.Test.YtljlibopnfnkeaaSeqT
import Derived.Test.YtljlibopnfnkeaaLinesV
import Derived.Test.YtljlibopnfnkeaaJoinS
import Derived.IntWalk
namespace Go.Proofs.Ytljlibopnfnkeaa.SeqS
open Go.RowKit Go.Shelf Go.Proofs.Ytljlibopnfnkeaa.SeqM Go.Proofs.Ytljlibopnfnkeaa.Lines Go.Proofs.Ytljlibopnfnkeaa.PAll Go.Proofs.YtljlibopnfnkeaaW.PrintWords
attribute [local go_sem] Oper.semAt_some
set_option linter.unusedVariables false
set_option linter.unusedSimpArgs false

theorem awake_calls (w : World) : Calls Try.prog 8 #[] w fun e w' => e = .returned (.bool true) ∧ Below w.heap.size w w' := by
  obtain ⟨k, hk⟩ := LineCommon.awake.rounds
  exact cortegelaw3_awake.calls k true w hk
theorem low_calls (x : Int) (n : Nat) (w : World) (h0 : 0 < n) (h1 : n < 100000) : Calls Try.prog 23 #[.int .i64 x, .int .i64 n] w fun e w' => (∃ r : Nat, e = .returned (.int .i64 r) ∧ r < n) ∧ ∃ m, w' = w.drewN m := by
  obtain ⟨r, hr, hl⟩ := LineCommon.low x n h0 (by omega)
  exact (cortegelaw0_Low.calls x n r w hl).mono fun e w' ⟨he, hd⟩ => ⟨⟨r, he, hr⟩, hd.out⟩
/-- Texts that lie in W. -/
def CellsS (W : World) (A : Option Addr) (l : List ByteArray) : Prop := l = [] ∨ ∃ g, A = some ⟨g, 0, none⟩ ∧ g < W.heap.size ∧ ∀ j (h : j < l.length), W.cell? ⟨g, j, none⟩ = some (.string l[j])
theorem CellsS.below {W W' : World} {A : Option Addr} {l : List ByteArray} (h : CellsS W A l) (hb : Below W.heap.size W W') : CellsS W' A l :=
  h.imp id fun ⟨g, e, hg, hc⟩ => ⟨g, e, Nat.lt_of_lt_of_le hg hb.size, fun j hj => (hb.cell (p := ⟨g, j, none⟩) hg).trans (hc j hj)⟩
theorem CellsS.take {W : World} {A : Option Addr} {l : List ByteArray} (h : CellsS W A l) (n : Nat) : CellsS W A (l.take n) := by
  rcases h with rfl | ⟨g, e, hg, hc⟩
  · exact .inl (by simp)
  · exact .inr ⟨g, e, hg, fun j hj => by rw [List.getElem_take]; exact hc j (by rw [List.length_take] at hj; omega)⟩
theorem own_open {W : World} {n₀ : Nat} {v : Value} {l : List ByteArray} (h : W.ownsRow n₀ 9 1 v l.length (l.map Value.string)) : ∃ A cap, v = .slice A l.length cap ∧ l.length ≤ cap ∧ CellsS W A l := by
  rcases h.2 with ⟨rfl, h0⟩ | ⟨g, cap, cur, rfl, hg, hh, h1, h2, h3, h4⟩
  · have : l = [] := List.eq_nil_of_length_eq_zero h0
    subst this
    exact ⟨none, 0, rfl, Nat.le_refl _, .inl rfl⟩
  · refine ⟨_, cap, rfl, by omega, .inr ⟨g, rfl, (Array.getElem?_eq_some_iff.1 hh).1, fun j hj => ?_⟩⟩
    have := h.cells (g := g) rfl j (.string l[j]) (by simp [hj])
    rwa [Addr.add_lit, Nat.zero_add] at this
/-- As the printed words have it. -/
theorem CellsS.kd {W : World} {A : Option Addr} {l : List ByteArray} (h : CellsS W A l) (hl : l.length ≤ 1000000) : Kd.C Kd.string W A l.length l := by
  refine Kd.C_of_reads (enc := Value.string) (d := ByteArray.empty) (h1 := fun _ => rfl) ⟨rfl, by omega, fun hp => ?_⟩
  rcases h with rfl | ⟨g, e, hg, hc⟩
  · simp at hp
  · exact ⟨_, e, fun j hj => by rw [Addr.add_lit, Nat.zero_add, hc j hj]; simp [List.getD_eq_getElem?_getD, hj]⟩
theorem same_calls (A B : Option Addr) (c d : Nat) (l m : List ByteArray) (w : World) (hl : l.length ≤ 1000000) (hm : m.length ≤ 1000000) (h1 : CellsS w A l) (h2 : CellsS w B m) (hc : l.length ≤ c) (hd : m.length ≤ d) :
    Calls Try.prog 11 #[.slice A l.length c, .slice B m.length d] w fun e w' => e = .returned (.bool (decide (l = m))) ∧ ∃ n, w' = w.drewN n := by
  obtain ⟨k, hk⟩ := (LineCommon.same l m hl).rounds
  exact (cortegelaw0_SameTexts.calls k A c l B d m _ w (h1.kd hl) hc (h2.kd hm) hd hk).mono fun e w' ⟨he, hw⟩ => ⟨he, hw.out⟩
theorem join_calls (A : Option Addr) (c : Nat) (l : List ByteArray) (w : World) (hl : l.length ≤ 1000000) (hs : (l.map ByteArray.size).sum ≤ 1000000) (h1 : CellsS w A l) (hc : l.length ≤ c) :
    Calls Try.prog 13 #[.slice A l.length c] w fun e w' => e = .returned (.string (glue l)) ∧ Below w.heap.size w w' := by
  refine ljoin_calls A c l w hc (fun hp => ?_) hl hs
  rcases h1 with rfl | ⟨g, e, hg, hcc⟩
  · simp at hp
  · exact ⟨_, e, fun j hj => by rw [Addr.add_lit, Nat.zero_add, hcc j hj]; simp [List.getD_eq_getElem?_getD, hj]⟩

theorem same_n (A B : Option Addr) (n m c d : Nat) (l l' : List ByteArray) (w : World) (hn : n = l.length) (hm' : m = l'.length) (hl : l.length ≤ 1000000) (hm : l'.length ≤ 1000000) (h1 : CellsS w A l) (h2 : CellsS w B l') (hc : l.length ≤ c) (hd : l'.length ≤ d) :
    Calls Try.prog 11 #[.slice A n c, .slice B m d] w fun e w' => e = .returned (.bool (decide (l = l'))) ∧ ∃ n, w' = w.drewN n := by
  subst hn
  subst hm'
  exact same_calls A B c d l l' w hl hm h1 h2 hc hd
theorem texts_any (fv : Value) (xs : List ByteArray) (most : Nat) (R M0 : Fp) (w : World) (hlen : xs.length ≤ 1000000) (hs : SeqG fv xs R M0 w) :
    Calls Try.prog 15 #[fv, .int .i64 most] w (ColPost w (xs.take most) M0) := by
  by_cases h : 1 ≤ most
  · have := texts_calls fv xs most R M0 w hlen (by omega) hs
    rwa [Int.toNat_natCast] at this
  · obtain rfl : most = 0 := by omega
    exact texts_no fv xs (0 : Nat) R M0 w (by omega) hs
theorem le_sum : ∀ (l : List ByteArray) (k : Nat) (h : k < l.length), l[k].size ≤ (l.map ByteArray.size).sum
  | [], k, h => by simp at h
  | x :: l, 0, _ => by simp
  | x :: l, k + 1, h => by
    have := le_sum l k (by simpa using h)
    simp at this ⊢
    omega
def BackPost (w : World) (e : Ending) (w' : World) : Prop := e = .returned (.bool true) ∧ Below w.heap.size w w'
set_option maxHeartbeats 8000000 in
set_option maxRecDepth 100000 in
theorem back_calls (s : ByteArray) (early : Int) (w : World) : Calls Try.prog 4 #[.string s, .int .i64 early] w (BackPost w) := by
  by_cases hbig : 500 < s.size
  · have hb1 : (500 : Int) < (s.size : Int) := by omega
    go_enter Try.func4, Try.ntmps4
    go_wp2_with (go_at_call 8; refine (awake_calls _).mono ?_; rintro e w7 ⟨rfl, hB7⟩; have HB7 := Lib.hid hB7; clear hB7)
    go_ret
    exact ⟨rfl, HB7.out⟩
  · have hb1 : (s.size : Int) ≤ 500 := by omega
    have hll : (lines s).length ≤ 500 := by have := lines_length s; omega
    have HG := Lib.hid (lines_good s)
    have hsum : ((lines s).map ByteArray.size).sum ≤ 1000000 := by rw [← glue_size, glue_lines]; omega
    have HGl := Lib.hid (glue_lines s)
    obtain ⟨L, hL⟩ : ∃ L, L = lines s := ⟨_, rfl⟩
    have HL := Lib.hid hL
    rw [← hL] at hll hsum HG HGl
    clear hL hbig
    go_enter Try.func4, Try.ntmps4
    go_wp2_with fail
    refine (split_calls s _ (by omega)).mono ?_
    rintro e w1 ⟨v, rfl, ho, hb⟩
    rw [← HL.out] at ho
    obtain ⟨A, cap, rfl, hcap, hcs⟩ := own_open ho
    have HC := Lib.hid hcs
    have HB1 := Lib.hid hb
    clear ho hb hcs
    go_wp2_with (go_at_call 13; refine (join_calls A cap L _ (by omega) hsum HC.out hcap).mono ?_; rw [HGl.out]; rintro e w2 ⟨rfl, hb⟩; have HB2 := Lib.hid hb; clear hb)
    have HC2 := Lib.hid (HC.out.below HB2.out)
    have HBw := Lib.hid (HB1.out.trans (HB2.out.mono HB1.out.size))
    clear HC HB1 HB2
    go_loopw [6] (fun i wr => ∃ k : Nat, k ≤ L.length ∧ i = .int .i64 k ∧ Below w2.heap.size w2 wr) (fun i _ => L.length - (intOf i).toNat)
    case atStart => exact ⟨0, Nat.zero_le _, rfl, Below.refl _ _⟩
    case round =>
      obtain ⟨k, hk, rfl, hB⟩ := hrel
      have HB := Lib.hid hB
      clear hB
      by_cases hlt : k < L.length
      · rcases HC2.out.below HB.out with e | ⟨g, rfl, hg, hc⟩
        · rw [e] at hlt; simp at hlt
        have hck := hc k hlt
        obtain ⟨g1, g2, g3⟩ := HG.out k hlt
        have HCk := Lib.hid hc
        clear hc
        have hxs : L[k].size ≤ 1000000 := Nat.le_trans (le_sum L k hlt) hsum
        generalize L[k] = x at hck g1 g2 g3 hxs
        have G2 := Lib.hid g2
        have G3 := Lib.hid g3
        clear g2 g3
        go_wp2
        obtain ⟨wo, hwo⟩ : ∃ wo, wo = wr := ⟨_, rfl⟩
        rw [← hwo] at hck HB ⊢
        clear hwo hg HCk
        go_loop [7] (fun i => ∃ j : Nat, j ≤ x.size ∧ i = .int .i64 j) (fun i => x.size - (intOf i).toNat)
        case atStart => exact ⟨0, Nat.zero_le _, rfl⟩
        case round =>
          obtain ⟨j, hj, rfl⟩ := hrel
          by_cases hjl : j < x.size
          · by_cases h10 : x[j].toNat = 10
            · have hjj := G2.out j hjl h10
              have e1 : ((x[j].toNat : Int) == 10) = true := by rw [h10]; rfl
              have e2 : decide ((j : Int) + 1 < (x.size : Int)) = false := decide_eq_false (by omega)
              go_wp2
              go_round
              case rel => exact ⟨j + 1, by omega, by go_num⟩
              case measure => simp [intOf]; omega
            · have e1 : ((x[j].toNat : Int) == 10) = false := by simp; omega
              go_wp2
              go_round
              case rel => exact ⟨j + 1, by omega, by go_num⟩
              case measure => simp [intOf]; omega
          · obtain rfl : j = x.size := by omega
            have e0 : ((x.size : Int) == 0) = false := beq_eq_false_iff_ne.2 (by omega)
            by_cases hk1 : k + 1 < L.length
            · have e3 : decide ((k : Int) + 1 < (L.length : Int)) = true := decide_eq_true (by omega)
              have g4 := G3.out hk1 (by omega)
              go_wp2_with fail
              go_quiet (fail)
              go_wp2
              go_roundw
              case rel => exact ⟨k + 1, by omega, by simp, HB.out.trans ⟨rfl, rfl, rfl, Nat.le_refl _, fun _ _ => rfl⟩⟩
              case measure => simp [intOf]; omega
            · have e3 : decide ((k : Int) + 1 < (L.length : Int)) = false := decide_eq_false (by omega)
              go_wp2_with fail
              go_quiet (fail)
              go_wp2
              go_roundw
              case rel => exact ⟨k + 1, by omega, by simp, HB.out.trans ⟨rfl, rfl, rfl, Nat.le_refl _, fun _ _ => rfl⟩⟩
              case measure => simp [intOf]; omega
      · obtain rfl : k = L.length := by omega
        have HC3 := Lib.hid (HC2.out.below HB.out)
        have HB3 := Lib.hid (HBw.out.trans (HB.out.mono HBw.out.size))
        clear HC2 HBw HB HG hlt hk
        go_wp2_with fail
        refine (low_calls early 50 _ (by omega) (by omega)).mono ?_
        rintro e w3 ⟨⟨r, rfl, hr⟩, m, rfl⟩
        have hbd : Below wr.heap.size wr (wr.drewN m) := ⟨rfl, rfl, rfl, Nat.le_refl _, fun _ _ => rfl⟩
        have HC4 := Lib.hid (HC3.out.below hbd)
        have HB4 := Lib.hid (HB3.out.trans (hbd.mono HB3.out.size))
        clear hbd HC3 HB3
        go_wp2_with fail
        refine (lines_calls s _ (by omega)).mono ?_
        rintro e w4 ⟨fv, rfl, hs, hb4⟩
        have HS := Lib.hid hs
        have HC5 := Lib.hid (HC4.out.below hb4)
        have HB5 := Lib.hid (HB4.out.trans (hb4.mono HB4.out.size))
        have HN := Lib.hid (show w.heap.size ≤ (wr.drewN m).heap.size from HB4.out.size)
        clear hs hb4 HB4
        go_wp2_with fail
        refine (texts_any fv (lines s) r _ _ _ (by rw [← HL.out]; omega) HS.out).mono ?_
        rintro e w5 ⟨v, rfl, ho, ht⟩
        rw [← HL.out] at ho
        obtain ⟨A5, c5, rfl, hcap5, hcs5⟩ := own_open ho
        have hb5 : Below w.heap.size w4 w5 := ht.below HB5.out.size (fun k _ e => by subst e; exact HN.out)
        have HC6 : Hid (CellsS w5 A L) := Lib.hid (by
          rcases HC4.out with e | ⟨g, e, hg, _⟩
          · exact .inl e
          · rcases HC5.out with e' | ⟨g', e', hg', hc⟩
            · exact .inl e'
            · rw [e] at e'
              cases e'
              exact .inr ⟨g, e, Nat.lt_of_lt_of_le hg' ht.size, fun j hj => (World.cell?_of_block (w := w4) (ht.block g hg' (fun e => by subst e; exact absurd hg (Nat.lt_irrefl _)))).trans (hc j hj)⟩)
        have HC7 := Lib.hid hcs5
        have HB6 := Lib.hid (HB5.out.trans hb5)
        have hl5 : (L.take r).length = min r L.length := List.length_take
        clear ho ht hcs5 hb5 HC5 HB5 HS HC4 HN
        go_wp2_with fail
        refine (same_n A5 A _ _ c5 cap (L.take r) (L.take r) _ hl5.symm (by omega) (by omega) (by omega) HC7.out (HC6.out.take r) hcap5 (by omega)).mono ?_
        rintro e w6 ⟨rfl, m6, rfl⟩
        have HB7 := Lib.hid (HB6.out.trans (show Below w.heap.size w5 (w5.drewN m6) from ⟨rfl, rfl, rfl, Nat.le_refl _, fun _ _ => rfl⟩))
        rw [decide_eq_true rfl]
        clear HC6 HC7 HB6
        go_wp2_with fail
        refine (awake_calls _).mono ?_
        rintro e w7 ⟨rfl, hb⟩
        have HB8 := Lib.hid (HB7.out.trans (hb.mono HB7.out.size))
        clear hb HB7
        go_wp2_with fail
        go_ret
        exact ⟨rfl, HB8.out⟩
theorem back_row (s : ByteArray) (early : Int) (w : World) (_ : s.size ≤ 140737488351232) (_ : (Lit.int .i64 early).wf = true) : Calls Try.prog 4 #[.string s, .int .i64 early] w fun e w' => e = .returned (.bool true) ∧ Below w.heap.size w w' := back_calls s early w
end Go.Proofs.Ytljlibopnfnkeaa.SeqS
