/- The walk of the law LineTells answers true, whatever the text and the lines. -/
import Derived.Test.YtljlibopnfnkeaaLineBack
import Derived.Test.YtljlibopnfnkeaaLineKept
import Derived.Test.YtljlibopnfnkeaaLineRefs
import Derived.Test.YtljlibopnfnkeaaFewS
namespace Go.Proofs.Ytljlibopnfnkeaa.SeqS
open Go.RowKit Go.Shelf Go.Proofs.Ytljlibopnfnkeaa.SeqM Go.Proofs.Ytljlibopnfnkeaa.Lines Go.Proofs.Ytljlibopnfnkeaa.PAll Go.Proofs.YtljlibopnfnkeaaW.PrintWords
attribute [local go_sem] Oper.semAt_some
set_option linter.unusedVariables false
set_option linter.unusedSimpArgs false

theorem rsplit_calls (s : ByteArray) (hs : s.size ≤ 1000000) (w : World) : Calls Try.prog 12 #[.string s] w (SplitPost s w) := by
  obtain ⟨k, hk⟩ := (LineRefs.split s hs).rounds
  exact (cortegeref3_Split.calls k s (lines s) w hk).mono fun e w' ⟨v, he, hr, hb⟩ => ⟨v, he, Kd.own_of_R hr, hb⟩
theorem rjoin_calls (A : Option Addr) (c : Nat) (l : List ByteArray) (w : World) (hl : l.length ≤ 1000) (hz : ∀ x ∈ l, x.size ≤ 1000) (h : CellsT w A l) (hc : l.length ≤ c) : Calls Try.prog 14 #[.slice A l.length c] w fun e w' => e = .returned (.string (glue l)) ∧ Below w.heap.size w w' := by
  obtain ⟨k, hk⟩ := (LineRefs.join l hl hz).rounds
  exact cortegeref3_Join.calls k A c l (glue l) w (h.kd (by omega)) hc hk
theorem rbinary_calls (s : ByteArray) (hs : s.size ≤ 1000000) (w : World) : Calls Try.prog 18 #[.string s] w fun e w' => e = .returned (.bool (decide (0 ≤ Lib.indexByte s.data.toList 0))) ∧ ∃ n, w' = w.drewN n := by
  obtain ⟨k, hk⟩ := (LineRefs.binary s hs).rounds
  exact (cortegeref3_Binary.calls k s _ w hk).mono fun e w' ⟨he, hd⟩ => ⟨he, hd.out⟩
theorem rfew_calls (s : ByteArray) (hs : s.size ≤ 1000000) (w : World) : Calls Try.prog 20 #[.string s] w fun e w' => e = .returned (.bool (decide ((lines s).length ≤ 60))) ∧ Below w.heap.size w w' := by
  obtain ⟨k, hk⟩ := (LineRefs.few s hs).rounds
  exact cortegeref3_Few.calls k s _ w hk
theorem great_calls (A : Option Addr) (c : Nat) (l : List ByteArray) (w : World) (h : CellsT w A l) (hl : l.length ≤ 8796093022207) (hc : l.length ≤ c) : ∃ b, (b = false → l.length ≤ 60 ∧ ∀ j (h : j < l.length), l[j].size ≤ 60) ∧
    Calls Try.prog 7 #[.slice A l.length c, .int .i64 60, .int .i64 60] w fun e w' => e = .returned (.bool b) ∧ ∃ n, w' = w.drewN n := by
  obtain ⟨b, hA, hb⟩ := LineRefs.great l 60 60 (by omega) (by omega)
  obtain ⟨k, hk⟩ := hA.rounds
  exact ⟨b, hb, (cortegelaw0_GreatTexts.calls k A c l 60 60 b w (h.kd' hl) hc hk).mono fun e w' ⟨he, hd⟩ => ⟨he, hd.out⟩⟩
theorem cellsST {W : World} {A : Option Addr} {l : List ByteArray} (h : CellsS W A l) : CellsT W A l := by
  rcases h with rfl | ⟨g, e, hg, hc⟩
  · exact .inl rfl
  · exact .inr ⟨g, 0, e, hg, fun j hj => by rw [Nat.zero_add]; exact hc j hj⟩
theorem Lent.cellsS {W : World} {g : Nat} {zs : List ByteArray} (h : Lent W g zs) : CellsS W (some ⟨g, 0, none⟩) zs := by
  rcases h.cells with rfl | ⟨b, off, e, hb, hc⟩
  · exact .inl rfl
  · cases e
    exact .inr ⟨g, rfl, hb, fun j hj => by have := hc j hj; rwa [Nat.zero_add] at this⟩
/-- The row that is told. -/
def Own (W : World) (n₀ : Nat) (A : Option Addr) (c : Nat) (l : List ByteArray) : Prop := W.ownsRow n₀ 9 1 (.slice A l.length c) l.length (l.map Value.string)
theorem Own.below {W W' : World} {n₀ : Nat} {A : Option Addr} {c : Nat} {l : List ByteArray} (h : Own W n₀ A c l) (hb : Below W.heap.size W W') : Own W' n₀ A c l :=
  World.ownsRow.kept h ⟨hb.os, hb.tape, hb.output, hb.size, fun k hk _ => hb.block k hk⟩ (row := none) (by cases A <;> simp [Value.ownBlock])
theorem Own.cells {W : World} {n₀ : Nat} {A : Option Addr} {c : Nat} {l : List ByteArray} (h : Own W n₀ A c l) : l.length ≤ c ∧ CellsS W A l := by
  obtain ⟨A', c', e, h1, h2⟩ := own_open h
  cases e
  exact ⟨h1, h2⟩
theorem over_any (w : World) (n₀ : Nat) (A : Option Addr) (c : Nat) (l : List ByteArray) (n : Nat) (hn : n = l.length) (hl : l.length ≤ 1000000) (h : Own w n₀ A c l) (hn₀ : n₀ ≤ w.heap.size) :
    Calls Try.prog 22 #[.slice A n c] w fun e w' => (∃ v, e = .returned v) ∧ Below n₀ w w' := by
  subst hn
  have h' := h
  rcases h.2 with ⟨e, h0⟩ | ⟨g, cap, cur, e, hg, _⟩
  · have e1 := Value.slice.inj e
    obtain ⟨rfl, hl0, rfl⟩ := e1
    rw [hl0]
    exact (over_nil w).mono fun e w' ⟨he, hb⟩ => ⟨he, hb.mono hn₀⟩
  · have e1 := Value.slice.inj e
    obtain ⟨rfl, _, rfl⟩ := e1
    exact (over_calls w g _ _ _ hl (own_row h')).mono fun e w' ⟨he, ht⟩ => ⟨he, ht.below hn₀ (fun k _ hk => by omega)⟩
def SizeGe (n : Nat) (W : World) : Prop := n ≤ W.heap.size
theorem SizeGe.below {W W' : World} {n : Nat} (h : SizeGe n W) (hb : Below W.heap.size W W') : SizeGe n W' := Nat.le_trans h hb.size
def TellsPost (w : World) (e : Ending) (w' : World) : Prop := e = .returned (.bool true) ∧ Below w.heap.size w w'
set_option maxHeartbeats 8000000 in
set_option maxRecDepth 100000 in
theorem tells_long (s : ByteArray) (A : Option Addr) (c : Nat) (ls : List ByteArray) (w : World) (hs : 500 < s.size) : Calls Try.prog 3 #[.string s, .slice A ls.length c] w (TellsPost w) := by
  have hb1 : (500 : Int) < (s.size : Int) := by omega
  go_enter Try.func3, Try.ntmps3
  go_wp2_with (go_at_call 8; refine (awake_calls _).mono ?_; rintro e w7 ⟨rfl, hB7⟩; have HB7 := Lib.hid hB7; clear hB7)
  go_ret
  exact ⟨rfl, HB7.out⟩
set_option maxHeartbeats 8000000 in
set_option maxRecDepth 100000 in
theorem tells_great (s : ByteArray) (A : Option Addr) (c : Nat) (ls : List ByteArray) (w : World) (hs : ¬ 500 < s.size)
    (hg : Calls Try.prog 7 #[.slice A ls.length c, .int .i64 60, .int .i64 60] w fun e w' => e = .returned (.bool true) ∧ ∃ n, w' = w.drewN n) : Calls Try.prog 3 #[.string s, .slice A ls.length c] w (TellsPost w) := by
  have hb1 : (s.size : Int) ≤ 500 := by omega
  have HG := Lib.hid hg
  clear hs hg
  go_enter Try.func3, Try.ntmps3
  go_wp2_with (first
    | (go_at_call 7; refine HG.out.mono ?_; rintro e w2 ⟨rfl, n, rfl⟩)
    | (go_at_call 8; refine (awake_calls _).mono ?_; rintro e w7 ⟨rfl, hB7⟩; have HB7 := Lib.hid hB7; clear hB7))
  go_ret
  exact ⟨rfl, (show Below w.heap.size w (w.drewN n) from ⟨rfl, rfl, rfl, Nat.le_refl _, fun _ _ => rfl⟩).trans HB7.out⟩
set_option maxHeartbeats 8000000 in
set_option maxRecDepth 100000 in
theorem tells_short (s : ByteArray) (A : Option Addr) (c : Nat) (ls : List ByteArray) (w : World) (hs : ¬ 500 < s.size) (hl : ls.length ≤ 60) (hz : ∀ j (h : j < ls.length), ls[j].size ≤ 60) (hC : CellsT w A ls) (hc : ls.length ≤ c) (hnil : A = none → ls.length = 0 ∧ c = 0)
    (hg : Calls Try.prog 7 #[.slice A ls.length c, .int .i64 60, .int .i64 60] w fun e w' => e = .returned (.bool false) ∧ ∃ n, w' = w.drewN n) : Calls Try.prog 3 #[.string s, .slice A ls.length c] w (TellsPost w) := by
  have hb1 : (s.size : Int) ≤ 500 := by omega
  have hs1 : s.size ≤ 1000000 := by omega
  have HG := Lib.hid hg
  have HC := Lib.hid hC
  have hzm : ∀ x ∈ ls, x.size ≤ 60 := fun x hx => by obtain ⟨j, hj, rfl⟩ := List.getElem_of_mem hx; exact hz j hj
  have HZ : Hid (∀ x ∈ ls, x.size ≤ 1000) := fun x hx => Nat.le_trans (hzm x hx) (by omega)
  have HSum : Hid ((ls.map ByteArray.size).sum ≤ 1000000) := by
    have : ∀ l : List ByteArray, (∀ x ∈ l, x.size ≤ 60) → (l.map ByteArray.size).sum ≤ l.length * 60 := fun l h => by
      induction l with
      | nil => simp
      | cons x xs ih =>
        have h1 := h x (by simp)
        have h2 := ih (fun y hy => h y (by simp [hy]))
        simp; omega
    have := this ls hzm
    show _ ≤ _
    omega
  have hll : (lines s).length ≤ 500 := by have := lines_length s; omega
  have HT : Hid ((lines s).take (1000 : Int).toNat = lines s) := List.take_of_length_le (by omega)
  obtain ⟨L, hL⟩ : ∃ L, L = lines s := ⟨_, rfl⟩
  have HL := Lib.hid hL
  have HLL : Hid ((lines s).length = L.length) := by rw [hL]; rfl
  rw [← hL] at hll HT
  have hll2 : L.length ≤ 1000000 := by omega
  clear hL hz hzm hs hg hC
  go_enter Try.func3, Try.ntmps3
  go_wp2_with (go_at_call 7; refine HG.out.mono ?_; rintro e w1 ⟨rfl, n, hw1⟩; have hbw : Below w.heap.size w w1 := (by rw [hw1]; exact ⟨rfl, rfl, rfl, Nat.le_refl _, fun _ _ => rfl⟩); have HB := Lib.hid hbw; replace HC := Lib.hid (HC.out.below hbw); clear hbw hw1)
  go_wp2_with fail
  refine (lend_calls _ A c ls (by omega) HC.out hnil).mono ?_
  rintro e w2 ⟨rfl, hLe, hb⟩
  obtain ⟨gl, hgl⟩ : ∃ gl, gl = w1.heap.size := ⟨_, rfl⟩
  rw [← hgl] at hLe ⊢
  have hLe : Lent w2 gl ls := hLe
  clear hgl
  replace HC := Lib.hid (HC.out.below hb)
  replace HB := Lib.hid (HB.out.trans (hb.mono HB.out.size))
  have HLe := Lib.hid hLe
  clear hb hLe
  go_wp2_with fail
  refine (split_calls s _ hs1).mono ?_
  rintro e w3 ⟨v, rfl, ho, hb⟩
  rw [← HL.out] at ho
  obtain ⟨A3, c3, rfl, hc3, hcs⟩ := own_open ho
  have hO : Own w3 _ A3 c3 L := ho
  clear ho hcs
  have hN : SizeGe w2.heap.size w3 := hb.size
  have hN0 : w.heap.size ≤ w2.heap.size := HB.out.size
  replace HC := Lib.hid (HC.out.below hb)
  replace HLe := Lib.hid (HLe.out.below hb)
  replace HB := Lib.hid (HB.out.trans (hb.mono HB.out.size))
  have HO3 := Lib.hid hO
  have HN := Lib.hid hN
  clear hb hO hN
  go_wp2_with fail
  refine (rsplit_calls s hs1 _).mono ?_
  rintro e w4 ⟨v, rfl, ho, hb⟩
  rw [← HL.out] at ho
  obtain ⟨A4, c4, rfl, hc4, hcs⟩ := own_open ho
  have hO : Own w4 _ A4 c4 L := ho
  clear ho hcs
  replace HC := Lib.hid (HC.out.below hb)
  replace HLe := Lib.hid (HLe.out.below hb)
  replace HO3 := Lib.hid (HO3.out.below hb)
  replace HN := Lib.hid (HN.out.below hb)
  replace HB := Lib.hid (HB.out.trans (hb.mono HB.out.size))
  have HO4 := Lib.hid hO
  clear hb hO
  go_wp2_with fail
  refine (sameT A3 A4 _ _ c3 c4 L L _ (by first | rfl | exact HLL.out | simp) (by first | rfl | exact HLL.out | simp) hll2 hll2 (cellsST HO3.out.cells.2) (cellsST HO4.out.cells.2) HO3.out.cells.1 HO4.out.cells.1).mono ?_
  rintro e w5 ⟨he, n, hw⟩
  rw [decide_eq_true rfl] at he
  obtain rfl := he
  have hb : Below w4.heap.size w4 w5 := (by rw [hw]; exact ⟨rfl, rfl, rfl, Nat.le_refl _, fun _ _ => rfl⟩)
  clear hw
  replace HC := Lib.hid (HC.out.below hb)
  replace HLe := Lib.hid (HLe.out.below hb)
  replace HO3 := Lib.hid (HO3.out.below hb)
  replace HN := Lib.hid (HN.out.below hb)
  replace HB := Lib.hid (HB.out.trans (hb.mono HB.out.size))
  clear hb HO4
  go_wp2_with fail
  refine (join_calls (some ⟨gl, 0, none⟩) (ls.length + 3) ls _ (by omega) HSum.out HLe.out.cellsS (by omega)).mono ?_
  rintro e w6 ⟨rfl, hb⟩
  replace HC := Lib.hid (HC.out.below hb)
  replace HLe := Lib.hid (HLe.out.below hb)
  replace HO3 := Lib.hid (HO3.out.below hb)
  replace HN := Lib.hid (HN.out.below hb)
  replace HB := Lib.hid (HB.out.trans (hb.mono HB.out.size))
  clear hb
  go_wp2_with fail
  refine (rjoin_calls A c ls _ (by omega) HZ.out HC.out hc).mono ?_
  rintro e w7 ⟨rfl, hb⟩
  replace HC := Lib.hid (HC.out.below hb)
  replace HLe := Lib.hid (HLe.out.below hb)
  replace HO3 := Lib.hid (HO3.out.below hb)
  replace HN := Lib.hid (HN.out.below hb)
  replace HB := Lib.hid (HB.out.trans (hb.mono HB.out.size))
  clear hb
  go_wp2_with fail
  refine (lines_calls s _ hs1).mono ?_
  rintro e w8 ⟨f8, rfl, hs8, hb⟩
  rw [← HL.out] at hs8
  have HS8 := Lib.hid hs8
  have HB8 := Lib.hid hb
  clear hs8 hb
  go_wp2_with fail
  refine (texts_calls f8 L 1000 _ _ _ hll2 (by omega) HS8.out).mono ?_
  rintro e w9 ⟨v, rfl, ho, ht⟩
  rw [HT.out] at ho
  obtain ⟨A9, c9, rfl, hc9, hcs⟩ := own_open ho
  have hO : Own w9 _ A9 c9 L := ho
  have hb : Below w7.heap.size w7 w9 := HB8.out.trans (ht.below HB8.out.size (fun k _ hk => by omega))
  clear ho hcs ht HS8 HB8
  replace HC := Lib.hid (HC.out.below hb)
  replace HLe := Lib.hid (HLe.out.below hb)
  replace HO3 := Lib.hid (HO3.out.below hb)
  replace HN := Lib.hid (HN.out.below hb)
  replace HB := Lib.hid (HB.out.trans (hb.mono HB.out.size))
  have HO9 := Lib.hid hO
  clear hb hO
  go_wp2_with fail
  refine (rsplit_calls s hs1 _).mono ?_
  rintro e w10 ⟨v, rfl, ho, hb⟩
  rw [← HL.out] at ho
  obtain ⟨A10, c10, rfl, hc10, hcs⟩ := own_open ho
  have hO : Own w10 _ A10 c10 L := ho
  clear ho hcs
  replace HC := Lib.hid (HC.out.below hb)
  replace HLe := Lib.hid (HLe.out.below hb)
  replace HO3 := Lib.hid (HO3.out.below hb)
  replace HN := Lib.hid (HN.out.below hb)
  replace HO9 := Lib.hid (HO9.out.below hb)
  replace HB := Lib.hid (HB.out.trans (hb.mono HB.out.size))
  have HO10 := Lib.hid hO
  clear hb hO
  go_wp2_with fail
  refine (sameT A9 A10 _ _ c9 c10 L L _ (by first | rfl | exact HLL.out | simp) (by first | rfl | exact HLL.out | simp) hll2 hll2 (cellsST HO9.out.cells.2) (cellsST HO10.out.cells.2) HO9.out.cells.1 HO10.out.cells.1).mono ?_
  rintro e w11 ⟨he, n, hw⟩
  rw [decide_eq_true rfl] at he
  obtain rfl := he
  have hb : Below w10.heap.size w10 w11 := (by rw [hw]; exact ⟨rfl, rfl, rfl, Nat.le_refl _, fun _ _ => rfl⟩)
  clear hw
  replace HC := Lib.hid (HC.out.below hb)
  replace HLe := Lib.hid (HLe.out.below hb)
  replace HO3 := Lib.hid (HO3.out.below hb)
  replace HN := Lib.hid (HN.out.below hb)
  replace HB := Lib.hid (HB.out.trans (hb.mono HB.out.size))
  clear hb HO9 HO10
  go_wp2_with fail
  refine (binary_calls s _).mono ?_
  rintro e w12 ⟨rfl, hw⟩
  have hb : Below w11.heap.size w11 w12 := (by rw [hw]; exact Below.refl _ _)
  clear hw
  replace HC := Lib.hid (HC.out.below hb)
  replace HLe := Lib.hid (HLe.out.below hb)
  replace HO3 := Lib.hid (HO3.out.below hb)
  replace HN := Lib.hid (HN.out.below hb)
  replace HB := Lib.hid (HB.out.trans (hb.mono HB.out.size))
  clear hb
  go_wp2_with fail
  refine (rbinary_calls s hs1 _).mono ?_
  rintro e w13 ⟨rfl, n, hw⟩
  have hb : Below w12.heap.size w12 w13 := (by rw [hw]; exact ⟨rfl, rfl, rfl, Nat.le_refl _, fun _ _ => rfl⟩)
  clear hw
  replace HC := Lib.hid (HC.out.below hb)
  replace HLe := Lib.hid (HLe.out.below hb)
  replace HO3 := Lib.hid (HO3.out.below hb)
  replace HN := Lib.hid (HN.out.below hb)
  replace HB := Lib.hid (HB.out.trans (hb.mono HB.out.size))
  clear hb
  go_wp2_with fail
  refine (few_calls s _ hs1).mono ?_
  rintro e w14 ⟨rfl, hb⟩
  replace HC := Lib.hid (HC.out.below hb)
  replace HLe := Lib.hid (HLe.out.below hb)
  replace HO3 := Lib.hid (HO3.out.below hb)
  replace HN := Lib.hid (HN.out.below hb)
  replace HB := Lib.hid (HB.out.trans (hb.mono HB.out.size))
  clear hb
  go_wp2_with fail
  refine (rfew_calls s hs1 _).mono ?_
  rintro e w15 ⟨rfl, hb⟩
  replace HC := Lib.hid (HC.out.below hb)
  replace HLe := Lib.hid (HLe.out.below hb)
  replace HO3 := Lib.hid (HO3.out.below hb)
  replace HN := Lib.hid (HN.out.below hb)
  replace HB := Lib.hid (HB.out.trans (hb.mono HB.out.size))
  clear hb
  go_wp2_with fail
  refine (kept_calls _ gl A c ls (by omega) HLe.out HC.out hc).mono ?_
  rintro e w16 ⟨rfl, hb⟩
  replace HO3 := Lib.hid (HO3.out.below hb)
  replace HN := Lib.hid (HN.out.below hb)
  replace HB := Lib.hid (HB.out.trans (hb.mono HB.out.size))
  clear hb HLe HC
  go_wp2_with fail
  refine (over_any _ _ A3 c3 L _ (by first | rfl | simp) hll2 HO3.out HN.out).mono ?_
  rintro e w17 ⟨⟨v, rfl⟩, hb⟩
  replace HB := Lib.hid (HB.out.trans (hb.mono hN0))
  clear hb HO3 HN hN0
  go_wp2_with fail
  refine (split_calls s _ hs1).mono ?_
  rintro e w18 ⟨v, rfl, ho, hb⟩
  rw [← HL.out] at ho
  obtain ⟨A18, c18, rfl, hc18, hcs⟩ := own_open ho
  have hO : Own w18 _ A18 c18 L := ho
  clear ho hcs
  replace HB := Lib.hid (HB.out.trans (hb.mono HB.out.size))
  have HO18 := Lib.hid hO
  clear hb hO
  go_wp2_with fail
  refine (rsplit_calls s hs1 _).mono ?_
  rintro e w19 ⟨v, rfl, ho, hb⟩
  rw [← HL.out] at ho
  obtain ⟨A19, c19, rfl, hc19, hcs⟩ := own_open ho
  have hO : Own w19 _ A19 c19 L := ho
  clear ho hcs
  replace HO18 := Lib.hid (HO18.out.below hb)
  replace HB := Lib.hid (HB.out.trans (hb.mono HB.out.size))
  have HO19 := Lib.hid hO
  clear hb hO
  go_wp2_with fail
  refine (sameT A18 A19 _ _ c18 c19 L L _ (by first | rfl | exact HLL.out | simp) (by first | rfl | exact HLL.out | simp) hll2 hll2 (cellsST HO18.out.cells.2) (cellsST HO19.out.cells.2) HO18.out.cells.1 HO19.out.cells.1).mono ?_
  rintro e w20 ⟨he, n, hw⟩
  rw [decide_eq_true rfl] at he
  obtain rfl := he
  have hb : Below w19.heap.size w19 w20 := (by rw [hw]; exact ⟨rfl, rfl, rfl, Nat.le_refl _, fun _ _ => rfl⟩)
  clear hw
  replace HB := Lib.hid (HB.out.trans (hb.mono HB.out.size))
  clear hb HO18 HO19
  go_wp2_with fail
  refine (awake_calls _).mono ?_
  rintro e w21 ⟨rfl, hb⟩
  replace HB := Lib.hid (HB.out.trans (hb.mono HB.out.size))
  clear hb
  go_wp2
  go_ret
  exact ⟨rfl, HB.out⟩
theorem tells_law (s : ByteArray) (A : Option Addr) (c : Nat) (ls : List ByteArray) (w : World) (_ : s.size ≤ 140737488351232) (hz : CellsT w A ls) (hnil : A = none → ls.length = 0 ∧ c = 0) (hc : ls.length ≤ c) (hb : ls.length * 16 ≤ 140737488351232) :
    Calls Try.prog 3 #[.string s, .slice A ls.length c] w fun e w' => e = .returned (.bool true) ∧ Below w.heap.size w w' := by
  by_cases hs : 500 < s.size
  · exact tells_long s A c ls w hs
  · obtain ⟨b, hb, hg⟩ := great_calls A c ls w hz (by omega) hc
    cases b with
    | true => exact tells_great s A c ls w hs hg
    | false => exact tells_short s A c ls w hs (hb rfl).1 (hb rfl).2 hz hc hnil hg
end Go.Proofs.Ytljlibopnfnkeaa.SeqS
