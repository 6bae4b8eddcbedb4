/- The walk of the law ThreeSides answers true, whatever the lists. -/
import Derived.Test.YtgcjejepahdjgaaThreeSay
namespace Go.Proofs.Ytgcjejepahdjgaa.SeqS
open Go.RowKit Go.Shelf Go.Proofs.Ytgcjejepahdjgaa.SeqM Go.Proofs.Ytgcjejepahdjgaa.PRef Go.Proofs.YtgcjejepahdjgaaW.PrintWords
attribute [local go_sem] Oper.semAt_some
set_option linter.unusedVariables false
set_option linter.unusedSimpArgs false
set_option maxHeartbeats 8000000 in
set_option maxRecDepth 100000 in
theorem sides_long (A B D : Option Addr) (c d f na nb nc : Nat) (w : World) (h : Great3 A B D c d f na nb nc true w) :
    Calls Try.prog 5 #[.slice A na c, .slice B nb d, .slice D nc f] w (LawPost w) := by
  have H := Lib.hid h
  clear h
  go_enter Try.func5, Try.ntmps5
  go_wp2_with fail
  refine (H.out _ (Below.refl _ _)).mono ?_
  rintro e w1 ⟨rfl, hb⟩
  have HB := Lib.hid hb
  clear hb
  go_wp2_with fail
  refine (awake5 _).mono ?_
  rintro e w2 ⟨rfl, hb⟩
  replace HB := Lib.hid (HB.out.trans (hb.mono HB.out.size))
  clear hb
  go_wp2
  go_ret
  exact ⟨rfl, HB.out⟩
set_option maxHeartbeats 8000000 in
set_option maxRecDepth 100000 in
theorem sides_short (A B D : Option Addr) (c d f : Nat) (o a b : List ByteArray) (w : World) (ho : TX w A c o) (ha : TX w B d a) (hb : TX w D f b) (h : Great3 A B D c d f o.length a.length b.length false w) (l0 : o.length ≤ 30) (l1 : a.length ≤ 30) (l2 : b.length ≤ 30) :
    Calls Try.prog 5 #[.slice A o.length c, .slice B a.length d, .slice D b.length f] w (LawPost w) := by
  have H := Lib.hid h
  have HO := Lib.hid ho
  have HA := Lib.hid ha
  have HBb := Lib.hid hb
  clear h ho ha hb
  obtain ⟨m, hm⟩ : ∃ m, m = Three.merge o a b := ⟨_, rfl⟩
  have hml : (m.getD []).length ≤ 1000000 := by
    cases m with
    | none => simp
    | some r => simpa using merge_len hm.symm (by omega) (by omega)
  have HM := Lib.hid hm
  clear hm
  go_enter Try.func5, Try.ntmps5
  go_wp2_with fail
  refine (H.out _ (Below.refl _ _)).mono ?_
  rintro e w1 ⟨rfl, hb⟩
  have HB := Lib.hid hb
  replace HO := Lib.hid (HO.out.below hb)
  replace HA := Lib.hid (HA.out.below hb)
  replace HBb := Lib.hid (HBb.out.below hb)
  clear hb H
  go_wp2_with fail
  refine (merge_tx A c o B d a D f b _ HO.out HA.out HBb.out (by omega) (by omega) (by omega)).mono ?_
  rintro e w2 ⟨A1, c1, rfl, hT, -, hb⟩
  rw [← HM.out] at hT ⊢
  replace HO := Lib.hid (HO.out.below hb)
  replace HA := Lib.hid (HA.out.below hb)
  replace HBb := Lib.hid (HBb.out.below hb)
  replace HB := Lib.hid (HB.out.trans (hb.mono HB.out.size))
  have HT1 := Lib.hid hT
  clear hb hT
  go_wp2_with fail
  refine (merge_tx A c o D f b B d a _ HO.out HBb.out HA.out (by omega) (by omega) (by omega)).mono ?_
  rintro e w3 ⟨A2, c2, rfl, hT, -, hb⟩
  rw [Three.merge_swap, ← HM.out] at hT ⊢
  replace HO := Lib.hid (HO.out.below hb)
  replace HA := Lib.hid (HA.out.below hb)
  replace HBb := Lib.hid (HBb.out.below hb)
  replace HT1 := Lib.hid (HT1.out.below hb)
  replace HB := Lib.hid (HB.out.trans (hb.mono HB.out.size))
  have HT2 := Lib.hid hT
  clear hb hT
  go_wp2_with fail
  refine (merge_tx A c o B d a B d a _ HO.out HA.out HA.out (by omega) (by omega) (by omega)).mono ?_
  rintro e w4 ⟨A3, c3, rfl, hT, -, hb⟩
  rw [Three.merge_same] at hT ⊢
  simp only [Option.isSome_some, Option.getD_some] at hT ⊢
  replace HO := Lib.hid (HO.out.below hb)
  replace HA := Lib.hid (HA.out.below hb)
  replace HBb := Lib.hid (HBb.out.below hb)
  replace HT1 := Lib.hid (HT1.out.below hb)
  replace HT2 := Lib.hid (HT2.out.below hb)
  replace HB := Lib.hid (HB.out.trans (hb.mono HB.out.size))
  have HT3 := Lib.hid hT
  clear hb hT
  go_wp2_with fail
  refine (merge_tx A c o A c o D f b _ HO.out HO.out HBb.out (by omega) (by omega) (by omega)).mono ?_
  rintro e w5 ⟨A4, c4, rfl, hT, -, hb⟩
  rw [Three.merge_left] at hT ⊢
  simp only [Option.isSome_some, Option.getD_some] at hT ⊢
  replace HO := Lib.hid (HO.out.below hb)
  replace HA := Lib.hid (HA.out.below hb)
  replace HBb := Lib.hid (HBb.out.below hb)
  replace HT1 := Lib.hid (HT1.out.below hb)
  replace HT2 := Lib.hid (HT2.out.below hb)
  replace HT3 := Lib.hid (HT3.out.below hb)
  replace HB := Lib.hid (HB.out.trans (hb.mono HB.out.size))
  have HT4 := Lib.hid hT
  clear hb hT
  go_wp2_with fail
  refine (merge_tx A c o B d a A c o _ HO.out HA.out HO.out (by omega) (by omega) (by omega)).mono ?_
  rintro e w6 ⟨A5, c5, rfl, hT, -, hb⟩
  rw [Three.merge_right] at hT ⊢
  simp only [Option.isSome_some, Option.getD_some] at hT ⊢
  replace HO := Lib.hid (HO.out.below hb)
  replace HA := Lib.hid (HA.out.below hb)
  replace HBb := Lib.hid (HBb.out.below hb)
  replace HT1 := Lib.hid (HT1.out.below hb)
  replace HT2 := Lib.hid (HT2.out.below hb)
  replace HT3 := Lib.hid (HT3.out.below hb)
  replace HT4 := Lib.hid (HT4.out.below hb)
  replace HB := Lib.hid (HB.out.trans (hb.mono HB.out.size))
  have HT5 := Lib.hid hT
  clear hb hT
  go_wp2_with fail
  refine (same_tx A1 A2 c1 c2 (m.getD []) (m.getD []) _ HT1.out HT2.out hml true (by simp)).mono ?_
  rintro e w7 ⟨rfl, hb⟩
  replace HO := Lib.hid (HO.out.below hb)
  replace HA := Lib.hid (HA.out.below hb)
  replace HBb := Lib.hid (HBb.out.below hb)
  replace HT3 := Lib.hid (HT3.out.below hb)
  replace HT4 := Lib.hid (HT4.out.below hb)
  replace HT5 := Lib.hid (HT5.out.below hb)
  replace HB := Lib.hid (HB.out.trans (hb.mono HB.out.size))
  clear hb HT1 HT2
  go_wp2_with fail
  refine (same_tx A3 B c3 d a a _ HT3.out HA.out (by omega) true (by simp)).mono ?_
  rintro e w8 ⟨rfl, hb⟩
  replace HO := Lib.hid (HO.out.below hb)
  replace HA := Lib.hid (HA.out.below hb)
  replace HBb := Lib.hid (HBb.out.below hb)
  replace HT4 := Lib.hid (HT4.out.below hb)
  replace HT5 := Lib.hid (HT5.out.below hb)
  replace HB := Lib.hid (HB.out.trans (hb.mono HB.out.size))
  clear hb HT3
  go_wp2_with fail
  refine (same_tx A4 D c4 f b b _ HT4.out HBb.out (by omega) true (by simp)).mono ?_
  rintro e w9 ⟨rfl, hb⟩
  replace HO := Lib.hid (HO.out.below hb)
  replace HA := Lib.hid (HA.out.below hb)
  replace HBb := Lib.hid (HBb.out.below hb)
  replace HT5 := Lib.hid (HT5.out.below hb)
  replace HB := Lib.hid (HB.out.trans (hb.mono HB.out.size))
  clear hb HT4
  go_wp2_with fail
  refine (same_tx A5 B c5 d a a _ HT5.out HA.out (by omega) true (by simp)).mono ?_
  rintro e w10 ⟨rfl, hb⟩
  replace HO := Lib.hid (HO.out.below hb)
  replace HA := Lib.hid (HA.out.below hb)
  replace HBb := Lib.hid (HBb.out.below hb)
  replace HB := Lib.hid (HB.out.trans (hb.mono HB.out.size))
  clear hb HT5
  go_wp2_with fail
  refine (awake5 _).mono ?_
  rintro e w11 ⟨rfl, hb⟩
  replace HO := Lib.hid (HO.out.below hb)
  replace HA := Lib.hid (HA.out.below hb)
  replace HBb := Lib.hid (HBb.out.below hb)
  replace HB := Lib.hid (HB.out.trans (hb.mono HB.out.size))
  clear hb
  go_wp2
  go_ret
  exact ⟨rfl, HB.out⟩
theorem sides_law (A : Option Addr) (c : Nat) (o : List ByteArray) (B : Option Addr) (d : Nat) (a : List ByteArray) (D : Option Addr) (f : Nat) (b : List ByteArray) (w : World)
    (hz : CellsT w A o) (hnil : A = none → o.length = 0 ∧ c = 0) (hc : o.length ≤ c) (hb : o.length * 16 ≤ 140737488351232) (hz' : CellsT w B a) (hnil' : B = none → a.length = 0 ∧ d = 0) (hd : a.length ≤ d) (hb' : a.length * 16 ≤ 140737488351232) (hz'' : CellsT w D b) (hnil'' : D = none → b.length = 0 ∧ f = 0) (hf : b.length ≤ f) (hb'' : b.length * 16 ≤ 140737488351232) :
    Calls Try.prog 5 #[.slice A o.length c, .slice B a.length d, .slice D b.length f] w fun e w' => e = .returned (.bool true) ∧ Below w.heap.size w w' := by
  have ho := tx_of_cells hz hb hc
  have ha := tx_of_cells hz' hb' hd
  have hb := tx_of_cells hz'' hb'' hf
  obtain ⟨g, hg, hG⟩ := great_tx A B D c d f o a b w ho ha hb
  cases g with
  | true => exact sides_long A B D c d f _ _ _ w hG
  | false =>
    obtain ⟨l0, l1, l2⟩ := hg rfl
    exact sides_short A B D c d f o a b w ho ha hb hG l0 l1 l2
end Go.Proofs.Ytgcjejepahdjgaa.SeqS
