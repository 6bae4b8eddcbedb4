/- The walk of the law SeqLists answers true, whatever the list and the number. -/
import Derived.Test.YtnagjilogadinaaSeqAwake

namespace Go.Proofs.Ytnagjilogadinaa.SeqI
open Go.RowKit Go.Shelf Go.Proofs.Ytnagjilogadinaa.SeqM
attribute [local go_sem] Oper.semAt_some
set_option linter.unusedVariables false

theorem Cells.take {W : World} {A : Option Addr} {zs : List Int} (h : Cells W A zs) (k : Nat) : Cells W A (zs.take k) := by
  rcases h with rfl | ⟨b, off, rfl, hb, hc⟩
  · exact .inl (by simp)
  · exact .inr ⟨b, off, rfl, hb, fun j hj => by rw [hc j (by simp at hj; omega)]; simp⟩

theorem ints_any (fv : Value) (xs : List Int) (most : Int) (R M0 : Fp) (w : World) (hlen : xs.length ≤ 1000000) (hs : SeqG fv xs R M0 w) :
    Calls Try.prog 12 #[fv, .int .i64 most] w (ColPost w (xs.take most.toNat) M0) := by
  by_cases h : 1 ≤ most
  · exact ints_calls fv xs most R M0 w hlen h hs
  · rw [show most.toNat = 0 by omega, List.take_zero]
    exact ints_no fv xs most R M0 w (by omega) hs
/-- Like lists, their lengths told. -/
theorem same_n (A B : Option Addr) (n m c d : Nat) (zs : List Int) (w : World) (hn : n = zs.length) (hm : m = zs.length) (hlen : zs.length ≤ 1000000) (ha : Cells w A zs) (hb : Cells w B zs) :
    Calls Try.prog 14 #[.slice A n c, .slice B m d] w fun e w' => e = .returned (.bool true) ∧ Below w.heap.size w w' := by
  subst hn
  subst hm
  exact same_calls A B c d zs w hlen ha hb
theorem over_any (w : World) (n₀ : Nat) (A : Option Addr) (n cap : Nat) (zs : List Int) (hlen : zs.length ≤ 1000000) (hn : n = zs.length) (hr : (A = none ∧ zs = [] ∧ cap = 0) ∨ ∃ g, A = some ⟨g, 0, none⟩ ∧ n₀ ≤ g ∧ g < w.heap.size ∧ Row w g zs.length cap (zs.map (Value.int .i64))) :
    Calls Try.prog 10 #[.slice A n cap] w fun e w' => (∃ v, e = .returned v) ∧ TurnM (fun k => n₀ ≤ k) w w' := by
  subst hn
  rcases hr with ⟨rfl, rfl, rfl⟩ | ⟨g, rfl, h1, h2, h3⟩
  · exact (over_nil w).mono fun e w' ⟨h, hb⟩ => ⟨h, TurnM.of_below hb⟩
  · exact (over_calls w g _ cap _ hlen h3).mono fun e w' ⟨h, hb⟩ => ⟨h, hb.mono fun k _ e => by omega⟩

set_option maxHeartbeats 4000000 in
set_option maxRecDepth 100000 in
theorem lists_calls (A : Option Addr) (c : Nat) (xs : List Int) (early : Int) (w : World) (hz : Cells w A xs) (hnil : A = none → xs.length = 0 ∧ c = 0) (hcap : xs.length ≤ c) (hlen : xs.length * 8 ≤ 140737488351232) :
    Calls Try.prog 3 #[.slice A xs.length c, .int .i64 early] w fun e w' => e = .returned (.bool true) ∧ Below w.heap.size w w' := by
  have HZ := Lib.hid hz
  have HNil := Lib.hid hnil
  clear hz hnil
  by_cases h60 : 60 < xs.length
  · go_enter Try.func3, Try.ntmps3
    go_wp2_with (go_at_call 7; refine (awake_calls _).mono ?_; rintro e w1 ⟨rfl, hb⟩; have HB := Lib.hid hb; clear hb)
    go_ret
    exact ⟨rfl, HB.out⟩
  · go_enter Try.func3, Try.ntmps3
    go_wp2_with fail
    refine (lend_calls _ A c xs (by omega) HZ.out HNil.out).mono ?_
    rintro e w1 ⟨rfl, hr, hb⟩
    have HR1 := Lib.hid hr
    have HB1 := Lib.hid hb
    have HZ1 := Lib.hid (HZ.out.below hb)
    clear hr hb
    go_wp2_with fail
    have hc1 : Cells w1 (some ⟨w.heap.size, 0, none⟩) xs := (cells_of_row (row_own (base := w.heap.size) HR1.out (by simp) (Nat.le_refl _)) rfl).1
    refine (of_calls _ _ (xs.length + 3) xs (by omega) hc1 (fun e => by cases e)).mono ?_
    rintro e w2 ⟨f2, R2', rfl, hs2, hRge, hb2⟩
    have HS2 := Lib.hid hs2
    have HRge := Lib.hid hRge
    have HB2 := Lib.hid (HB1.out.trans (hb2.mono HB1.out.size))
    have hlt1 : w.heap.size < w1.heap.size := by obtain ⟨cur, h1, _⟩ := HR1.out; exact (Array.getElem?_eq_some_iff.1 h1).1
    have HR2 : Hid (Row w2 w.heap.size xs.length (xs.length + 3) (xs.map (Value.int .i64))) := by
      obtain ⟨cur, h1, h2⟩ := HR1.out
      exact ⟨cur, (hb2.block _ hlt1).trans h1, h2⟩
    clear hs2 hb2 hc1 hRge
    go_wp2_with fail
    refine (over_calls _ _ _ _ _ (by omega) HR2.out).mono ?_
    rintro e w3 ⟨⟨v3, rfl⟩, ht3⟩
    have HS3 := Lib.hid (HS2.out.keep (KeepM.of_turn ht3 (fun k hk hR e => by have := HRge.out k hR; omega)))
    have HB3 := Lib.hid (HB2.out.trans (ht3.below HB2.out.size (fun k _ e => by omega)))
    have HZ3 := Lib.hid (HZ.out.below HB3.out)
    clear ht3 HS2 HR2 HR1 HRge HZ1
    go_wp2_with fail
    refine (low_calls early 70 _ (by omega) (by omega)).mono ?_
    rintro e w4 ⟨⟨r, rfl, hr⟩, rfl⟩
    go_wp2_with fail
    refine (ints_any f2 xs r R2' _ _ (by omega) HS3.out.g).mono ?_
    rintro e w5 ⟨v5, rfl, ho5, ht5⟩
    rw [Int.toNat_natCast] at ho5
    obtain ⟨A5, c5, rfl, hc5, _⟩ := col_open ho5
    have hb5 := ht5.none
    have HC5 := Lib.hid hc5
    have HS5 := Lib.hid (HS3.out.below hb5)
    have HB5 := Lib.hid (HB3.out.trans (hb5.mono HB3.out.size))
    have HZ5 := Lib.hid (HZ3.out.below hb5)
    have hl5 : (xs.take r).length ≤ 60 := by simp; omega
    have HL5 : Hid ((xs.take r).length = min r xs.length) := Lib.hid (by simp)
    clear ho5 ht5 hc5 hb5 HS3 HZ3
    generalize hxr : xs.take r = ys at HC5 hl5 HL5 ⊢
    have HXR := Lib.hid hxr
    clear hxr
    go_wp2_with fail
    refine (list_calls f2 xs R2' _ _ (by omega) HS5.out.g).mono ?_
    rintro e w6 ⟨v6, rfl, ho6, ht6⟩
    obtain ⟨A6, c6, rfl, hc6, hrow6⟩ := col_open ho6
    have hb6 := ht6.none
    have HC6 := Lib.hid hc6
    have HRow6 := Lib.hid hrow6
    have HC56 := Lib.hid (HC5.out.below hb6)
    have HS6 := Lib.hid (HS5.out.below hb6)
    have HRlt := Lib.hid HS5.out.1
    have HB6 := Lib.hid (HB5.out.trans (hb6.mono HB5.out.size))
    have HZ6 := Lib.hid (HZ5.out.below hb6)
    clear ho6 ht6 hc6 hb6 HS5 HZ5 HC5 hrow6
    go_wp2_with fail
    all_goals
      refine (same_n A5 A _ _ c5 c ys _ rfl (by have := HL5.out; omega) (by omega) HC56.out (by rw [← HXR.out]; exact HZ6.out.take r)).mono ?_
      rintro e w7 ⟨rfl, hb7⟩
      have HC7 := Lib.hid (HC6.out.below hb7)
      have HS7 := Lib.hid (HS6.out.below hb7)
      have HB7 := Lib.hid (HB6.out.trans (hb7.mono HB6.out.size))
      have HZ7 := Lib.hid (HZ6.out.below hb7)
      have HRow7 : Hid ((A6 = none ∧ xs = [] ∧ c6 = 0) ∨ ∃ g, A6 = some ⟨g, 0, none⟩ ∧ w5.heap.size ≤ g ∧ g < w7.heap.size ∧ Row w7 g xs.length c6 (xs.map (Value.int .i64))) := by
        refine HRow6.out.imp id ?_
        rintro ⟨g, h1, h2, h3, cur, h4, h5⟩
        exact ⟨g, h1, h2, Nat.lt_of_lt_of_le h3 hb7.size, cur, (hb7.block g h3).trans h4, h5⟩
      clear hb7 HC6 HS6 HZ6 HRow6 HC56 HXR
      go_wp2_with fail
      refine (same_n A6 A _ _ c6 c xs _ rfl rfl (by omega) HC7.out HZ7.out).mono ?_
      rintro e w8 ⟨rfl, hb8⟩
      have HS8 := Lib.hid (HS7.out.below hb8)
      have HB8 := Lib.hid (HB7.out.trans (hb8.mono HB7.out.size))
      have HZ8 := Lib.hid (HZ7.out.below hb8)
      have HRow8 : Hid ((A6 = none ∧ xs = [] ∧ c6 = 0) ∨ ∃ g, A6 = some ⟨g, 0, none⟩ ∧ w5.heap.size ≤ g ∧ g < w8.heap.size ∧ Row w8 g xs.length c6 (xs.map (Value.int .i64))) := by
        refine HRow7.out.imp id ?_
        rintro ⟨g, h1, h2, h3, cur, h4, h5⟩
        exact ⟨g, h1, h2, Nat.lt_of_lt_of_le h3 hb8.size, cur, (hb8.block g h3).trans h4, h5⟩
      clear hb8 HC7 HS7 HZ7 HRow7
      go_wp2_with fail
      refine (ints_any f2 xs 100 R2' _ _ (by omega) HS8.out.g).mono ?_
      rintro e w9 ⟨v9, rfl, ho9, ht9⟩
      rw [List.take_of_length_le (show xs.length ≤ (100 : Int).toNat by have : (100 : Int).toNat = 100 := rfl; omega)] at ho9
      obtain ⟨A9, c9, rfl, hc9, _⟩ := col_open ho9
      have hb9 := ht9.none
      have HC9 := Lib.hid hc9
      have HS9 := Lib.hid (HS8.out.below hb9)
      have HB9 := Lib.hid (HB8.out.trans (hb9.mono HB8.out.size))
      have HZ9 := Lib.hid (HZ8.out.below hb9)
      have HRow9 : Hid ((A6 = none ∧ xs = [] ∧ c6 = 0) ∨ ∃ g, A6 = some ⟨g, 0, none⟩ ∧ w5.heap.size ≤ g ∧ g < w9.heap.size ∧ Row w9 g xs.length c6 (xs.map (Value.int .i64))) := by
        refine HRow8.out.imp id ?_
        rintro ⟨g, h1, h2, h3, cur, h4, h5⟩
        exact ⟨g, h1, h2, Nat.lt_of_lt_of_le h3 hb9.size, cur, (hb9.block g h3).trans h4, h5⟩
      clear ho9 ht9 hc9 hb9 HS8 HZ8 HRow8
      go_wp2_with fail
      refine (same_n A9 A _ _ c9 c xs _ rfl rfl (by omega) HC9.out HZ9.out).mono ?_
      rintro e w10 ⟨rfl, hb10⟩
      have HS10 := Lib.hid (HS9.out.below hb10)
      have HB10 := Lib.hid (HB9.out.trans (hb10.mono HB9.out.size))
      have HZ10 := Lib.hid (HZ9.out.below hb10)
      have HRow10 : Hid ((A6 = none ∧ xs = [] ∧ c6 = 0) ∨ ∃ g, A6 = some ⟨g, 0, none⟩ ∧ w5.heap.size ≤ g ∧ g < w10.heap.size ∧ Row w10 g xs.length c6 (xs.map (Value.int .i64))) := by
        refine HRow9.out.imp id ?_
        rintro ⟨g, h1, h2, h3, cur, h4, h5⟩
        exact ⟨g, h1, h2, Nat.lt_of_lt_of_le h3 hb10.size, cur, (hb10.block g h3).trans h4, h5⟩
      clear hb10 HC9 HS9 HZ9 HRow9
      go_wp2_with fail
      refine (over_any w10 w5.heap.size A6 _ c6 xs (by omega) rfl HRow10.out).mono ?_
      rintro e w11 ⟨⟨v11, rfl⟩, ht11⟩
      have HS11 := Lib.hid (HS10.out.keep (KeepM.of_turn ht11 (fun k hk hR e => by have := HRlt.out k hR; omega)))
      have HB11 := Lib.hid (HB10.out.trans (ht11.below HB10.out.size (fun k _ e => Nat.le_trans HB5.out.size e)))
      have HZ11 := Lib.hid (HZ.out.below HB11.out)
      clear ht11 HS10 HZ10 HRow10
      go_wp2_with fail
      refine (list_calls f2 xs R2' _ _ (by omega) HS11.out.g).mono ?_
      rintro e w12 ⟨v12, rfl, ho12, ht12⟩
      obtain ⟨A12, c12, rfl, hc12, _⟩ := col_open ho12
      have hb12 := ht12.none
      have HC12 := Lib.hid hc12
      have HB12 := Lib.hid (HB11.out.trans (hb12.mono HB11.out.size))
      have HZ12 := Lib.hid (HZ11.out.below hb12)
      clear ho12 ht12 hc12 hb12 HS11 HZ11
      go_wp2_with fail
      refine (same_n A12 A _ _ c12 c xs _ rfl rfl (by omega) HC12.out HZ12.out).mono ?_
      rintro e w13 ⟨rfl, hb13⟩
      have HB13 := Lib.hid (HB12.out.trans (hb13.mono HB12.out.size))
      clear hb13 HC12 HZ12
      go_wp2_with fail
      refine (awake_calls _).mono ?_
      rintro e w14 ⟨rfl, hb14⟩
      have HB14 := Lib.hid (HB13.out.trans (hb14.mono HB13.out.size))
      clear hb14
      go_wp2_with fail
      go_ret
      exact ⟨rfl, HB14.out⟩

theorem lists_law (A : Option Addr) (c : Nat) (xs : List Int) (early : Int) (w : World) (hz : Cells w A xs) (hnil : A = none → xs.length = 0 ∧ c = 0) (hcap : xs.length ≤ c) (hlen : xs.length * 8 ≤ 140737488351232) (_ : (Lit.int .i64 early).wf = true) :
    Calls Try.prog 3 #[.slice A xs.length c, .int .i64 early] w fun e w' => e = .returned (.bool true) ∧ Below w.heap.size w w' := lists_calls A c xs early w hz hnil hcap hlen
end Go.Proofs.Ytnagjilogadinaa.SeqI
