/- The function awake of chapter 1 answers true. -/
import Derived.Test.YtnagjilogadinaaDoorSeqRow
import Derived.Test.YtnagjilogadinaaDoorSeqFilt
import Derived.Test.YtnagjilogadinaaDoorSeqTake

namespace Go.Proofs.YtnagjilogadinaaDoor.SeqI
open Go.RowKit Go.Shelf Go.Proofs.YtnagjilogadinaaDoor.SeqM
attribute [local go_sem] Oper.semAt_some
set_option linter.unusedVariables false

theorem col_open {W : World} {n₀ : Nat} {v : Value} {zs : List Int} (h : W.ownsRow n₀ 3 1 v zs.length (zs.map (Value.int .i64))) :
    ∃ A cap, v = .slice A zs.length cap ∧ Cells W A zs ∧ ((A = none ∧ zs = [] ∧ cap = 0) ∨ ∃ g, A = some ⟨g, 0, none⟩ ∧ n₀ ≤ g ∧ g < W.heap.size ∧ Row W g zs.length cap (zs.map (Value.int .i64))) := by
  rcases h.2 with ⟨rfl, h0⟩ | ⟨g, cap, cur, rfl, hg, hh, _⟩
  · have : zs = [] := List.eq_nil_of_length_eq_zero h0
    subst this
    exact ⟨none, 0, rfl, .inl rfl, .inl ⟨rfl, rfl, rfl⟩⟩
  · exact ⟨_, cap, rfl, (cells_of_row h rfl).1, .inr ⟨g, rfl, hg, (Array.getElem?_eq_some_iff.1 hh).1, own_row h⟩⟩

theorem cells_made (w : World) (zs : List Int) (cs : Array Value) (h : cs.toList = zs.map (Value.int .i64)) : Cells (w.alloc (.cells cs 3)) (some ⟨w.heap.size, 0, none⟩) zs := by
  refine .inr ⟨w.heap.size, 0, rfl, by simp, fun j hj => ?_⟩
  have hn := World.alloc_heap_new w (.cells cs 3)
  have h1 : cs[j]? = some (.int .i64 zs[j]) := by rw [← Array.getElem?_toList, h]; simp [hj]
  unfold World.cell?
  simp only [hn, Nat.zero_add]
  simpa using h1

def evenB (x : Int) : Bool := x.tmod 2 == 0
set_option maxRecDepth 100000 in
theorem even_calls (x : Int) (w : World) : Calls Tryd.prog 7 #[.int .i64 x] w fun e w' => e = .returned (.bool (evenB x)) ∧ w' = w := by
  go_enter Tryd.func7, Tryd.ntmps7
  go_wp2
  go_ret
  exact ⟨rfl, rfl⟩
theorem enters28 : ∀ args w, (callFunc 7 args).run Tryd.prog w = .ok (.enter 7 args) w := enters_of Tryd.func7 (by kernel_rfl) rfl
theorem even_fn (W : World) : FnV (.func (.func 7) #[] #[]) (fun x => .bool (evenB x)) (fun _ => False) W :=
  ⟨fun _ h => h.elim, 7, #[], rfl, enters28, fun W2 _ n x => (callsIn_wide.2 (even_calls x W2)).mono fun e w' ⟨he, hw⟩ => ⟨he, by rw [hw]; exact Below.refl _ _⟩⟩

set_option maxHeartbeats 4000000 in
set_option maxRecDepth 100000 in
theorem awake_calls (w : World) : Calls Tryd.prog 5 #[] w fun e w' => e = .returned (.bool true) ∧ Below w.heap.size w w' := by
  go_enter Tryd.func5, Tryd.ntmps5
  go_wp2_with fail
  refine (count_calls 0 10 (by omega) (by omega) _).mono ?_
  rintro e w1 ⟨f1, R1, rfl, hs1, _, hb1⟩
  have HS1 := Lib.hid hs1
  have HB1 := Lib.hid hb1
  clear hs1 hb1
  go_wp2_with fail
  refine (filter_calls _ _ _ evenB (upto 0 10) R1 _ HS1.out (even_fn _)).mono ?_
  rintro e w2 ⟨f2, R2', rfl, hs2, hb2⟩
  have HS2 := Lib.hid hs2
  have HB2 := Lib.hid (HB1.out.trans (hb2.mono HB1.out.size))
  clear hs2 hb2 HS1
  go_wp2_with fail
  refine (take_calls _ _ 3 _ R2' HS2.out (by omega)).mono ?_
  rintro e w3 ⟨f3, R3, rfl, hs3, hb3⟩
  have hl3 : ((upto 0 10).filter evenB).take (3 : Int).toNat = [0, 2, 4] := by decide
  have HS3 := Lib.hid (hl3 ▸ hs3)
  have HB3 := Lib.hid (HB2.out.trans (hb3.mono HB2.out.size))
  clear hs3 hb3 hl3 HS2
  go_wp2_with fail
  refine (list_calls f3 [0, 2, 4] R3 _ _ (by simp) HS3.out.g).mono ?_
  rintro e w4 ⟨v4, rfl, ho4, ht4⟩
  obtain ⟨A4, c4, rfl, hc4, _⟩ := col_open ho4
  have hb4 := ht4.none
  have HC4 := Lib.hid hc4
  have HS4 := Lib.hid (HS3.out.below hb4)
  have HB4 := Lib.hid (HB3.out.trans (hb4.mono HB3.out.size))
  clear ho4 ht4 hc4 hb4 HS3
  go_wp2_with fail
  have hB4a : Below w4.heap.size w4 (w4.alloc (.cells #[.int .i64 0, .int .i64 2, .int .i64 4] 3)) := (Below.refl _ _).alloc (Nat.le_refl _) _
  refine (same_calls A4 _ c4 3 [0, 2, 4] _ (by simp) (HC4.out.below hB4a) (cells_made w4 [0, 2, 4] _ rfl)).mono ?_
  rintro e w5 ⟨rfl, hb5⟩
  have hb5' := hB4a.trans (hb5.mono (by simp))
  have HS5 := Lib.hid (HS4.out.below hb5')
  have HB5 := Lib.hid (HB4.out.trans (hb5'.mono HB4.out.size))
  clear hb5 hb5' hB4a HS4 HC4
  go_wp2_with fail
  refine (ints_calls f3 [0, 2, 4] 9 R3 _ _ (by simp) (by omega) HS5.out.g).mono ?_
  rintro e w6 ⟨v6, rfl, ho6, ht6⟩
  have hl6 : ([0, 2, 4] : List Int).take (9 : Int).toNat = [0, 2, 4] := by decide
  rw [hl6] at ho6
  obtain ⟨A6, c6, rfl, hc6, _⟩ := col_open ho6
  have hb6 := ht6.none
  have HC6 := Lib.hid hc6
  have HB6 := Lib.hid (HB5.out.trans (hb6.mono HB5.out.size))
  clear ho6 ht6 hc6 hb6 HS5 hl6
  go_wp2_with fail
  have hB6a : Below w6.heap.size w6 (w6.alloc (.cells #[.int .i64 0, .int .i64 2, .int .i64 4] 3)) := (Below.refl _ _).alloc (Nat.le_refl _) _
  refine (same_calls A6 _ c6 3 [0, 2, 4] _ (by simp) (HC6.out.below hB6a) (cells_made w6 [0, 2, 4] _ rfl)).mono ?_
  rintro e w7 ⟨rfl, hb7⟩
  have HB7 := Lib.hid (HB6.out.trans ((hB6a.trans (hb7.mono (by simp))).mono HB6.out.size))
  clear hb7 hB6a HC6
  go_wp2_with fail
  have hB7a : Below w7.heap.size w7 (w7.alloc (.cells #[.int .i64 1, .int .i64 2, .int .i64 3] 3)) := (Below.refl _ _).alloc (Nat.le_refl _) _
  refine (of_calls _ (some ⟨w7.heap.size, 0, none⟩) 3 [1, 2, 3] (by simp) (cells_made w7 [1, 2, 3] _ rfl) (fun e => by cases e)).mono ?_
  rintro e w8 ⟨f8, R8, rfl, hs8, _, hb8⟩
  have HS8 := Lib.hid hs8
  have HB8 := Lib.hid (HB7.out.trans ((hB7a.trans (hb8.mono (by simp))).mono HB7.out.size))
  clear hs8 hb8 hB7a
  go_wp2_with fail
  refine (fold_calls f8 10 [1, 2, 3] R8 _ _ HS8.out.g).mono ?_
  rintro e w9 ⟨rfl, ht9⟩
  have HB9 := Lib.hid (HB8.out.trans (ht9.none.mono HB8.out.size))
  have hf : foldW 10 [1, 2, 3] = 16 := by simp [foldW, wrap64]
  rw [hf]
  clear ht9 HS8
  go_wp2_with fail
  go_ret
  exact ⟨rfl, HB9.out⟩
end Go.Proofs.YtnagjilogadinaaDoor.SeqI
