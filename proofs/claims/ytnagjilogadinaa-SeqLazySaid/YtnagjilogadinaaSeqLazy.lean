/- SeqLazy (function 4): the counters, call by call. -/
import Derived.Test.YtnagjilogadinaaSeqLazyF
import Derived.Test.YtnagjilogadinaaSeqAwake
import Derived.Deep.RegionHeld3
namespace Go.Proofs.Ytnagjilogadinaa.SeqI
open Go.RowKit Go.Shelf Go.Proofs.Ytnagjilogadinaa.SeqM
attribute [local go_sem] Oper.semAt_some
set_option linter.unusedVariables false
set_option maxHeartbeats 4000000 in
set_option maxRecDepth 100000 in
theorem lazy_calls (A : Option Addr) (c : Nat) (xs : List Int) (early : Int) (w : World) (hz : Cells w A xs) (hnil : A = none → xs.length = 0 ∧ c = 0) (hcap : xs.length ≤ c) (hl1 : xs.length * 8 ≤ 140737488351232) :
    Calls Try.prog 4 #[.slice A xs.length c, .int .i64 early] w fun e w' => e = .returned (.bool true) ∧ Below w.heap.size w w' := by
  have HZ := Lib.hid hz
  have HNil := Lib.hid hnil
  clear hz hnil
  by_cases h60 : 60 < xs.length
  · go_enter Try.func4, Try.ntmps4
    go_wp2_with (go_at_call 7; refine (awake_calls _).mono ?_; rintro e w1 ⟨rfl, hb⟩; have HB := Lib.hid hb; clear hb)
    go_ret
    exact ⟨rfl, HB.out⟩
  go_enter Try.func4, Try.ntmps4
  go_wp2_with fail
  have hb : Below w.heap.size w ((w.alloc (.cells #[.int .i64 0] 3)).alloc (.cells #[.int .i64 0] 3)) := ((Below.refl _ w).alloc (Nat.le_refl _) _).alloc (by simp) _
  have ca : Cnt w.heap.size 0 ((w.alloc (.cells #[.int .i64 0] 3)).alloc (.cells #[.int .i64 0] 3)) := (Boxed.new w 3 (.int .i64 0)).alloc _
  have ct := Boxed.new (w.alloc (.cells #[.int .i64 0] 3)) 3 (.int .i64 0)
  simp only [World.size_alloc] at ct
  have HCT : Hid (Cnt (w.heap.size + 1) 0 ((w.alloc (.cells #[.int .i64 0] 3)).alloc (.cells #[.int .i64 0] 3))) := ct
  have HCA := Lib.hid ca
  have hsz : ((w.alloc (.cells #[.int .i64 0] 3)).alloc (.cells #[.int .i64 0] 3)).heap.size = w.heap.size + 2 := by simp
  obtain ⟨w1, hw1⟩ : ∃ w1, (w.alloc (.cells #[.int .i64 0] 3)).alloc (.cells #[.int .i64 0] 3) = w1 := ⟨_, rfl⟩
  rw [hw1] at HCA HCT hb hsz ⊢
  clear hw1 ct ca
  have HB := Lib.hid hb
  replace HZ := Lib.hid (HZ.out.below hb)
  clear hb
  refine (of_calls _ A c xs (by omega) HZ.out (fun e => List.eq_nil_of_length_eq_zero (HNil.out e).1)).mono ?_
  rintro e w2 ⟨fs, Rs, rfl, hs, hfresh, hb⟩
  have HS := Lib.hid hs
  have hRa : ¬ Rs w.heap.size := fun h => by have := hfresh _ h; omega
  have hRb : ¬ Rs (w.heap.size + 1) := fun h => by have := hfresh _ h; omega
  replace HCA := Lib.hid ((hb.block _ (by omega)).trans HCA.out)
  replace HCT := Lib.hid ((hb.block _ (by omega)).trans HCT.out)
  replace HB := Lib.hid (HB.out.trans (hb.mono HB.out.size))
  have hsz2 : w.heap.size + 2 ≤ w2.heap.size := by have := hb.size; omega
  clear hs hb hfresh hsz
  go_wp2_with fail
  refine (mapE_calls _ fs _ (fun x => wrap64 (x + 1)) xs Rs (fun _ => False) w.heap.size (w.heap.size + 1) HS.out (asked_fn _ _) (by omega) hRa id (by omega) hRb id).mono ?_
  rintro e w3 ⟨fm, Rm, rfl, hm, hmb, hb⟩
  have HMS := Lib.hid hm
  replace HCA := Lib.hid ((hb.block _ (by omega)).trans HCA.out)
  replace HCT := Lib.hid ((hb.block _ (by omega)).trans HCT.out)
  replace HB := Lib.hid (HB.out.trans (hb.mono HB.out.size))
  have hsz3 : w.heap.size + 2 ≤ w3.heap.size := by have := hb.size; omega
  clear hm hb HS
  go_wp2_with fail
  refine (filterE_calls _ fm _ (xs.map (fun x => wrap64 (x + 1))) Rm (fun _ => False) w.heap.size (w.heap.size + 1) HMS.out (tested_fn _ _) (by omega) (by omega) (by omega) hmb id id).mono ?_
  rintro e w4 ⟨ff, Rg, rfl, hf, hb⟩
  have HFS := Lib.hid hf
  replace HCA := Lib.hid ((hb.block _ (by omega)).trans HCA.out)
  replace HCT := Lib.hid ((hb.block _ (by omega)).trans HCT.out)
  replace HB := Lib.hid (HB.out.trans (hb.mono HB.out.size))
  have hsz4 : w.heap.size + 2 ≤ w4.heap.size := by have := hb.size; omega
  clear hf hb HMS
  have hca : w4.cell? ⟨w.heap.size, 0, none⟩ = some (.int .i64 0) := Boxed.cell (t := 3) HCA.out
  have hct : w4.cell? ⟨w.heap.size + 1, 0, none⟩ = some (.int .i64 0) := Boxed.cell (t := 3) HCT.out
  go_wp2_with fail
  refine (low_calls early 70 _ (by omega) (by omega)).mono ?_
  rintro e w5 ⟨⟨r, rfl, hr⟩, rfl⟩
  go_wp2_with fail
  have hyl : (xs.map (fun x => wrap64 (x + 1))).length = xs.length := by simp
  refine (intsE_calls (S2 w.heap.size (w.heap.size + 1) 0) ff (xs.map (fun x => wrap64 (x + 1))) (1 + (r : Int)) Rg _ _ (by omega) (by omega) (HFS.out.ge (c0 := 0) (by omega) (by omega) HCA.out HCT.out)).mono ?_
  rintro e w6 ⟨⟨v, rfl, ho, ht⟩, hs1, hs2⟩
  obtain ⟨A6, c6, rfl, -, -⟩ := col_open ho
  have hb : Below w.heap.size w5 w6 := ht.below (by omega) (by rintro k _ (rfl | rfl) <;> omega)
  have hkk : KeepM Rg w5 w6 := KeepM.of_turn ht (by rintro k _ hR (rfl | rfl); exact HFS.out.1 hR; exact HFS.out.2.1 hR)
  replace HFS := Lib.hid (HFS.out.keep hkk)
  replace HB := Lib.hid (HB.out.trans hb)
  have hsz6 : w.heap.size + 2 ≤ w6.heap.size := by have := hb.size; omega
  have hlen : ((xs.map (fun x => wrap64 (x + 1))).take (1 + (r : Int)).toNat).length = min (r + 1) xs.length := by rw [List.length_take, hyl, show (1 + (r : Int)).toNat = r + 1 by omega]
  clear hb hkk ht ho HCA HCT hca hct
  rw [hlen] at hs1 hs2 ⊢
  obtain ⟨k, hk⟩ : ∃ k, min (r + 1) xs.length = k := ⟨_, rfl⟩
  rw [hk] at hs1 hs2 hlen ⊢
  rw [Int.zero_add] at hs1 hs2
  have HCA := Lib.hid hs1
  have HCT := Lib.hid hs2
  have hca : w6.cell? ⟨w.heap.size, 0, none⟩ = some (.int .i64 (k : Int)) := Boxed.cell (t := 3) hs1
  have hct : w6.cell? ⟨w.heap.size + 1, 0, none⟩ = some (.int .i64 (k : Int)) := Boxed.cell (t := 3) hs2
  clear hs1 hs2
  go_wp2_with fail
  all_goals
    have hk60 : k ≤ 60 := by omega
    refine (takeE_calls w6 ff (1 + (r : Int)) (xs.map (fun x => wrap64 (x + 1))) Rg _ _ (HFS.out.ge (c0 := (k : Int)) (by omega) (by omega) HCA.out HCT.out) (by omega) (by omega) (by rintro q hR (rfl | rfl); exact HFS.out.1 hR; exact HFS.out.2.1 hR)).mono ?_
    rintro e w7 ⟨ft, Rt, rfl, hge, hb⟩
    have HGE := Lib.hid hge
    replace HB := Lib.hid (HB.out.trans (hb.mono HB.out.size))
    have hsz7 : w.heap.size + 2 ≤ w7.heap.size := by have := hb.size; omega
    clear hge hb HFS HCA HCT hca hct
    go_wp2_with fail
    refine (intsE_calls _ ft _ 100 Rt _ _ (by omega) (by omega) HGE.out).mono ?_
    rintro e w8 ⟨⟨v, rfl, ho, ht⟩, hs1, hs2⟩
    obtain ⟨A8, c8, rfl, -, -⟩ := col_open ho
    have hb : Below w.heap.size w7 w8 := ht.below (by omega) (by rintro k _ (rfl | rfl) <;> omega)
    replace HB := Lib.hid (HB.out.trans hb)
    have hlen2 : (((xs.map (fun x => wrap64 (x + 1))).take (1 + (r : Int)).toNat).take (100 : Int).toNat).length = k := by rw [List.length_take, hlen, show (100 : Int).toNat = 100 from rfl]; omega
    clear hb ht ho HGE
    rw [hlen2] at hs1 hs2 ⊢
    have e2 : (k : Int) + (k : Int) = 2 * (k : Int) := by omega
    rw [e2] at hs1 hs2
    have hca : w8.cell? ⟨w.heap.size, 0, none⟩ = some (.int .i64 (2 * (k : Int))) := Boxed.cell (t := 3) hs1
    have hct : w8.cell? ⟨w.heap.size + 1, 0, none⟩ = some (.int .i64 (2 * (k : Int))) := Boxed.cell (t := 3) hs2
    clear hs1 hs2 e2 hlen hlen2
    go_wp2_with (go_at_call 7; refine (awake_calls _).mono ?_; rintro e w9 ⟨rfl, hb⟩; replace HB := Lib.hid (HB.out.trans (hb.mono HB.out.size)); clear hb)
  all_goals go_ret
  all_goals exact ⟨rfl, HB.out⟩

theorem lazy_law (A : Option Addr) (c : Nat) (xs : List Int) (early : Int) (w : World) (hz : Cells w A xs) (hnil : A = none → xs.length = 0 ∧ c = 0) (hcap : xs.length ≤ c) (hlen : xs.length * 8 ≤ 140737488351232) (_ : (Lit.int .i64 early).wf = true) :
    Calls Try.prog 4 #[.slice A xs.length c, .int .i64 early] w fun e w' => e = .returned (.bool true) ∧ Below w.heap.size w w' := lazy_calls A c xs early w hz hnil hcap hlen
end Go.Proofs.Ytnagjilogadinaa.SeqI
