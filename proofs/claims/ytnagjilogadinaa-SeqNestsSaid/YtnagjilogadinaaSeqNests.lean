/- SeqNests (function 6): walked with the contracts of what it calls. Printed by wip/tools/nests.py. -/
import Derived.Test.YtnagjilogadinaaSeqNestsF
import Derived.Laws.EntriesVeiled
import Derived.Deep.RegionHeld3
namespace Go.Proofs.Ytnagjilogadinaa.SeqI
open Go.RowKit Go.Shelf Go.Proofs.Ytnagjilogadinaa.SeqM
attribute [local go_sem] Oper.semAt_some
set_option linter.unusedVariables false
theorem boxed_bel {W W' : World} {b : Nat} {t : TypeId} {v : Value} (h : Boxed W b t v) (hb : Below W.heap.size W W') : Boxed W' b t v := (hb.block _ h.lt).trans h
theorem cells_eq {W : World} {A : Option Addr} {zs zs' : List Int} (h : Cells W A zs) (e : zs = zs') : Cells W A zs' := e ▸ h
theorem take_both {n m k : Nat} {xs : List Int} (h : k = min m n) : xs.take k = (xs.take n).take m := by rw [List.take_take, h]
theorem cellsV_made (w : World) (vs : List Value) (cs : Array Value) (h : cs.toList = vs) : CellsV (w.alloc (.cells cs 26)) (some ⟨w.heap.size, 0, none⟩) vs := by
  refine .inr ⟨w.heap.size, 0, rfl, by simp, fun j hj => ?_⟩
  have hn := World.alloc_heap_new w (.cells cs 26)
  have h1 : cs[j]? = some vs[j] := by rw [← Array.getElem?_toList, h]; simp [hj]
  unfold World.cell?
  simp only [hn, Nat.zero_add]
  simpa using h1
theorem filt_comm (xs : List Int) : xs.filter (fun a => thirdB a && evenB a) = xs.filter (fun x => evenB x && thirdB x) := by congr 1; funext x; exact Bool.and_comm _ _
theorem filt_both (xs : List Int) : (xs.filter evenB).filter thirdB = xs.filter (fun x => evenB x && thirdB x) := by rw [List.filter_filter, filt_comm]
theorem map_both (xs : List Int) : (xs.map upF).map timesF = xs.map (fun x => timesF (upF x)) := by simp
theorem take_append_int (xs ys : List Int) (n : Int) : (xs ++ ys).take n.toNat = xs.take n.toNat ++ ys.take (n - (xs.length : Int)).toNat := by
  rw [List.take_append, show (n - (xs.length : Int)).toNat = n.toNat - xs.length by omega]
set_option maxHeartbeats 4000000 in
set_option maxRecDepth 100000 in
theorem nests_calls (A B : Option Addr) (c d : Nat) (xs ys : List Int) (n0 m0 : Int) (w : World) (hz : Cells w A xs) (hnil : A = none → xs.length = 0 ∧ c = 0) (hcap : xs.length ≤ c) (hz2 : Cells w B ys) (hnil2 : B = none → ys.length = 0 ∧ d = 0) (hcap2 : ys.length ≤ d) (hl1 : xs.length * 8 ≤ 140737488351232) (hl2 : ys.length * 8 ≤ 140737488351232) :
    Calls Try.prog 6 #[.slice A xs.length c, .slice B ys.length d, .int .i64 n0, .int .i64 m0] w fun e w' => e = .returned (.bool true) ∧ Below w.heap.size w w' := by
  have HZ := Lib.hid hz
  have HNil := Lib.hid hnil
  have HZ2 := Lib.hid hz2
  have HNil2 := Lib.hid hnil2
  clear hz hnil hz2 hnil2
  by_cases h60 : 60 < xs.length
  · go_enter Try.func6, Try.ntmps6
    go_wp2_with (go_at_call 7; refine (awake_calls _).mono ?_; rintro e w1 ⟨rfl, hb⟩; have HB := Lib.hid hb; clear hb)
    go_ret
    exact ⟨rfl, HB.out⟩
  by_cases h61 : 60 < ys.length
  · go_enter Try.func6, Try.ntmps6
    go_wp2_with (go_at_call 7; refine (awake_calls _).mono ?_; rintro e w1 ⟨rfl, hb⟩; have HB := Lib.hid hb; clear hb)
    go_ret
    exact ⟨rfl, HB.out⟩
  go_enter Try.func6, Try.ntmps6
  go_wp2_with fail
  refine (low_calls n0 70 _ (by omega) (by omega)).mono ?_
  rintro e w1 ⟨⟨n, rfl, hn⟩, rfl⟩
  go_wp2_with fail
  refine (low_calls m0 70 _ (by omega) (by omega)).mono ?_
  rintro e w1 ⟨⟨m, rfl, hm⟩, rfl⟩
  go_wp2_with fail
  have HB := Lib.hid (Below.refl w1.heap.size w1)
  have hb : Below w1.heap.size w1 ((w1.alloc (.cells #[.func (.func 24) #[] #[]] 35)).alloc (.cells #[.func (.func 25) #[] #[]] 35)) := ((Below.refl _ w1).alloc (Nat.le_refl _) _).alloc (by simp) _
  have c1 := ((Boxed.new w1 35 (.func (.func 24) #[] #[])).alloc (.cells #[.func (.func 25) #[] #[]] 35))
  have c2 := Boxed.new (w1.alloc (.cells #[.func (.func 24) #[] #[]] 35)) 35 (.func (.func 25) #[] #[])
  simp only [World.size_alloc] at c2
  replace HZ := Lib.hid (HZ.out.below hb)
  replace HZ2 := Lib.hid (HZ2.out.below hb)
  replace HB := Lib.hid (HB.out.trans (hb.mono HB.out.size))
  have HU := Lib.hid c1
  have HT := Lib.hid c2
  have hcu := HU.out.cell
  have hct := HT.out.cell
  clear hb c1 c2
  refine (of_calls _ A c xs (by omega) HZ.out (fun e => List.eq_nil_of_length_eq_zero (HNil.out e).1)).mono ?_
  rintro e w2 ⟨fs, Rs, rfl, hs, _, hb⟩
  replace HZ := Lib.hid (HZ.out.below hb)
  replace HZ2 := Lib.hid (HZ2.out.below hb)
  replace HU := Lib.hid (boxed_bel HU.out hb)
  replace HT := Lib.hid (boxed_bel HT.out hb)
  replace HB := Lib.hid (HB.out.trans (hb.mono HB.out.size))
  replace hcu := HU.out.cell
  replace hct := HT.out.cell
  have HSs := Lib.hid hs
  clear hs hb
  go_wp2_with fail
  have hb : Below w2.heap.size w2 w2.drew := ⟨rfl, rfl, rfl, Nat.le_refl _, fun _ _ => rfl⟩
  replace HZ := Lib.hid (HZ.out.below hb)
  replace HZ2 := Lib.hid (HZ2.out.below hb)
  replace HU := Lib.hid (boxed_bel HU.out hb)
  replace HT := Lib.hid (boxed_bel HT.out hb)
  replace HSs := Lib.hid (HSs.out.below hb)
  replace HB := Lib.hid (HB.out.trans (hb.mono HB.out.size))
  replace hcu := HU.out.cell
  replace hct := HT.out.cell
  clear hb
  go_region_held3 (fun w' => w'.cell? ⟨w1.heap.size, 0, none⟩ = some (.func (.func 24) #[] #[]) ∧ w'.cell? ⟨w1.heap.size + 1, 0, none⟩ = some (.func (.func 25) #[] #[])) (go_keep) (first
    | (go_at_call_of 15 fs; refine (map_calls _ fs _ upF xs Rs _ HSs.out (up_fn _)).mono ?_; rintro e w3 ⟨f1, R1, rfl, hs, hb⟩; replace HZ := Lib.hid (HZ.out.below hb); replace HZ2 := Lib.hid (HZ2.out.below hb); replace HU := Lib.hid (boxed_bel HU.out hb); replace HT := Lib.hid (boxed_bel HT.out hb); replace HSs := Lib.hid (HSs.out.below hb); replace HB := Lib.hid (HB.out.trans (hb.mono HB.out.size)); replace hcu := HU.out.cell; replace hct := HT.out.cell; have HS1 := Lib.hid hs; clear hs hb)
    | (go_at_call_of 15 f1; refine (map_calls _ f1 _ timesF (xs.map upF) R1 _ HS1.out (times_fn _)).mono ?_; rintro e w4 ⟨f2, R2, rfl, hs, hb⟩; replace HZ := Lib.hid (HZ.out.below hb); replace HZ2 := Lib.hid (HZ2.out.below hb); replace HU := Lib.hid (boxed_bel HU.out hb); replace HT := Lib.hid (boxed_bel HT.out hb); replace HSs := Lib.hid (HSs.out.below hb); replace HS1 := Lib.hid (HS1.out.below hb); replace HB := Lib.hid (HB.out.trans (hb.mono HB.out.size)); replace hcu := HU.out.cell; replace hct := HT.out.cell; have HS2 := Lib.hid hs; clear hs hb; clear HS1)
    | (go_at_call_of 13 f2; refine (list_calls f2 ((xs.map upF).map timesF) R2 _ _ (by simp; omega) HS2.out.g).mono ?_; rintro e w5 ⟨v, rfl, ho, ht⟩; obtain ⟨Aa, ca, rfl, hc, _⟩ := col_open ho; have hb := ht.none; replace HZ := Lib.hid (HZ.out.below hb); replace HZ2 := Lib.hid (HZ2.out.below hb); replace HU := Lib.hid (boxed_bel HU.out hb); replace HT := Lib.hid (boxed_bel HT.out hb); replace HSs := Lib.hid (HSs.out.below hb); replace HS2 := Lib.hid (HS2.out.below hb); replace HB := Lib.hid (HB.out.trans (hb.mono HB.out.size)); replace hcu := HU.out.cell; replace hct := HT.out.cell; have HCa := Lib.hid hc; clear hc hb ho ht; clear HS2))
  go_wp2_with fail
  refine (map_calls _ fs _ (fun x => timesF (upF x)) xs Rs _ HSs.out (both_fn _ _ _ HT.out HU.out)).mono ?_
  rintro e w6 ⟨f3, R3, rfl, hs, hb⟩
  replace HZ := Lib.hid (HZ.out.below hb)
  replace HZ2 := Lib.hid (HZ2.out.below hb)
  replace HU := Lib.hid (boxed_bel HU.out hb)
  replace HT := Lib.hid (boxed_bel HT.out hb)
  replace HSs := Lib.hid (HSs.out.below hb)
  replace HCa := Lib.hid (HCa.out.below hb)
  replace HB := Lib.hid (HB.out.trans (hb.mono HB.out.size))
  replace hcu := HU.out.cell
  replace hct := HT.out.cell
  have HS3 := Lib.hid hs
  clear hs hb
  go_wp2_with fail
  refine (list_calls f3 (xs.map (fun x => timesF (upF x))) R3 _ _ (by simp; omega) HS3.out.g).mono ?_
  rintro e w7 ⟨v, rfl, ho, ht⟩
  obtain ⟨Ab, cb, rfl, hc, _⟩ := col_open ho
  have hb := ht.none
  replace HZ := Lib.hid (HZ.out.below hb)
  replace HZ2 := Lib.hid (HZ2.out.below hb)
  replace HU := Lib.hid (boxed_bel HU.out hb)
  replace HT := Lib.hid (boxed_bel HT.out hb)
  replace HSs := Lib.hid (HSs.out.below hb)
  replace HCa := Lib.hid (HCa.out.below hb)
  replace HS3 := Lib.hid (HS3.out.below hb)
  replace HB := Lib.hid (HB.out.trans (hb.mono HB.out.size))
  replace hcu := HU.out.cell
  replace hct := HT.out.cell
  have HCb := Lib.hid hc
  clear hc hb ho ht
  clear HS3
  clear hcu hct HU HT
  go_wp2_with fail
  have hb : Below w7.heap.size w7 (w7.alloc (.cells #[.func (.func 27) #[] #[]] 37)) := (Below.refl _ _).alloc (Nat.le_refl _) _
  have c1 := Boxed.new w7 37 (.func (.func 27) #[] #[])
  replace HZ := Lib.hid (HZ.out.below hb)
  replace HZ2 := Lib.hid (HZ2.out.below hb)
  replace HSs := Lib.hid (HSs.out.below hb)
  replace HCa := Lib.hid (HCa.out.below hb)
  replace HCb := Lib.hid (HCb.out.below hb)
  replace HB := Lib.hid (HB.out.trans (hb.mono HB.out.size))
  have H3 := Lib.hid c1
  have hc3 := H3.out.cell
  clear hb c1
  have hb : Below (w7.alloc (.cells #[.func (.func 27) #[] #[]] 37)).heap.size (w7.alloc (.cells #[.func (.func 27) #[] #[]] 37)) (w7.alloc (.cells #[.func (.func 27) #[] #[]] 37)).drew := ⟨rfl, rfl, rfl, Nat.le_refl _, fun _ _ => rfl⟩
  replace HZ := Lib.hid (HZ.out.below hb)
  replace HZ2 := Lib.hid (HZ2.out.below hb)
  replace HSs := Lib.hid (HSs.out.below hb)
  replace HCa := Lib.hid (HCa.out.below hb)
  replace HCb := Lib.hid (HCb.out.below hb)
  replace H3 := Lib.hid (boxed_bel H3.out hb)
  replace HB := Lib.hid (HB.out.trans (hb.mono HB.out.size))
  replace hc3 := H3.out.cell
  clear hb
  go_region_held3 (fun w' => w'.cell? ⟨w7.heap.size, 0, none⟩ = some (.func (.func 27) #[] #[])) (go_keep) (first
    | (go_at_call_of 17 fs; refine (filter_calls _ fs _ evenB xs Rs _ HSs.out (even_fn _)).mono ?_; rintro e w8 ⟨f1, R1, rfl, hs, hb⟩; replace HZ := Lib.hid (HZ.out.below hb); replace HZ2 := Lib.hid (HZ2.out.below hb); replace HSs := Lib.hid (HSs.out.below hb); replace HCa := Lib.hid (HCa.out.below hb); replace HCb := Lib.hid (HCb.out.below hb); replace H3 := Lib.hid (boxed_bel H3.out hb); replace HB := Lib.hid (HB.out.trans (hb.mono HB.out.size)); replace hc3 := H3.out.cell; have HS1 := Lib.hid hs; clear hs hb)
    | (go_at_call_of 17 f1; refine (filter_calls _ f1 _ thirdB (xs.filter evenB) R1 _ HS1.out (third_fn _)).mono ?_; rintro e w9 ⟨f2, R2, rfl, hs, hb⟩; replace HZ := Lib.hid (HZ.out.below hb); replace HZ2 := Lib.hid (HZ2.out.below hb); replace HSs := Lib.hid (HSs.out.below hb); replace HCa := Lib.hid (HCa.out.below hb); replace HCb := Lib.hid (HCb.out.below hb); replace H3 := Lib.hid (boxed_bel H3.out hb); replace HS1 := Lib.hid (HS1.out.below hb); replace HB := Lib.hid (HB.out.trans (hb.mono HB.out.size)); replace hc3 := H3.out.cell; have HS2 := Lib.hid hs; clear hs hb; clear HS1)
    | (go_at_call_of 13 f2; refine (list_calls f2 ((xs.filter evenB).filter thirdB) R2 _ _ (Nat.le_trans (List.length_filter_le _ _) (Nat.le_trans (List.length_filter_le _ _) (by omega))) HS2.out.g).mono ?_; rintro e w10 ⟨v, rfl, ho, ht⟩; obtain ⟨Ac, cc, rfl, hc, _⟩ := col_open ho; have hb := ht.none; replace HZ := Lib.hid (HZ.out.below hb); replace HZ2 := Lib.hid (HZ2.out.below hb); replace HSs := Lib.hid (HSs.out.below hb); replace HCa := Lib.hid (HCa.out.below hb); replace HCb := Lib.hid (HCb.out.below hb); replace H3 := Lib.hid (boxed_bel H3.out hb); replace HS2 := Lib.hid (HS2.out.below hb); replace HB := Lib.hid (HB.out.trans (hb.mono HB.out.size)); replace hc3 := H3.out.cell; have HCc := Lib.hid hc; clear hc hb ho ht; clear HS2))
  go_wp2_with fail
  refine (filter_calls _ fs _ (fun x => evenB x && thirdB x) xs Rs _ HSs.out (apart_fn _ _ H3.out)).mono ?_
  rintro e w11 ⟨f3, R3, rfl, hs, hb⟩
  replace HZ := Lib.hid (HZ.out.below hb)
  replace HZ2 := Lib.hid (HZ2.out.below hb)
  replace HSs := Lib.hid (HSs.out.below hb)
  replace HCa := Lib.hid (HCa.out.below hb)
  replace HCb := Lib.hid (HCb.out.below hb)
  replace H3 := Lib.hid (boxed_bel H3.out hb)
  replace HCc := Lib.hid (HCc.out.below hb)
  replace HB := Lib.hid (HB.out.trans (hb.mono HB.out.size))
  replace hc3 := H3.out.cell
  have HS3 := Lib.hid hs
  clear hs hb
  go_wp2_with fail
  refine (list_calls f3 (xs.filter (fun x => evenB x && thirdB x)) R3 _ _ (Nat.le_trans (List.length_filter_le _ _) (by omega)) HS3.out.g).mono ?_
  rintro e w12 ⟨v, rfl, ho, ht⟩
  obtain ⟨Ad, cd, rfl, hc, _⟩ := col_open ho
  have hb := ht.none
  replace HZ := Lib.hid (HZ.out.below hb)
  replace HZ2 := Lib.hid (HZ2.out.below hb)
  replace HSs := Lib.hid (HSs.out.below hb)
  replace HCa := Lib.hid (HCa.out.below hb)
  replace HCb := Lib.hid (HCb.out.below hb)
  replace H3 := Lib.hid (boxed_bel H3.out hb)
  replace HCc := Lib.hid (HCc.out.below hb)
  replace HS3 := Lib.hid (HS3.out.below hb)
  replace HB := Lib.hid (HB.out.trans (hb.mono HB.out.size))
  replace hc3 := H3.out.cell
  have HCd := Lib.hid hc
  clear hc hb ho ht
  clear HS3
  clear hc3 H3
  go_wp2_with fail
  refine (take_calls _ fs ((n : Int) - 5) xs Rs HSs.out (by omega)).mono ?_
  rintro e w13 ⟨f1, R1, rfl, hs, hb⟩
  replace HZ := Lib.hid (HZ.out.below hb)
  replace HZ2 := Lib.hid (HZ2.out.below hb)
  replace HSs := Lib.hid (HSs.out.below hb)
  replace HCa := Lib.hid (HCa.out.below hb)
  replace HCb := Lib.hid (HCb.out.below hb)
  replace HCc := Lib.hid (HCc.out.below hb)
  replace HCd := Lib.hid (HCd.out.below hb)
  replace HB := Lib.hid (HB.out.trans (hb.mono HB.out.size))
  have HS1 := Lib.hid hs
  clear hs hb
  go_wp2_with fail
  refine (take_calls _ f1 ((m : Int) - 5) (xs.take ((n : Int) - 5).toNat) R1 HS1.out (by omega)).mono ?_
  rintro e w14 ⟨f2, R2, rfl, hs, hb⟩
  replace HZ := Lib.hid (HZ.out.below hb)
  replace HZ2 := Lib.hid (HZ2.out.below hb)
  replace HSs := Lib.hid (HSs.out.below hb)
  replace HCa := Lib.hid (HCa.out.below hb)
  replace HCb := Lib.hid (HCb.out.below hb)
  replace HCc := Lib.hid (HCc.out.below hb)
  replace HCd := Lib.hid (HCd.out.below hb)
  replace HS1 := Lib.hid (HS1.out.below hb)
  replace HB := Lib.hid (HB.out.trans (hb.mono HB.out.size))
  have HS2 := Lib.hid hs
  clear hs hb
  clear HS1
  go_wp2_with fail
  refine (list_calls f2 ((xs.take ((n : Int) - 5).toNat).take ((m : Int) - 5).toNat) R2 _ _ (by simp only [List.length_take]; omega) HS2.out.g).mono ?_
  rintro e w15 ⟨v, rfl, ho, ht⟩
  obtain ⟨Ae, ce, rfl, hc, _⟩ := col_open ho
  have hb := ht.none
  replace HZ := Lib.hid (HZ.out.below hb)
  replace HZ2 := Lib.hid (HZ2.out.below hb)
  replace HSs := Lib.hid (HSs.out.below hb)
  replace HCa := Lib.hid (HCa.out.below hb)
  replace HCb := Lib.hid (HCb.out.below hb)
  replace HCc := Lib.hid (HCc.out.below hb)
  replace HCd := Lib.hid (HCd.out.below hb)
  replace HS2 := Lib.hid (HS2.out.below hb)
  replace HB := Lib.hid (HB.out.trans (hb.mono HB.out.size))
  have HCe := Lib.hid hc
  clear hc hb ho ht
  clear HS2
  go_wp2_with fail
  all_goals
    refine (take_calls _ fs _ xs Rs HSs.out (by omega)).mono ?_
    rintro e w16 ⟨f1, R1, rfl, hs, hb⟩
    replace HZ := Lib.hid (HZ.out.below hb)
    replace HZ2 := Lib.hid (HZ2.out.below hb)
    replace HSs := Lib.hid (HSs.out.below hb)
    replace HCa := Lib.hid (HCa.out.below hb)
    replace HCb := Lib.hid (HCb.out.below hb)
    replace HCc := Lib.hid (HCc.out.below hb)
    replace HCd := Lib.hid (HCd.out.below hb)
    replace HCe := Lib.hid (HCe.out.below hb)
    replace HB := Lib.hid (HB.out.trans (hb.mono HB.out.size))
    have HS1 := Lib.hid hs
    clear hs hb
    go_wp2_with fail
    refine (list_calls f1 (_) R1 _ _ (by simp only [List.length_take]; omega) HS1.out.g).mono ?_
    rintro e w17 ⟨v, rfl, ho, ht⟩
    obtain ⟨Af, cf, rfl, hc, _⟩ := col_open ho
    have hb := ht.none
    replace HZ := Lib.hid (HZ.out.below hb)
    replace HZ2 := Lib.hid (HZ2.out.below hb)
    replace HSs := Lib.hid (HSs.out.below hb)
    replace HCa := Lib.hid (HCa.out.below hb)
    replace HCb := Lib.hid (HCb.out.below hb)
    replace HCc := Lib.hid (HCc.out.below hb)
    replace HCd := Lib.hid (HCd.out.below hb)
    replace HCe := Lib.hid (HCe.out.below hb)
    replace HS1 := Lib.hid (HS1.out.below hb)
    replace HB := Lib.hid (HB.out.trans (hb.mono HB.out.size))
    have HCf := Lib.hid hc
    clear hc hb ho ht
    clear HS1
    replace HCf : Hid (Cells w17 Af ((xs.take ((n : Int) - 5).toNat).take ((m : Int) - 5).toNat)) := cells_eq HCf.out (take_both (by omega))
    obtain ⟨gs, lbs, rfl⟩ : ∃ g lb, fs = .func (.func g) #[] lb := by obtain ⟨_, g, lb, e, _⟩ := HSs.out; exact ⟨g, lb, e⟩
    go_wp2_with fail
    refine (of_calls _ B d ys (by omega) HZ2.out (fun e => List.eq_nil_of_length_eq_zero (HNil2.out e).1)).mono ?_
    rintro e w18 ⟨f1, R1, rfl, hs, _, hb⟩
    replace HZ := Lib.hid (HZ.out.below hb)
    replace HZ2 := Lib.hid (HZ2.out.below hb)
    replace HSs := Lib.hid (HSs.out.below hb)
    replace HCa := Lib.hid (HCa.out.below hb)
    replace HCb := Lib.hid (HCb.out.below hb)
    replace HCc := Lib.hid (HCc.out.below hb)
    replace HCd := Lib.hid (HCd.out.below hb)
    replace HCe := Lib.hid (HCe.out.below hb)
    replace HCf := Lib.hid (HCf.out.below hb)
    replace HB := Lib.hid (HB.out.trans (hb.mono HB.out.size))
    have HS1 := Lib.hid hs
    clear hs hb
    obtain ⟨g1, lb1, rfl⟩ : ∃ g lb, f1 = .func (.func g) #[] lb := by obtain ⟨_, g, lb, e, _⟩ := HS1.out; exact ⟨g, lb, e⟩
    go_wp2_with fail
    have hb : Below w18.heap.size w18 (w18.alloc (.cells #[(.func (.func gs) #[] lbs), (.func (.func g1) #[] lb1)] 26)) := (Below.refl _ _).alloc (Nat.le_refl _) _
    replace HZ := Lib.hid (HZ.out.below hb)
    replace HZ2 := Lib.hid (HZ2.out.below hb)
    replace HSs := Lib.hid (HSs.out.below hb)
    replace HCa := Lib.hid (HCa.out.below hb)
    replace HCb := Lib.hid (HCb.out.below hb)
    replace HCc := Lib.hid (HCc.out.below hb)
    replace HCd := Lib.hid (HCd.out.below hb)
    replace HCe := Lib.hid (HCe.out.below hb)
    replace HCf := Lib.hid (HCf.out.below hb)
    replace HS1 := Lib.hid (HS1.out.below hb)
    replace HB := Lib.hid (HB.out.trans (hb.mono HB.out.size))
    clear hb
    refine (join_calls (w18.alloc (.cells #[(.func (.func gs) #[] lbs), (.func (.func g1) #[] lb1)] 26)) (some ⟨w18.heap.size, 0, none⟩) 2 2 [⟨(.func (.func gs) #[] lbs), xs, Rs⟩, ⟨(.func (.func g1) #[] lb1), ys, R1⟩] rfl (by simp) (cellsV_made w18 _ #[(.func (.func gs) #[] lbs), (.func (.func g1) #[] lb1)] rfl) (fun e => by cases e) (fun e he => ?_)).mono ?_
    · simp only [List.mem_cons, List.not_mem_nil, or_false] at he
      rcases he with rfl | rfl
      · exact .inr HSs.out
      · exact .inr HS1.out
    rintro e w19 ⟨f2, R2, rfl, hs, hb⟩
    have hfl : flat [⟨(.func (.func gs) #[] lbs), xs, Rs⟩, ⟨(.func (.func g1) #[] lb1), ys, R1⟩] = xs ++ ys := by simp [flat]
    rw [hfl] at hs
    replace HZ := Lib.hid (HZ.out.below hb)
    replace HZ2 := Lib.hid (HZ2.out.below hb)
    replace HSs := Lib.hid (HSs.out.below hb)
    replace HCa := Lib.hid (HCa.out.below hb)
    replace HCb := Lib.hid (HCb.out.below hb)
    replace HCc := Lib.hid (HCc.out.below hb)
    replace HCd := Lib.hid (HCd.out.below hb)
    replace HCe := Lib.hid (HCe.out.below hb)
    replace HCf := Lib.hid (HCf.out.below hb)
    replace HS1 := Lib.hid (HS1.out.below hb)
    replace HB := Lib.hid (HB.out.trans (hb.mono HB.out.size))
    have HS2 := Lib.hid hs
    clear hs hb hfl
    clear HS1
    go_wp2_with fail
    refine (take_calls _ f2 ((n : Int) - 5) (xs ++ ys) R2 HS2.out (by omega)).mono ?_
    rintro e w20 ⟨f3, R3, rfl, hs, hb⟩
    replace HZ := Lib.hid (HZ.out.below hb)
    replace HZ2 := Lib.hid (HZ2.out.below hb)
    replace HSs := Lib.hid (HSs.out.below hb)
    replace HCa := Lib.hid (HCa.out.below hb)
    replace HCb := Lib.hid (HCb.out.below hb)
    replace HCc := Lib.hid (HCc.out.below hb)
    replace HCd := Lib.hid (HCd.out.below hb)
    replace HCe := Lib.hid (HCe.out.below hb)
    replace HCf := Lib.hid (HCf.out.below hb)
    replace HS2 := Lib.hid (HS2.out.below hb)
    replace HB := Lib.hid (HB.out.trans (hb.mono HB.out.size))
    have HS3 := Lib.hid hs
    clear hs hb
    clear HS2
    go_wp2_with fail
    refine (list_calls f3 ((xs ++ ys).take ((n : Int) - 5).toNat) R3 _ _ (by simp only [List.length_take, List.length_append] <;> omega) HS3.out.g).mono ?_
    rintro e w21 ⟨v, rfl, ho, ht⟩
    obtain ⟨Ag, cg, rfl, hc, _⟩ := col_open ho
    have hb := ht.none
    replace HZ := Lib.hid (HZ.out.below hb)
    replace HZ2 := Lib.hid (HZ2.out.below hb)
    replace HSs := Lib.hid (HSs.out.below hb)
    replace HCa := Lib.hid (HCa.out.below hb)
    replace HCb := Lib.hid (HCb.out.below hb)
    replace HCc := Lib.hid (HCc.out.below hb)
    replace HCd := Lib.hid (HCd.out.below hb)
    replace HCe := Lib.hid (HCe.out.below hb)
    replace HCf := Lib.hid (HCf.out.below hb)
    replace HS3 := Lib.hid (HS3.out.below hb)
    replace HB := Lib.hid (HB.out.trans (hb.mono HB.out.size))
    have HCg := Lib.hid hc
    clear hc hb ho ht
    clear HS3
    go_wp2_with fail
    refine (take_calls _ _ ((n : Int) - 5) xs Rs HSs.out (by omega)).mono ?_
    rintro e w22 ⟨f1, R1, rfl, hs, hb⟩
    replace HZ := Lib.hid (HZ.out.below hb)
    replace HZ2 := Lib.hid (HZ2.out.below hb)
    replace HSs := Lib.hid (HSs.out.below hb)
    replace HCa := Lib.hid (HCa.out.below hb)
    replace HCb := Lib.hid (HCb.out.below hb)
    replace HCc := Lib.hid (HCc.out.below hb)
    replace HCd := Lib.hid (HCd.out.below hb)
    replace HCe := Lib.hid (HCe.out.below hb)
    replace HCf := Lib.hid (HCf.out.below hb)
    replace HCg := Lib.hid (HCg.out.below hb)
    replace HB := Lib.hid (HB.out.trans (hb.mono HB.out.size))
    have HS1 := Lib.hid hs
    clear hs hb
    go_wp2_with fail
    refine (of_calls _ B d ys (by omega) HZ2.out (fun e => List.eq_nil_of_length_eq_zero (HNil2.out e).1)).mono ?_
    rintro e w23 ⟨f2, R2, rfl, hs, _, hb⟩
    replace HZ := Lib.hid (HZ.out.below hb)
    replace HZ2 := Lib.hid (HZ2.out.below hb)
    replace HSs := Lib.hid (HSs.out.below hb)
    replace HCa := Lib.hid (HCa.out.below hb)
    replace HCb := Lib.hid (HCb.out.below hb)
    replace HCc := Lib.hid (HCc.out.below hb)
    replace HCd := Lib.hid (HCd.out.below hb)
    replace HCe := Lib.hid (HCe.out.below hb)
    replace HCf := Lib.hid (HCf.out.below hb)
    replace HCg := Lib.hid (HCg.out.below hb)
    replace HS1 := Lib.hid (HS1.out.below hb)
    replace HB := Lib.hid (HB.out.trans (hb.mono HB.out.size))
    have HS2 := Lib.hid hs
    clear hs hb
    obtain ⟨g2, lb2, rfl⟩ : ∃ g lb, f2 = .func (.func g) #[] lb := by obtain ⟨_, g, lb, e, _⟩ := HS2.out; exact ⟨g, lb, e⟩
    go_wp2_with fail
    refine (take_calls _ _ (((n : Int) - 5) - (xs.length : Int)) ys R2 HS2.out (by omega)).mono ?_
    rintro e w24 ⟨f3, R3, rfl, hs, hb⟩
    replace HZ := Lib.hid (HZ.out.below hb)
    replace HZ2 := Lib.hid (HZ2.out.below hb)
    replace HSs := Lib.hid (HSs.out.below hb)
    replace HCa := Lib.hid (HCa.out.below hb)
    replace HCb := Lib.hid (HCb.out.below hb)
    replace HCc := Lib.hid (HCc.out.below hb)
    replace HCd := Lib.hid (HCd.out.below hb)
    replace HCe := Lib.hid (HCe.out.below hb)
    replace HCf := Lib.hid (HCf.out.below hb)
    replace HCg := Lib.hid (HCg.out.below hb)
    replace HS1 := Lib.hid (HS1.out.below hb)
    replace HS2 := Lib.hid (HS2.out.below hb)
    replace HB := Lib.hid (HB.out.trans (hb.mono HB.out.size))
    have HS3 := Lib.hid hs
    clear hs hb
    clear HS2
    obtain ⟨g1, lb1, rfl⟩ : ∃ g lb, f1 = .func (.func g) #[] lb := by obtain ⟨_, g, lb, e, _⟩ := HS1.out; exact ⟨g, lb, e⟩
    obtain ⟨g3, lb3, rfl⟩ : ∃ g lb, f3 = .func (.func g) #[] lb := by obtain ⟨_, g, lb, e, _⟩ := HS3.out; exact ⟨g, lb, e⟩
    go_wp2_with fail
    have hb : Below w24.heap.size w24 (w24.alloc (.cells #[(.func (.func g1) #[] lb1), (.func (.func g3) #[] lb3)] 26)) := (Below.refl _ _).alloc (Nat.le_refl _) _
    replace HZ := Lib.hid (HZ.out.below hb)
    replace HZ2 := Lib.hid (HZ2.out.below hb)
    replace HSs := Lib.hid (HSs.out.below hb)
    replace HCa := Lib.hid (HCa.out.below hb)
    replace HCb := Lib.hid (HCb.out.below hb)
    replace HCc := Lib.hid (HCc.out.below hb)
    replace HCd := Lib.hid (HCd.out.below hb)
    replace HCe := Lib.hid (HCe.out.below hb)
    replace HCf := Lib.hid (HCf.out.below hb)
    replace HCg := Lib.hid (HCg.out.below hb)
    replace HS1 := Lib.hid (HS1.out.below hb)
    replace HS3 := Lib.hid (HS3.out.below hb)
    replace HB := Lib.hid (HB.out.trans (hb.mono HB.out.size))
    clear hb
    refine (join_calls (w24.alloc (.cells #[(.func (.func g1) #[] lb1), (.func (.func g3) #[] lb3)] 26)) (some ⟨w24.heap.size, 0, none⟩) 2 2 [⟨(.func (.func g1) #[] lb1), (xs.take ((n : Int) - 5).toNat), R1⟩, ⟨(.func (.func g3) #[] lb3), (ys.take (((n : Int) - 5) - (xs.length : Int)).toNat), R3⟩] rfl (by simp) (cellsV_made w24 _ #[(.func (.func g1) #[] lb1), (.func (.func g3) #[] lb3)] rfl) (fun e => by cases e) (fun e he => ?_)).mono ?_
    · simp only [List.mem_cons, List.not_mem_nil, or_false] at he
      rcases he with rfl | rfl
      · exact .inr HS1.out
      · exact .inr HS3.out
    rintro e w25 ⟨f4, R4, rfl, hs, hb⟩
    have hfl : flat [⟨(.func (.func g1) #[] lb1), (xs.take ((n : Int) - 5).toNat), R1⟩, ⟨(.func (.func g3) #[] lb3), (ys.take (((n : Int) - 5) - (xs.length : Int)).toNat), R3⟩] = (xs.take ((n : Int) - 5).toNat) ++ (ys.take (((n : Int) - 5) - (xs.length : Int)).toNat) := by simp [flat]
    rw [hfl] at hs
    replace HZ := Lib.hid (HZ.out.below hb)
    replace HZ2 := Lib.hid (HZ2.out.below hb)
    replace HSs := Lib.hid (HSs.out.below hb)
    replace HCa := Lib.hid (HCa.out.below hb)
    replace HCb := Lib.hid (HCb.out.below hb)
    replace HCc := Lib.hid (HCc.out.below hb)
    replace HCd := Lib.hid (HCd.out.below hb)
    replace HCe := Lib.hid (HCe.out.below hb)
    replace HCf := Lib.hid (HCf.out.below hb)
    replace HCg := Lib.hid (HCg.out.below hb)
    replace HS1 := Lib.hid (HS1.out.below hb)
    replace HS3 := Lib.hid (HS3.out.below hb)
    replace HB := Lib.hid (HB.out.trans (hb.mono HB.out.size))
    have HS4 := Lib.hid hs
    clear hs hb hfl
    clear HS1
    clear HS3
    go_wp2_with fail
    refine (list_calls f4 (xs.take ((n : Int) - 5).toNat ++ ys.take (((n : Int) - 5) - (xs.length : Int)).toNat) R4 _ _ (by simp only [List.length_take, List.length_append] <;> omega) HS4.out.g).mono ?_
    rintro e w26 ⟨v, rfl, ho, ht⟩
    obtain ⟨Ah, ch, rfl, hc, _⟩ := col_open ho
    have hb := ht.none
    replace HZ := Lib.hid (HZ.out.below hb)
    replace HZ2 := Lib.hid (HZ2.out.below hb)
    replace HSs := Lib.hid (HSs.out.below hb)
    replace HCa := Lib.hid (HCa.out.below hb)
    replace HCb := Lib.hid (HCb.out.below hb)
    replace HCc := Lib.hid (HCc.out.below hb)
    replace HCd := Lib.hid (HCd.out.below hb)
    replace HCe := Lib.hid (HCe.out.below hb)
    replace HCf := Lib.hid (HCf.out.below hb)
    replace HCg := Lib.hid (HCg.out.below hb)
    replace HS4 := Lib.hid (HS4.out.below hb)
    replace HB := Lib.hid (HB.out.trans (hb.mono HB.out.size))
    have HCh := Lib.hid hc
    clear hc hb ho ht
    clear HS4
    replace HCh := Lib.hid (cells_eq HCh.out (take_append_int xs ys ((n : Int) - 5)).symm)
    replace HCa := Lib.hid (cells_eq HCa.out (map_both xs))
    replace HCc := Lib.hid (cells_eq HCc.out (filt_both xs))
    go_wp2_with fail
    refine (same_n Aa Ab _ _ ca cb (xs.map (fun x => timesF (upF x))) _ (by simp) (by simp) (by simp; omega) HCa.out HCb.out).mono ?_
    rintro e w27 ⟨rfl, hb⟩
    replace HZ := Lib.hid (HZ.out.below hb)
    replace HZ2 := Lib.hid (HZ2.out.below hb)
    replace HSs := Lib.hid (HSs.out.below hb)
    replace HCa := Lib.hid (HCa.out.below hb)
    replace HCb := Lib.hid (HCb.out.below hb)
    replace HCc := Lib.hid (HCc.out.below hb)
    replace HCd := Lib.hid (HCd.out.below hb)
    replace HCe := Lib.hid (HCe.out.below hb)
    replace HCf := Lib.hid (HCf.out.below hb)
    replace HCg := Lib.hid (HCg.out.below hb)
    replace HCh := Lib.hid (HCh.out.below hb)
    replace HB := Lib.hid (HB.out.trans (hb.mono HB.out.size))
    clear hb
    clear HCa
    clear HCb
    go_wp2_with fail
    refine (same_n Ac Ad _ _ cc cd (xs.filter (fun x => evenB x && thirdB x)) _ (by rw [filt_comm]) (rfl) (Nat.le_trans (List.length_filter_le _ _) (by omega)) HCc.out HCd.out).mono ?_
    rintro e w28 ⟨rfl, hb⟩
    replace HZ := Lib.hid (HZ.out.below hb)
    replace HZ2 := Lib.hid (HZ2.out.below hb)
    replace HSs := Lib.hid (HSs.out.below hb)
    replace HCc := Lib.hid (HCc.out.below hb)
    replace HCd := Lib.hid (HCd.out.below hb)
    replace HCe := Lib.hid (HCe.out.below hb)
    replace HCf := Lib.hid (HCf.out.below hb)
    replace HCg := Lib.hid (HCg.out.below hb)
    replace HCh := Lib.hid (HCh.out.below hb)
    replace HB := Lib.hid (HB.out.trans (hb.mono HB.out.size))
    clear hb
    clear HCc
    clear HCd
    go_wp2_with fail
    refine (same_n Ae Af _ _ ce cf ((xs.take ((n : Int) - 5).toNat).take ((m : Int) - 5).toNat) _ (by simp only [List.length_take] <;> omega) (by simp only [List.length_take] <;> omega) (by simp only [List.length_take] <;> omega) HCe.out HCf.out).mono ?_
    rintro e w29 ⟨rfl, hb⟩
    replace HZ := Lib.hid (HZ.out.below hb)
    replace HZ2 := Lib.hid (HZ2.out.below hb)
    replace HSs := Lib.hid (HSs.out.below hb)
    replace HCe := Lib.hid (HCe.out.below hb)
    replace HCf := Lib.hid (HCf.out.below hb)
    replace HCg := Lib.hid (HCg.out.below hb)
    replace HCh := Lib.hid (HCh.out.below hb)
    replace HB := Lib.hid (HB.out.trans (hb.mono HB.out.size))
    clear hb
    clear HCe
    clear HCf
    go_wp2_with fail
    refine (same_n Ag Ah _ _ cg ch ((xs ++ ys).take ((n : Int) - 5).toNat) _ (by simp only [List.length_take, List.length_append] <;> omega) (by simp only [List.length_take, List.length_append] <;> omega) (by simp only [List.length_take, List.length_append] <;> omega) HCg.out HCh.out).mono ?_
    rintro e w30 ⟨rfl, hb⟩
    replace HZ := Lib.hid (HZ.out.below hb)
    replace HZ2 := Lib.hid (HZ2.out.below hb)
    replace HSs := Lib.hid (HSs.out.below hb)
    replace HCg := Lib.hid (HCg.out.below hb)
    replace HCh := Lib.hid (HCh.out.below hb)
    replace HB := Lib.hid (HB.out.trans (hb.mono HB.out.size))
    clear hb
    clear HCg
    clear HCh
    go_wp2_with fail
    refine (of_calls _ B d ys (by omega) HZ2.out (fun e => List.eq_nil_of_length_eq_zero (HNil2.out e).1)).mono ?_
    rintro e w31 ⟨f1, R1, rfl, hs, _, hb⟩
    replace HZ := Lib.hid (HZ.out.below hb)
    replace HZ2 := Lib.hid (HZ2.out.below hb)
    replace HSs := Lib.hid (HSs.out.below hb)
    replace HB := Lib.hid (HB.out.trans (hb.mono HB.out.size))
    have HS1 := Lib.hid hs
    clear hs hb
    obtain ⟨g1, lb1, rfl⟩ : ∃ g lb, f1 = .func (.func g) #[] lb := by obtain ⟨_, g, lb, e, _⟩ := HS1.out; exact ⟨g, lb, e⟩
    go_wp2_with fail
    have hb : Below w31.heap.size w31 (w31.alloc (.cells #[(.func (.func gs) #[] lbs), (.func (.func g1) #[] lb1)] 26)) := (Below.refl _ _).alloc (Nat.le_refl _) _
    replace HZ := Lib.hid (HZ.out.below hb)
    replace HZ2 := Lib.hid (HZ2.out.below hb)
    replace HSs := Lib.hid (HSs.out.below hb)
    replace HS1 := Lib.hid (HS1.out.below hb)
    replace HB := Lib.hid (HB.out.trans (hb.mono HB.out.size))
    clear hb
    refine (join_calls (w31.alloc (.cells #[(.func (.func gs) #[] lbs), (.func (.func g1) #[] lb1)] 26)) (some ⟨w31.heap.size, 0, none⟩) 2 2 [⟨(.func (.func gs) #[] lbs), xs, Rs⟩, ⟨(.func (.func g1) #[] lb1), ys, R1⟩] rfl (by simp) (cellsV_made w31 _ #[(.func (.func gs) #[] lbs), (.func (.func g1) #[] lb1)] rfl) (fun e => by cases e) (fun e he => ?_)).mono ?_
    · simp only [List.mem_cons, List.not_mem_nil, or_false] at he
      rcases he with rfl | rfl
      · exact .inr HSs.out
      · exact .inr HS1.out
    rintro e w32 ⟨f2, R2, rfl, hs, hb⟩
    have hfl : flat [⟨(.func (.func gs) #[] lbs), xs, Rs⟩, ⟨(.func (.func g1) #[] lb1), ys, R1⟩] = xs ++ ys := by simp [flat]
    rw [hfl] at hs
    replace HZ := Lib.hid (HZ.out.below hb)
    replace HZ2 := Lib.hid (HZ2.out.below hb)
    replace HSs := Lib.hid (HSs.out.below hb)
    replace HS1 := Lib.hid (HS1.out.below hb)
    replace HB := Lib.hid (HB.out.trans (hb.mono HB.out.size))
    have HS2 := Lib.hid hs
    clear hs hb hfl
    clear HS1
    go_wp2_with fail
    refine (fold_calls f2 ((n : Int) - 5) (xs ++ ys) R2 _ _ HS2.out.g).mono ?_
    rintro e w33 ⟨rfl, ht⟩
    have hb := ht.none
    rw [show foldW ((n : Int) - 5) (xs ++ ys) = foldW (foldW ((n : Int) - 5) xs) ys by simp [foldW]]
    replace HZ := Lib.hid (HZ.out.below hb)
    replace HZ2 := Lib.hid (HZ2.out.below hb)
    replace HSs := Lib.hid (HSs.out.below hb)
    replace HS2 := Lib.hid (HS2.out.below hb)
    replace HB := Lib.hid (HB.out.trans (hb.mono HB.out.size))
    clear hb ht
    clear HS2
    go_wp2_with fail
    refine (of_calls _ B d ys (by omega) HZ2.out (fun e => List.eq_nil_of_length_eq_zero (HNil2.out e).1)).mono ?_
    rintro e w34 ⟨f1, R1, rfl, hs, _, hb⟩
    replace HZ := Lib.hid (HZ.out.below hb)
    replace HZ2 := Lib.hid (HZ2.out.below hb)
    replace HSs := Lib.hid (HSs.out.below hb)
    replace HB := Lib.hid (HB.out.trans (hb.mono HB.out.size))
    have HS1 := Lib.hid hs
    clear hs hb
    obtain ⟨g1, lb1, rfl⟩ : ∃ g lb, f1 = .func (.func g) #[] lb := by obtain ⟨_, g, lb, e, _⟩ := HS1.out; exact ⟨g, lb, e⟩
    go_wp2_with fail
    refine (fold_calls _ ((n : Int) - 5) (xs) Rs _ _ HSs.out.g).mono ?_
    rintro e w35 ⟨rfl, ht⟩
    have hb := ht.none
    replace HZ := Lib.hid (HZ.out.below hb)
    replace HZ2 := Lib.hid (HZ2.out.below hb)
    replace HSs := Lib.hid (HSs.out.below hb)
    replace HS1 := Lib.hid (HS1.out.below hb)
    replace HB := Lib.hid (HB.out.trans (hb.mono HB.out.size))
    clear hb ht
    clear HSs
    go_wp2_with fail
    refine (fold_calls _ (foldW ((n : Int) - 5) xs) (ys) R1 _ _ HS1.out.g).mono ?_
    rintro e w36 ⟨rfl, ht⟩
    have hb := ht.none
    replace HZ := Lib.hid (HZ.out.below hb)
    replace HZ2 := Lib.hid (HZ2.out.below hb)
    replace HS1 := Lib.hid (HS1.out.below hb)
    replace HB := Lib.hid (HB.out.trans (hb.mono HB.out.size))
    clear hb ht
    clear HS1
    go_wp2_with fail
    refine (awake_calls _).mono ?_
    rintro e w37 ⟨rfl, hb⟩
    replace HZ := Lib.hid (HZ.out.below hb)
    replace HZ2 := Lib.hid (HZ2.out.below hb)
    replace HB := Lib.hid (HB.out.trans (hb.mono HB.out.size))
    clear hb
    go_wp2_with fail
    go_ret
    exact ⟨rfl, HB.out⟩

theorem nests_law (A : Option Addr) (c : Nat) (xs : List Int) (B : Option Addr) (d : Nat) (ys : List Int) (n m : Int) (w : World)
    (hz : Cells w A xs) (hnil : A = none → xs.length = 0 ∧ c = 0) (hcap : xs.length ≤ c) (hlen : xs.length * 8 ≤ 140737488351232)
    (hz2 : Cells w B ys) (hnil2 : B = none → ys.length = 0 ∧ d = 0) (hcap2 : ys.length ≤ d) (hlen2 : ys.length * 8 ≤ 140737488351232) (_ : (Lit.int .i64 n).wf = true) (_ : (Lit.int .i64 m).wf = true) :
    Calls Try.prog 6 #[.slice A xs.length c, .slice B ys.length d, .int .i64 n, .int .i64 m] w fun e w' => e = .returned (.bool true) ∧ Below w.heap.size w w' :=
  nests_calls A B c d xs ys n m w hz hnil hcap hz2 hnil2 hcap2 hlen hlen2
end Go.Proofs.Ytnagjilogadinaa.SeqI
