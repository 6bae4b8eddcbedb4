/- The walk of the law SeqJoins answers true, whatever the lists and the number. -/
import Derived.Test.YtnagjilogadinaaDoorSeqSame
import Derived.Test.YtnagjilogadinaaDoorSeqText
import Derived.Test.YtnagjilogadinaaDoorSeqJoinS
import Derived.Test.YtnagjilogadinaaDoorSeqJoin
import Derived.Outline
import Derived.Laws.EntriesVeiled
namespace Go.Proofs.YtnagjilogadinaaDoor.SeqK
open Go.RowKit Go.Shelf Go.Proofs.YtnagjilogadinaaDoor.SeqM Go.Proofs.YtnagjilogadinaaDoor.SeqI Go.Proofs.YtnagjilogadinaaDoor.Num
attribute [local go_sem] Oper.semAt_some
set_option linter.unusedVariables false

theorem fnvI {fv : Value} {xs : List Int} {R : Fp} {W : World} (h : SeqV fv xs R W) : ∃ g lb, fv = .func (.func g) #[] lb := by
  obtain ⟨_, g, lb, h, _⟩ := h
  exact ⟨g, lb, h⟩
theorem fnvS {fv : Value} {xs : List ByteArray} {R : Fp} {W : World} (h : SeqVS fv xs R W) : ∃ g lb, fv = .func (.func g) #[] lb := by
  obtain ⟨_, g, lb, h, _⟩ := h
  exact ⟨g, lb, h⟩
def MadeI (w : World) (xs : List Int) (e : Ending) (w' : World) : Prop := ∃ fv R, e = .returned fv ∧ SeqV fv xs R w' ∧ Below w.heap.size w w'
theorem cellsV_two (w : World) (T : TypeId) (u v : Value) : ∀ j (h : j < [u, v].length), (w.alloc (.cells #[u, v] T)).cell? ⟨w.heap.size, 0 + j, none⟩ = some [u, v][j] := by
  intro j hj
  have hn := World.alloc_heap_new w (.cells #[u, v] T)
  have h1 : (#[u, v] : Array Value)[j]? = some [u, v][j] := by
    match j, hj with
    | 0, _ => rfl
    | 1, _ => rfl
  unfold World.cell?
  simp only [hn, Nat.zero_add]
  exact h1
theorem join2 (w : World) (g1 g2 : FuncId) (lb1 lb2 : Array Value) (xs ys : List Int) (R1 R2' : Fp) (h1 : SeqV (.func (.func g1) #[] lb1) xs R1 w) (h2 : SeqV (.func (.func g2) #[] lb2) ys R2' w) :
    Calls Tryd.prog 18 #[.slice (some ⟨w.heap.size, 0, none⟩) 2 2] (w.alloc (.cells #[.func (.func g1) #[] lb1, .func (.func g2) #[] lb2] 29)) (MadeI w (xs ++ ys)) := by
  have hb : Below w.heap.size w (w.alloc (.cells #[.func (.func g1) #[] lb1, .func (.func g2) #[] lb2] 29)) := (Below.refl _ w).alloc (Nat.le_refl _) _
  refine (SeqI.join_calls _ (some ⟨w.heap.size, 0, none⟩) 2 2 [⟨.func (.func g1) #[] lb1, xs, R1⟩, ⟨.func (.func g2) #[] lb2, ys, R2'⟩] rfl (by simp) (.inr ⟨w.heap.size, 0, rfl, by simp, cellsV_two w _ _ _⟩) (fun e => by cases e) (fun e he => ?_)).mono ?_
  · simp at he
    rcases he with rfl | rfl
    · exact .inr (h1.below hb)
    · exact .inr (h2.below hb)
  · rintro e w' ⟨fv, R, rfl, hs, hb'⟩
    exact ⟨fv, R, rfl, by simpa [SeqI.flat] using hs, hb.trans (hb'.mono hb.size)⟩
theorem join2S (w : World) (g1 g2 : FuncId) (lb1 lb2 : Array Value) (xs ys : List ByteArray) (R1 R2' : Fp) (h1 : SeqVS (.func (.func g1) #[] lb1) xs R1 w) (h2 : SeqVS (.func (.func g2) #[] lb2) ys R2' w) :
    Calls Tryd.prog 19 #[.slice (some ⟨w.heap.size, 0, none⟩) 2 2] (w.alloc (.cells #[.func (.func g1) #[] lb1, .func (.func g2) #[] lb2] 32)) (MadePost w (xs ++ ys)) := by
  have hb : Below w.heap.size w (w.alloc (.cells #[.func (.func g1) #[] lb1, .func (.func g2) #[] lb2] 32)) := (Below.refl _ w).alloc (Nat.le_refl _) _
  refine (SeqK.join_calls _ (some ⟨w.heap.size, 0, none⟩) 2 2 [⟨.func (.func g1) #[] lb1, xs, R1⟩, ⟨.func (.func g2) #[] lb2, ys, R2'⟩] rfl (by simp) (.inr ⟨w.heap.size, 0, rfl, by simp, cellsV_two w _ _ _⟩) (fun e => by cases e) (fun e he => ?_)).mono ?_
  · simp at he
    rcases he with rfl | rfl
    · exact .inr (h1.below hb)
    · exact .inr (h2.below hb)
  · rintro e w' ⟨fv, R, rfl, hs, hb'⟩
    exact ⟨fv, R, rfl, by simpa [SeqK.flat] using hs, hb.trans (hb'.mono hb.size)⟩
theorem foldW_app (a : Int) (xs ys : List Int) : foldW a (xs ++ ys) = foldW (foldW a xs) ys := by simp [foldW, List.foldl_append]

set_option maxHeartbeats 4000000 in
set_option maxRecDepth 100000 in
theorem joins_long (A B : Option Addr) (c d : Nat) (xs ys : List Int) (n : Int) (w : World) (hl : 40 < xs.length ∨ 40 < ys.length) :
    Calls Tryd.prog 4 #[.slice A xs.length c, .slice B ys.length d, .int .i64 n] w fun e w' => e = .returned (.bool true) ∧ Below w.heap.size w w' := by
  by_cases h : 40 < xs.length
  · have h1 : decide ((40 : Int) < (xs.length : Int)) = true := by simp; omega
    clear hl
    go_enter Tryd.func4, Tryd.ntmps4
    go_wp2_with (go_at_call 5; refine (awake_calls _).mono ?_; rintro e w7 ⟨rfl, hB7⟩; have HB7 := Lib.hid hB7; clear hB7)
    go_ret
    exact ⟨rfl, HB7.out⟩
  · have h1 : decide ((40 : Int) < (xs.length : Int)) = false := by simp; omega
    have h2 : decide ((40 : Int) < (ys.length : Int)) = true := by simp; omega
    clear hl
    go_enter Tryd.func4, Tryd.ntmps4
    go_wp2_with (go_at_call 5; refine (awake_calls _).mono ?_; rintro e w7 ⟨rfl, hB7⟩; have HB7 := Lib.hid hB7; clear hB7)
    go_ret
    exact ⟨rfl, HB7.out⟩
set_option maxHeartbeats 4000000 in
set_option maxRecDepth 100000 in
theorem joins_short (A B : Option Addr) (c d : Nat) (xs ys : List Int) (n : Int) (w1 : World) (hl : xs.length ≤ 40) (hl' : ys.length ≤ 40) (hz : Cells w1 A xs) (hz' : Cells w1 B ys) (hnil : A = none → xs = []) (hnil' : B = none → ys = [])
    (hwf : ∀ x ∈ xs, (Lit.int .i64 x).wf = true) (hwf' : ∀ x ∈ ys, (Lit.int .i64 x).wf = true) (hT : Tab w1) :
    Calls Tryd.prog 4 #[.slice A xs.length c, .slice B ys.length d, .int .i64 n] w1 fun e w' => e = .returned (.bool true) ∧ Below w1.heap.size w1 w' := by
  have h1 : decide ((40 : Int) < (xs.length : Int)) = false := by simp; omega
  have h2 : decide ((40 : Int) < (ys.length : Int)) = false := by simp; omega
  have HW3 : Hid (∀ x ∈ xs ++ ys, (Lit.int .i64 x).wf = true) := fun x hx => (List.mem_append.1 hx).elim (hwf x) (hwf' x)
  have HW1 := Lib.hid hwf
  have HW2 := Lib.hid hwf'
  have HZ1 := Lib.hid hz
  have HZ2 := Lib.hid hz'
  have HT := Lib.hid hT
  have HB := Lib.hid (Below.refl w1.heap.size w1)
  have hp1 : (xs.map itoaB ++ ys.map itoaB).length ≤ 1000000 := by simp; omega
  have hf1 : (xs.filter evenB).length ≤ 40 := Nat.le_trans (List.length_filter_le _ _) hl
  have hf2 : (ys.filter evenB).length ≤ 40 := Nat.le_trans (List.length_filter_le _ _) hl'
  have hp2 : (xs.filter evenB ++ ys.filter evenB).length ≤ 1000000 := by simp; omega
  clear hwf hwf' hz hz' hT
  go_enter Tryd.func4, Tryd.ntmps4
  go_wp2_with fail
  refine (of_calls _ A c xs (by omega) HZ1.out hnil).mono ?_
  rintro e w2 ⟨f2, R2', rfl, hs, _, hb⟩
  obtain ⟨g2, lb2, rfl⟩ := fnvI hs
  replace HT := Lib.hid (HT.out.below hb)
  replace HZ2 := Lib.hid (HZ2.out.below hb)
  replace HB := Lib.hid (HB.out.trans (hb.mono HB.out.size))
  have HS2 := Lib.hid hs
  clear hb hs HZ1
  go_wp2_with fail
  refine (of_calls _ B d ys (by omega) HZ2.out hnil').mono ?_
  rintro e w3 ⟨f3, R3, rfl, hs, _, hb⟩
  obtain ⟨g3, lb3, rfl⟩ := fnvI hs
  replace HT := Lib.hid (HT.out.below hb)
  replace HS2 := Lib.hid (HS2.out.below hb)
  replace HB := Lib.hid (HB.out.trans (hb.mono HB.out.size))
  have HS3 := Lib.hid hs
  clear hb hs HZ2
  go_wp2_with fail
  refine (join2 _ g2 g3 lb2 lb3 xs ys R2' R3 HS2.out HS3.out).mono ?_
  rintro e w4 ⟨f4, R4, rfl, hs, hb⟩
  obtain ⟨g4, lb4, rfl⟩ := fnvI hs
  replace HT := Lib.hid (HT.out.below hb)
  replace HS2 := Lib.hid (HS2.out.below hb)
  replace HS3 := Lib.hid (HS3.out.below hb)
  replace HB := Lib.hid (HB.out.trans (hb.mono HB.out.size))
  have HS4 := Lib.hid hs
  clear hb hs
  go_wp2_with fail
  refine (SeqK.map_calls _ (.func (.func g2) #[] lb2) (.func (.func 6) #[] #[]) itoaB xs R2' (fun k => k = 0) HS2.out (text_fn xs HW1.out _ HT.out)).mono ?_
  rintro e w5 ⟨f5, R5, rfl, hs, hb⟩
  obtain ⟨g5, lb5, rfl⟩ := fnvS hs
  replace HT := Lib.hid (HT.out.below hb)
  replace HS2 := Lib.hid (HS2.out.below hb)
  replace HS3 := Lib.hid (HS3.out.below hb)
  replace HS4 := Lib.hid (HS4.out.below hb)
  replace HB := Lib.hid (HB.out.trans (hb.mono HB.out.size))
  have HS5 := Lib.hid hs
  clear hb hs
  go_wp2_with fail
  refine (SeqK.map_calls _ (.func (.func g3) #[] lb3) (.func (.func 6) #[] #[]) itoaB ys R3 (fun k => k = 0) HS3.out (text_fn ys HW2.out _ HT.out)).mono ?_
  rintro e w6 ⟨f6, R6, rfl, hs, hb⟩
  obtain ⟨g6, lb6, rfl⟩ := fnvS hs
  replace HT := Lib.hid (HT.out.below hb)
  replace HS2 := Lib.hid (HS2.out.below hb)
  replace HS3 := Lib.hid (HS3.out.below hb)
  replace HS4 := Lib.hid (HS4.out.below hb)
  replace HS5 := Lib.hid (HS5.out.below hb)
  replace HB := Lib.hid (HB.out.trans (hb.mono HB.out.size))
  have HS6 := Lib.hid hs
  clear hb hs
  go_wp2_with fail
  refine (join2S _ g5 g6 lb5 lb6 (xs.map itoaB) (ys.map itoaB) R5 R6 HS5.out HS6.out).mono ?_
  rintro e w7 ⟨f7, R7, rfl, hs, hb⟩
  obtain ⟨g7, lb7, rfl⟩ := fnvS hs
  replace HT := Lib.hid (HT.out.below hb)
  replace HS2 := Lib.hid (HS2.out.below hb)
  replace HS3 := Lib.hid (HS3.out.below hb)
  replace HS4 := Lib.hid (HS4.out.below hb)
  replace HB := Lib.hid (HB.out.trans (hb.mono HB.out.size))
  have HS7 := Lib.hid hs
  clear hb hs HS5 HS6
  go_wp2_with fail
  refine (SeqS.list_calls (.func (.func g7) #[] lb7) (xs.map itoaB ++ ys.map itoaB) R7 _ _ hp1 HS7.out.g).mono ?_
  rintro e w8 ⟨v, rfl, ho, ht⟩
  obtain ⟨A8, c8, rfl, hc⟩ := colT_open ho
  have hb := ht.none
  clear ho ht
  replace HT := Lib.hid (HT.out.below hb)
  replace HS2 := Lib.hid (HS2.out.below hb)
  replace HS3 := Lib.hid (HS3.out.below hb)
  replace HS4 := Lib.hid (HS4.out.below hb)
  replace HB := Lib.hid (HB.out.trans (hb.mono HB.out.size))
  have HC8 := Lib.hid hc
  clear hb hc HS7
  go_wp2_with fail
  refine (SeqK.map_calls _ (.func (.func g4) #[] lb4) (.func (.func 6) #[] #[]) itoaB (xs ++ ys) R4 (fun k => k = 0) HS4.out (text_fn (xs ++ ys) HW3.out _ HT.out)).mono ?_
  rintro e w9 ⟨f9, R9, rfl, hs, hb⟩
  rw [List.map_append] at hs
  obtain ⟨g9, lb9, rfl⟩ := fnvS hs
  replace HS2 := Lib.hid (HS2.out.below hb)
  replace HS3 := Lib.hid (HS3.out.below hb)
  replace HS4 := Lib.hid (HS4.out.below hb)
  replace HC8 := Lib.hid (HC8.out.below hb)
  replace HB := Lib.hid (HB.out.trans (hb.mono HB.out.size))
  have HS9 := Lib.hid hs
  clear hb hs HT
  go_wp2_with fail
  refine (SeqS.list_calls (.func (.func g9) #[] lb9) (xs.map itoaB ++ ys.map itoaB) R9 _ _ hp1 HS9.out.g).mono ?_
  rintro e w10 ⟨v, rfl, ho, ht⟩
  obtain ⟨A10, c10, rfl, hc⟩ := colT_open ho
  have hb := ht.none
  clear ho ht
  replace HS2 := Lib.hid (HS2.out.below hb)
  replace HS3 := Lib.hid (HS3.out.below hb)
  replace HS4 := Lib.hid (HS4.out.below hb)
  replace HC8 := Lib.hid (HC8.out.below hb)
  replace HB := Lib.hid (HB.out.trans (hb.mono HB.out.size))
  have HC10 := Lib.hid hc
  clear hb hc HS9
  go_wp2_with fail
  refine (filter_calls _ (.func (.func g2) #[] lb2) _ evenB xs R2' _ HS2.out (even_fn _)).mono ?_
  rintro e w11 ⟨f11, R11, rfl, hs, hb⟩
  obtain ⟨g11, lb11, rfl⟩ := fnvI hs
  replace HS2 := Lib.hid (HS2.out.below hb)
  replace HS3 := Lib.hid (HS3.out.below hb)
  replace HS4 := Lib.hid (HS4.out.below hb)
  replace HC8 := Lib.hid (HC8.out.below hb)
  replace HC10 := Lib.hid (HC10.out.below hb)
  replace HB := Lib.hid (HB.out.trans (hb.mono HB.out.size))
  have HS11 := Lib.hid hs
  clear hb hs
  go_wp2_with fail
  refine (filter_calls _ (.func (.func g3) #[] lb3) _ evenB ys R3 _ HS3.out (even_fn _)).mono ?_
  rintro e w12 ⟨f12, R12, rfl, hs, hb⟩
  obtain ⟨g12, lb12, rfl⟩ := fnvI hs
  replace HS2 := Lib.hid (HS2.out.below hb)
  replace HS3 := Lib.hid (HS3.out.below hb)
  replace HS4 := Lib.hid (HS4.out.below hb)
  replace HC8 := Lib.hid (HC8.out.below hb)
  replace HC10 := Lib.hid (HC10.out.below hb)
  replace HS11 := Lib.hid (HS11.out.below hb)
  replace HB := Lib.hid (HB.out.trans (hb.mono HB.out.size))
  have HS12 := Lib.hid hs
  clear hb hs
  go_wp2_with fail
  refine (join2 _ g11 g12 lb11 lb12 (xs.filter evenB) (ys.filter evenB) R11 R12 HS11.out HS12.out).mono ?_
  rintro e w13 ⟨f13, R13, rfl, hs, hb⟩
  obtain ⟨g13, lb13, rfl⟩ := fnvI hs
  replace HS2 := Lib.hid (HS2.out.below hb)
  replace HS3 := Lib.hid (HS3.out.below hb)
  replace HS4 := Lib.hid (HS4.out.below hb)
  replace HC8 := Lib.hid (HC8.out.below hb)
  replace HC10 := Lib.hid (HC10.out.below hb)
  replace HB := Lib.hid (HB.out.trans (hb.mono HB.out.size))
  have HS13 := Lib.hid hs
  clear hb hs HS11 HS12
  go_wp2_with fail
  refine (SeqI.list_calls (.func (.func g13) #[] lb13) (xs.filter evenB ++ ys.filter evenB) R13 _ _ hp2 HS13.out.g).mono ?_
  rintro e w14 ⟨v, rfl, ho, ht⟩
  obtain ⟨A14, c14, rfl, hc, -⟩ := col_open ho
  have hb := ht.none
  clear ho ht
  replace HS2 := Lib.hid (HS2.out.below hb)
  replace HS3 := Lib.hid (HS3.out.below hb)
  replace HS4 := Lib.hid (HS4.out.below hb)
  replace HC8 := Lib.hid (HC8.out.below hb)
  replace HC10 := Lib.hid (HC10.out.below hb)
  replace HB := Lib.hid (HB.out.trans (hb.mono HB.out.size))
  have HC14 := Lib.hid hc
  clear hb hc HS13
  go_wp2_with fail
  refine (filter_calls _ (.func (.func g4) #[] lb4) _ evenB (xs ++ ys) R4 _ HS4.out (even_fn _)).mono ?_
  rintro e w15 ⟨f15, R15, rfl, hs, hb⟩
  rw [List.filter_append] at hs
  obtain ⟨g15, lb15, rfl⟩ := fnvI hs
  replace HS2 := Lib.hid (HS2.out.below hb)
  replace HS3 := Lib.hid (HS3.out.below hb)
  replace HS4 := Lib.hid (HS4.out.below hb)
  replace HC8 := Lib.hid (HC8.out.below hb)
  replace HC10 := Lib.hid (HC10.out.below hb)
  replace HC14 := Lib.hid (HC14.out.below hb)
  replace HB := Lib.hid (HB.out.trans (hb.mono HB.out.size))
  have HS15 := Lib.hid hs
  clear hb hs
  go_wp2_with fail
  refine (SeqI.list_calls (.func (.func g15) #[] lb15) (xs.filter evenB ++ ys.filter evenB) R15 _ _ hp2 HS15.out.g).mono ?_
  rintro e w16 ⟨v, rfl, ho, ht⟩
  obtain ⟨A16, c16, rfl, hc, -⟩ := col_open ho
  have hb := ht.none
  clear ho ht
  replace HS2 := Lib.hid (HS2.out.below hb)
  replace HS3 := Lib.hid (HS3.out.below hb)
  replace HS4 := Lib.hid (HS4.out.below hb)
  replace HC8 := Lib.hid (HC8.out.below hb)
  replace HC10 := Lib.hid (HC10.out.below hb)
  replace HC14 := Lib.hid (HC14.out.below hb)
  replace HB := Lib.hid (HB.out.trans (hb.mono HB.out.size))
  have HC16 := Lib.hid hc
  clear hb hc HS15
  go_wp2_with fail
  refine (same_n A8 A10 _ _ c8 c10 (xs.map itoaB ++ ys.map itoaB) _ (by simp) (by simp) hp1 HC8.out HC10.out).mono ?_
  rintro e w17 ⟨rfl, hb⟩
  replace HS2 := Lib.hid (HS2.out.below hb)
  replace HS3 := Lib.hid (HS3.out.below hb)
  replace HS4 := Lib.hid (HS4.out.below hb)
  replace HC14 := Lib.hid (HC14.out.below hb)
  replace HC16 := Lib.hid (HC16.out.below hb)
  replace HB := Lib.hid (HB.out.trans (hb.mono HB.out.size))
  clear hb HC8 HC10
  go_wp2_with fail
  refine (same_i A14 A16 _ _ c14 c16 (xs.filter evenB ++ ys.filter evenB) _ (by simp) (by simp) hp2 HC14.out HC16.out).mono ?_
  rintro e w18 ⟨rfl, hb⟩
  replace HS2 := Lib.hid (HS2.out.below hb)
  replace HS3 := Lib.hid (HS3.out.below hb)
  replace HS4 := Lib.hid (HS4.out.below hb)
  replace HB := Lib.hid (HB.out.trans (hb.mono HB.out.size))
  clear hb HC14 HC16
  go_wp2_with fail
  refine (fold_calls (.func (.func g4) #[] lb4) n (xs ++ ys) R4 _ _ HS4.out.g).mono ?_
  rintro e w19 ⟨he, ht⟩
  rw [foldW_app] at he
  obtain rfl := he
  have hb := ht.none
  clear ht
  replace HS2 := Lib.hid (HS2.out.below hb)
  replace HS3 := Lib.hid (HS3.out.below hb)
  replace HB := Lib.hid (HB.out.trans (hb.mono HB.out.size))
  clear hb HS4
  go_wp2_with fail
  refine (fold_calls (.func (.func g2) #[] lb2) n xs R2' _ _ HS2.out.g).mono ?_
  rintro e w20 ⟨rfl, ht⟩
  have hb := ht.none
  clear ht
  replace HS3 := Lib.hid (HS3.out.below hb)
  replace HB := Lib.hid (HB.out.trans (hb.mono HB.out.size))
  clear hb HS2
  go_wp2_with fail
  refine (fold_calls (.func (.func g3) #[] lb3) _ ys R3 _ _ HS3.out.g).mono ?_
  rintro e w21 ⟨rfl, ht⟩
  have hb := ht.none
  clear ht
  replace HB := Lib.hid (HB.out.trans (hb.mono HB.out.size))
  clear hb HS3
  go_wp2_with fail
  refine (awake_calls _).mono ?_
  rintro e w22 ⟨rfl, hb⟩
  replace HB := Lib.hid (HB.out.trans (hb.mono HB.out.size))
  clear hb
  go_wp2
  go_ret
  exact ⟨rfl, HB.out⟩
theorem joins_law (A : Option Addr) (c : Nat) (xs : List Int) (B : Option Addr) (d : Nat) (ys : List Int) (n : Int) (w : World) (hz : Cells w A xs) (hnil : A = none → xs.length = 0 ∧ c = 0) (_ : xs.length ≤ c) (hwf : ∀ x ∈ xs, (Lit.int .i64 x).wf = true) (_ : xs.length * 8 ≤ 140737488351232)
    (hz' : Cells w B ys) (hnil' : B = none → ys.length = 0 ∧ d = 0) (_ : ys.length ≤ d) (hwf' : ∀ x ∈ ys, (Lit.int .i64 x).wf = true) (_ : ys.length * 8 ≤ 140737488351232) (_ : (Lit.int .i64 n).wf = true) (hT : Tab w) :
    Calls Tryd.prog 4 #[.slice A xs.length c, .slice B ys.length d, .int .i64 n] w fun e w' => e = .returned (.bool true) ∧ Below w.heap.size w w' := by
  by_cases hl : 40 < xs.length ∨ 40 < ys.length
  · exact joins_long A B c d xs ys n w hl
  · exact joins_short A B c d xs ys n w (by omega) (by omega) hz hz' (fun h => List.eq_nil_of_length_eq_zero (hnil h).1) (fun h => List.eq_nil_of_length_eq_zero (hnil' h).1) hwf hwf' hT
end Go.Proofs.YtnagjilogadinaaDoor.SeqK
