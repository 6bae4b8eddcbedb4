/-
  What every program answers that is one: three's awake.
-/
import Derived.Test.YtgcjejepahdjgaaDoorThreeAllInt
import Derived.Test.YtgcjejepahdjgaaDoorPRefx7
import Derived.Test.YtgcjejepahdjgaaDoorThreeAllString
section
namespace Go.Proofs.YtgcjejepahdjgaaDoor.ThreeInt
open Go.RowKit Go.Proofs.YtgcjejepahdjgaaDoor.PRef Go.Proofs.YtgcjejepahdjgaaDoorW.PrintWords Go.Proofs.YtgcjejepahdjgaaDoorW.PrintLast Go.Proofs.YtgcjejepahdjgaaDoorW.PrintMore Go.Proofs.YtgcjejepahdjgaaDoor.Lcs
set_option linter.unusedVariables false
set_option linter.unusedSimpArgs false
attribute [local go_sem] Oper.semAt_some

theorem w1 {i : Nat} (h : i ≤ 1000000) : wrap64 ((i : Int) + 1) = ((i + 1 : Nat) : Int) := by unfold wrap64; omega
theorem ints_of_block {W : World} {g t : Nat} {xs : List Int} (h : W.heap[g]? = some (.cells (xs.map (Value.int .i64)).toArray t (0, 0))) (hl : xs.length ≤ 1000000) : Kd.C (Kd.int .i64) W (some ⟨g, 0, none⟩) xs.length xs := by
  refine ⟨rfl, by omega, fun _ => ⟨_, rfl, fun j p hp => ⟨[.int .i64 p], rfl, rfl, fun i u hu => ?_⟩⟩⟩
  cases i with
  | succ i => simp at hu
  | zero =>
    simp only [List.getElem?_cons_zero, Option.some.injEq] at hu
    subst hu
    have hs : (Kd.int .i64).sz = 1 := rfl
    rw [hs, Nat.mul_one, Nat.add_zero, Addr.add_lit, Nat.zero_add]
    have : (xs.map (Value.int .i64))[j]? = some (.int .i64 p) := by rw [List.getElem?_map, hp]; rfl
    simp [World.cell?, h, hp]
/-- SameInts, plainly. -/
theorem sameInts_ev (a b : List Int) (hl : a.length ≤ 1000000) : ∃ k, cortegelaw0_SameInts.f k a b = some (decide (a = b)) := by
  by_cases hab : a.length = b.length
  · have key : ∀ (d i : Nat), i + d = a.length → ∀ k, d < k → cortegelaw0_SameInts.l0 k a b (i : Int) = some (decide (a.drop i = b.drop i)) := by
      intro d
      induction d with
      | zero =>
        intro i hi k hk
        obtain ⟨k, rfl⟩ : ∃ m, k = m + 1 := ⟨k - 1, by omega⟩
        simp only [cortegelaw0_SameInts.l0]
        rw [if_neg (by omega), List.drop_eq_nil_of_le (by omega), List.drop_eq_nil_of_le (by omega)]
        simp
      | succ d ih =>
        intro i hi k hk
        obtain ⟨k, rfl⟩ : ∃ m, k = m + 1 := ⟨k - 1, by omega⟩
        simp only [cortegelaw0_SameInts.l0]
        have h1 : i < a.length := by omega
        have h2 : i < b.length := by omega
        rw [if_pos (by omega), if_pos (by omega), if_pos (by omega), List.drop_eq_getElem_cons h1, List.drop_eq_getElem_cons h2]
        have hc := eqAt a b i h1 h2
        by_cases he : a[i] = b[i]
        · rw [if_pos (hc.2 he), w1 (by omega), ih (i + 1) (by omega) k (by omega)]
          exact congrArg some (decide_eq_decide.2 ⟨fun h => by rw [he, h], fun h => (List.cons.inj h).2⟩)
        · rw [if_neg (fun e => he (hc.1 e)), decide_eq_false (fun e => he (List.cons.inj e).1)]
    refine ⟨a.length + 1, ?_⟩
    unfold cortegelaw0_SameInts.f
    rw [if_pos (by omega)]
    have := key a.length 0 (by omega) (a.length + 1) (by omega)
    simpa using this
  · refine ⟨0, ?_⟩
    unfold cortegelaw0_SameInts.f
    rw [if_neg (by omega), decide_eq_false (fun e => hab (by rw [e]))]
theorem sameInts_calls (A B : Option Addr) (c d : Nat) (a b : List Int) (w : World) (ha : Kd.C (Kd.int .i64) w A a.length a) (hc : a.length ≤ c) (hb : Kd.C (Kd.int .i64) w B b.length b) (hd : b.length ≤ d) (h : a.length ≤ 1000000) (r : Bool) (hr : r = decide (a = b)) :
    Calls Tryd.prog 11 #[.slice A a.length c, .slice B b.length d] w fun e w' => e = .returned (.bool r) ∧ Below w.heap.size w w' := by
  obtain ⟨k, hk⟩ := sameInts_ev a b h
  subst hr
  exact (cortegelaw0_SameInts.calls k A c a B d b _ w ha hc hb hd hk).mono fun e w' ⟨he, hw⟩ => ⟨he, Drawn0.below hw⟩
theorem merge_at (A0 : Option Addr) (c0 : Nat) (l0 : List Int) (A1 : Option Addr) (c1 : Nat) (l1 : List Int) (A2 : Option Addr) (c2 : Nat) (l2 : List Int) (w : World)
    (hr0 : Kd.C (Kd.int .i64) w A0 l0.length l0) (hc0 : l0.length ≤ c0) (hr1 : Kd.C (Kd.int .i64) w A1 l1.length l1) (hc1 : l1.length ≤ c1) (hr2 : Kd.C (Kd.int .i64) w A2 l2.length l2) (hc2 : l2.length ≤ c2) (k0 : l0.length ≤ 400) (k1 : l1.length ≤ 400) (k2 : l2.length ≤ 400) :
    Calls Tryd.prog 5 #[.slice A0 l0.length c0, .slice A1 l1.length c1, .slice A2 l2.length c2] w (MergePost (Three.merge l0 l1 l2) w) := by
  obtain ⟨k, hk⟩ := standing_ev l0 l1 l2 k0 k1 k2
  exact merge_calls k A0 c0 l0 A1 c1 l1 A2 c2 l2 w hr0 hc0 hr1 hc1 hr2 hc2 k0 k1 k2 hk
theorem parts_at (A0 : Option Addr) (c0 : Nat) (l0 : List Int) (A1 : Option Addr) (c1 : Nat) (l1 : List Int) (A2 : Option Addr) (c2 : Nat) (l2 : List Int) (w : World)
    (hr0 : Kd.C (Kd.int .i64) w A0 l0.length l0) (hc0 : l0.length ≤ c0) (hr1 : Kd.C (Kd.int .i64) w A1 l1.length l1) (hc1 : l1.length ≤ c1) (hr2 : Kd.C (Kd.int .i64) w A2 l2.length l2) (hc2 : l2.length ≤ c2) (k0 : l0.length ≤ 400) (k1 : l1.length ≤ 400) (k2 : l2.length ≤ 400) :
    Calls Tryd.prog 9 #[.slice A0 l0.length c0, .slice A1 l1.length c1, .slice A2 l2.length c2] w (PartsPost l0 l1 l2 w) := by
  obtain ⟨k, hk⟩ := standing_ev l0 l1 l2 k0 k1 k2
  exact parts_calls k A0 c0 l0 A1 c1 l1 A2 c2 l2 w hr0 hc0 hr1 hc1 hr2 hc2 k0 k1 k2 _ rfl hk
theorem plain1 : Three.merge ([1, 2, 3] : List Int) [1, 9, 2, 3] [1, 2, 4] = some [1, 9, 2, 4] := by
  simp [Three.merge, Three.parts, Three.stand, pr, L, Three.partsGo, Three.fast, Three.loose, Three.cut, Three.clash, Three.merged, Three.chosen, Three.nx, List.lookup]
theorem plain2 : Three.merge ([1] : List Int) [2] [3] = none := by
  simp [Three.merge, Three.parts, Three.stand, pr, L, Three.partsGo, Three.fast, Three.loose, Three.cut, Three.clash, Three.merged, Three.chosen, Three.nx, List.lookup]
theorem plain3 : (Three.parts ([1] : List Int) [1] [1]).length = 1 := by
  simp [Three.merge, Three.parts, Three.stand, pr, L, Three.partsGo, Three.fast, Three.loose, Three.cut, Three.clash, Three.merged, Three.chosen, Three.nx, List.lookup]
set_option maxHeartbeats 8000000 in
set_option maxRecDepth 100000 in
theorem awake_calls (w : World) : Calls Tryd.prog 4 #[] w fun e w' => e = .returned (.bool true) ∧ Below w.heap.size w w' := by
  go_enter Tryd.func4, Tryd.ntmps4
  go_wp2_with fail
  refine (merge_at (some ⟨w.heap.size, 0, none⟩) 3 [1, 2, 3] (some ⟨w.heap.size + 1, 0, none⟩) 4 [1, 9, 2, 3] (some ⟨w.heap.size + 1 + 1, 0, none⟩) 3 [1, 2, 4] _
    (ints_of_block (t := 3) (by rw [heap_alloc, if_neg (by first | (simp; done) | (simp; omega))]; rw [heap_alloc, if_neg (by first | (simp; done) | (simp; omega))]; rw [heap_alloc, if_pos (by first | (simp; done) | (simp; omega))]; rfl) (by simp)) (by simp) (ints_of_block (t := 3) (by rw [heap_alloc, if_neg (by first | (simp; done) | (simp; omega))]; rw [heap_alloc, if_pos (by first | (simp; done) | (simp; omega))]; rfl) (by simp)) (by simp) (ints_of_block (t := 3) (by rw [heap_alloc, if_pos (by first | (simp; done) | (simp; omega))]; rfl) (by simp)) (by simp) (by simp) (by simp) (by simp)).mono ?_
  rintro e w1 ⟨v, rfl, hR, hB⟩
  rw [plain1] at hR ⊢
  simp only [Option.isSome_some, Option.getD_some] at hR ⊢
  obtain ⟨A1, c1, rfl⟩ := Kd.R_slice hR
  have HC1 := Lib.hid (Kd.R_reads' hR).2.2
  have hc1 := (Kd.R_reads' hR).2.1
  have HB : Hid (Below w.heap.size w w1) := Lib.hid (Below.trans (B := w.heap.size) (by repeat (first | exact Below.refl _ _ | apply below_alloc)) (hB.mono (by simp; omega)))
  clear hR hB
  go_wp2_with fail
  refine (merge_at (some ⟨w1.heap.size, 0, none⟩) 1 [1] (some ⟨w1.heap.size + 1, 0, none⟩) 1 [2] (some ⟨w1.heap.size + 1 + 1, 0, none⟩) 1 [3] _
    (ints_of_block (t := 3) (by rw [heap_alloc, if_neg (by first | (simp; done) | (simp; omega))]; rw [heap_alloc, if_neg (by first | (simp; done) | (simp; omega))]; rw [heap_alloc, if_pos (by first | (simp; done) | (simp; omega))]; rfl) (by simp)) (by simp) (ints_of_block (t := 3) (by rw [heap_alloc, if_neg (by first | (simp; done) | (simp; omega))]; rw [heap_alloc, if_pos (by first | (simp; done) | (simp; omega))]; rfl) (by simp)) (by simp) (ints_of_block (t := 3) (by rw [heap_alloc, if_pos (by first | (simp; done) | (simp; omega))]; rfl) (by simp)) (by simp) (by simp) (by simp) (by simp)).mono ?_
  rintro e w2 ⟨v, rfl, hR, hB⟩
  rw [plain2] at hR ⊢
  simp only [Option.isSome_none, Option.getD_none] at hR ⊢
  obtain ⟨A2, c2, rfl⟩ := Kd.R_slice hR
  have hb2 : Below w1.heap.size w1 w2 := Below.trans (by repeat (first | exact Below.refl _ _ | apply below_alloc)) (hB.mono (by simp; omega))
  replace HC1 := Lib.hid (Kd.C_below HC1.out hb2)
  replace HB := Lib.hid (HB.out.trans (hb2.mono HB.out.size))
  clear hR hB hb2
  go_wp2_with fail
  refine (sameInts_calls A1 (some ⟨w2.heap.size, 0, none⟩) c1 4 [1, 9, 2, 4] [1, 9, 2, 4] _ (Kd.C_below HC1.out (below_alloc (Below.refl _ _) _)) hc1 (ints_of_block (t := 3) (by rw [heap_alloc, if_pos (by first | (simp; done) | (simp; omega))]; rfl) (by simp)) (by simp) (by simp) true (by simp)).mono ?_
  rintro e w3 ⟨rfl, hB⟩
  replace HB := Lib.hid (HB.out.trans (Below.trans (B := w.heap.size) ((below_alloc (Below.refl _ _) _ : Below w2.heap.size w2 (w2.alloc _)).mono HB.out.size) (hB.mono (by have := HB.out.size; simp; omega))))
  clear hB HC1 hc1
  go_wp2_with fail
  refine (parts_at (some ⟨w3.heap.size, 0, none⟩) 1 [1] (some ⟨w3.heap.size + 1, 0, none⟩) 1 [1] (some ⟨w3.heap.size + 1 + 1, 0, none⟩) 1 [1] _
    (ints_of_block (t := 3) (by rw [heap_alloc, if_neg (by first | (simp; done) | (simp; omega))]; rw [heap_alloc, if_neg (by first | (simp; done) | (simp; omega))]; rw [heap_alloc, if_pos (by first | (simp; done) | (simp; omega))]; rfl) (by simp)) (by simp) (ints_of_block (t := 3) (by rw [heap_alloc, if_neg (by first | (simp; done) | (simp; omega))]; rw [heap_alloc, if_pos (by first | (simp; done) | (simp; omega))]; rfl) (by simp)) (by simp) (ints_of_block (t := 3) (by rw [heap_alloc, if_pos (by first | (simp; done) | (simp; omega))]; rfl) (by simp)) (by simp) (by simp) (by simp) (by simp)).mono ?_
  rintro e w4 ⟨v, xs, rfl, hR, hx, -, hB⟩
  have hl : xs.length = 1 := by have := congrArg List.length hx; rw [List.length_map, plain3] at this; exact this
  obtain ⟨A4, c4, rfl⟩ := Kd.R_slice hR
  have hb4 : Below w3.heap.size w3 w4 := Below.trans (by repeat (first | exact Below.refl _ _ | apply below_alloc)) (hB.mono (by simp; omega))
  replace HB := Lib.hid (HB.out.trans (hb4.mono HB.out.size))
  clear hR hx hB hb4
  rw [hl]
  go_wp2
  go_ret
  exact ⟨rfl, HB.out⟩
end Go.Proofs.YtgcjejepahdjgaaDoor.ThreeInt
end

section
namespace Go.Proofs.YtgcjejepahdjgaaDoor.SeqS
open Go.RowKit Go.Proofs.YtgcjejepahdjgaaDoor.PRef Go.Proofs.YtgcjejepahdjgaaDoorW.PrintWords Go.Proofs.YtgcjejepahdjgaaDoor.Lcs
attribute [local go_sem] Oper.semAt_some
set_option linter.unusedVariables false
set_option linter.unusedSimpArgs false

/-- Texts that are read: the address, the capacity. -/
def TX (W : World) (A : Option Addr) (c : Nat) (l : List ByteArray) : Prop := Kd.C Kd.string W A l.length l ∧ l.length ≤ c
theorem TX.below {W W' : World} {A : Option Addr} {c : Nat} {l : List ByteArray} (h : TX W A c l) (hb : Below W.heap.size W W') : TX W' A c l := ⟨Kd.C_below h.1 hb, h.2⟩
theorem tx_of_R {e : Nat} {W : World} {base : Nat} {ok : Nat → Prop} {v : Value} {l : List ByteArray} (h : Kd.R Kd.string e W base ok v l) : ∃ A c, v = .slice A l.length c ∧ TX W A c l := by
  obtain ⟨A, c, rfl⟩ := Kd.R_slice h
  exact ⟨A, c, rfl, (Kd.R_reads' h).2.2, (Kd.R_reads' h).2.1⟩
def OwnV (e s : Nat) (W : World) (n₀ : Nat) (v : Value) (n : Nat) : Prop := ∃ xs, W.ownsRow n₀ e s v n xs
theorem OwnV.below {e s : Nat} {W W' : World} {n₀ : Nat} {v : Value} {n : Nat} (h : OwnV e s W n₀ v n) (hb : Below W.heap.size W W') : OwnV e s W' n₀ v n := by
  obtain ⟨xs, h⟩ := h
  exact ⟨xs, h.kept ⟨hb.os, hb.tape, hb.output, hb.size, fun k hk _ => hb.block k hk⟩ (row := none) (by cases hv : v.ownBlock <;> simp)⟩
/-- three.Merge of texts. -/
def MergeS (m : Option (List ByteArray)) (w : World) (e : Ending) (w' : World) : Prop := ∃ A c, e = .returned (.tuple #[.slice A (m.getD []).length c, .bool m.isSome]) ∧ TX w' A c (m.getD []) ∧ OwnV 9 1 w' w.heap.size (.slice A (m.getD []).length c) (m.getD []).length ∧ Below w.heap.size w w'
theorem merge_tx (A0 : Option Addr) (c0 : Nat) (l0 : List ByteArray) (A1 : Option Addr) (c1 : Nat) (l1 : List ByteArray) (A2 : Option Addr) (c2 : Nat) (l2 : List ByteArray) (w : World)
    (h0 : TX w A0 c0 l0) (h1 : TX w A1 c1 l1) (h2 : TX w A2 c2 l2) (k0 : l0.length ≤ 400) (k1 : l1.length ≤ 400) (k2 : l2.length ≤ 400) :
    Calls Tryd.prog 6 #[.slice A0 l0.length c0, .slice A1 l1.length c1, .slice A2 l2.length c2] w (MergeS (Three.merge l0 l1 l2) w) := by
  obtain ⟨k, hk⟩ := ThreeString.standing_ev l0 l1 l2 k0 k1 k2
  refine (ThreeString.merge_calls k A0 c0 l0 A1 c1 l1 A2 c2 l2 w h0.1 h0.2 h1.1 h1.2 h2.1 h2.2 k0 k1 k2 hk).mono ?_
  rintro e w' ⟨v, rfl, hR, hB⟩
  obtain ⟨A, c, rfl, hT⟩ := tx_of_R hR
  exact ⟨A, c, rfl, hT, Kd.R_own hR, hB⟩
theorem parts_tx (A0 : Option Addr) (c0 : Nat) (l0 : List ByteArray) (A1 : Option Addr) (c1 : Nat) (l1 : List ByteArray) (A2 : Option Addr) (c2 : Nat) (l2 : List ByteArray) (w : World)
    (h0 : TX w A0 c0 l0) (h1 : TX w A1 c1 l1) (h2 : TX w A2 c2 l2) (k0 : l0.length ≤ 400) (k1 : l1.length ≤ 400) (k2 : l2.length ≤ 400) :
    Calls Tryd.prog 10 #[.slice A0 l0.length c0, .slice A1 l1.length c1, .slice A2 l2.length c2] w (ThreeString.PartsPost l0 l1 l2 w) := by
  obtain ⟨k, hk⟩ := ThreeString.standing_ev l0 l1 l2 k0 k1 k2
  exact ThreeString.parts_calls k A0 c0 l0 A1 c1 l1 A2 c2 l2 w h0.1 h0.2 h1.1 h1.2 h2.1 h2.2 k0 k1 k2 _ rfl hk
theorem Drawn0.below {w w' : World} (h : Drawn0 w w') : Below w.heap.size w w' := by
  obtain ⟨n, rfl⟩ := h.out
  exact ⟨rfl, rfl, rfl, Nat.le_refl _, fun _ _ => rfl⟩
/-- SameTexts, plainly. -/
theorem sameTexts_ev (a b : List ByteArray) (hl : a.length ≤ 1000000) : ∃ k, cortegelaw0_SameTexts.f k a b = some (decide (a = b)) := by
  by_cases hab : a.length = b.length
  · have key : ∀ (d i : Nat), i + d = a.length → ∀ k, d < k → cortegelaw0_SameTexts.l0 k a b (i : Int) = some (decide (a.drop i = b.drop i)) := by
      intro d
      induction d with
      | zero =>
        intro i hi k hk
        obtain ⟨k, rfl⟩ : ∃ m, k = m + 1 := ⟨k - 1, by omega⟩
        simp only [cortegelaw0_SameTexts.l0]
        rw [if_neg (by omega), List.drop_eq_nil_of_le (by omega), List.drop_eq_nil_of_le (by omega)]
        simp
      | succ d ih =>
        intro i hi k hk
        obtain ⟨k, rfl⟩ : ∃ m, k = m + 1 := ⟨k - 1, by omega⟩
        simp only [cortegelaw0_SameTexts.l0]
        have h1 : i < a.length := by omega
        have h2 : i < b.length := by omega
        rw [if_pos (by omega), if_pos (by omega), if_pos (by omega), List.drop_eq_getElem_cons h1, List.drop_eq_getElem_cons h2]
        have hc := ThreeString.eqAt a b i h1 h2
        by_cases he : a[i] = b[i]
        · rw [if_pos (hc.2 he), ThreeInt.w1 (by omega), ih (i + 1) (by omega) k (by omega)]
          exact congrArg some (decide_eq_decide.2 ⟨fun h => by rw [he, h], fun h => (List.cons.inj h).2⟩)
        · rw [if_neg (fun e => he (hc.1 e)), decide_eq_false (fun e => he (List.cons.inj e).1)]
    refine ⟨a.length + 1, ?_⟩
    unfold cortegelaw0_SameTexts.f
    rw [if_pos (by omega)]
    have := key a.length 0 (by omega) (a.length + 1) (by omega)
    simpa using this
  · refine ⟨0, ?_⟩
    unfold cortegelaw0_SameTexts.f
    rw [if_neg (by omega), decide_eq_false (fun e => hab (by rw [e]))]
theorem same_tx (A B : Option Addr) (c d : Nat) (a b : List ByteArray) (w : World) (ha : TX w A c a) (hb : TX w B d b) (h : a.length ≤ 1000000) (r : Bool) (hr : r = decide (a = b)) :
    Calls Tryd.prog 8 #[.slice A a.length c, .slice B b.length d] w fun e w' => e = .returned (.bool r) ∧ Below w.heap.size w w' := by
  obtain ⟨k, hk⟩ := sameTexts_ev a b h
  subst hr
  exact (cortegelaw0_SameTexts.calls k A c a B d b _ w ha.1 ha.2 hb.1 hb.2 hk).mono fun e w' ⟨he, hw⟩ => ⟨he, Drawn0.below hw⟩
theorem awake5 (w : World) : Calls Tryd.prog 4 #[] w fun e w' => e = .returned (.bool true) ∧ Below w.heap.size w w' := ThreeInt.awake_calls w
end Go.Proofs.YtgcjejepahdjgaaDoor.SeqS
end
