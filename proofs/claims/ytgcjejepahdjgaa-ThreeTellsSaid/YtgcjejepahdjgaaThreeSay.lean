/-
  What every program answers that is one: three's awake.
-/
import Derived.Test.YtgcjejepahdjgaaThreeAllInt
import Derived.Test.YtgcjejepahdjgaaPRefx10
import Derived.Test.YtgcjejepahdjgaaThreeAllString
import Derived.Test.YtgcjejepahdjgaaThreeBase
section
namespace Go.Proofs.Ytgcjejepahdjgaa.ThreeInt
open Go.RowKit Go.Proofs.Ytgcjejepahdjgaa.PRef Go.Proofs.YtgcjejepahdjgaaW.PrintWords Go.Proofs.YtgcjejepahdjgaaW.PrintLast Go.Proofs.YtgcjejepahdjgaaW.PrintMore Go.Proofs.Ytgcjejepahdjgaa.Lcs
set_option linter.unusedVariables false
set_option linter.unusedSimpArgs false
attribute [local go_sem] Oper.semAt_some

theorem w1 {i : Nat} (h : i ≤ 1000000) : wrap64 ((i : Int) + 1) = ((i + 1 : Nat) : Int) := by unfold wrap64; omega
theorem ints_of_block {W : World} {g t : Nat} {xs : List Int} (h : W.heap[g]? = some (.cells (xs.map (Value.int .i64)).toArray t (0, 0))) (hl : xs.length ≤ 1000000) : Kd.C (Kd.int .i64) W (some ⟨g, 0, none⟩) xs.length xs := by
  refine ⟨rfl, by omega, fun _ => ⟨_, rfl, fun j p hp => ⟨[.int .i64 p], rfl, rfl, fun i u hu => ?_⟩⟩⟩
  cases i with
  | succ i => simp at hu
  | zero =>
    simp only [List.getElem?_cons_zero, Option.some.injEq] at hu
    subst hu
    have hs : (Kd.int .i64).sz = 1 := rfl
    rw [hs, Nat.mul_one, Nat.add_zero, Addr.add_lit, Nat.zero_add]
    have : (xs.map (Value.int .i64))[j]? = some (.int .i64 p) := by rw [List.getElem?_map, hp]; rfl
    simp [World.cell?, h, hp]
/-- SameInts, plainly. -/
theorem sameInts_ev (a b : List Int) (hl : a.length ≤ 1000000) : ∃ k, cortegelaw0_SameInts.f k a b = some (decide (a = b)) := by
  by_cases hab : a.length = b.length
  · have key : ∀ (d i : Nat), i + d = a.length → ∀ k, d < k → cortegelaw0_SameInts.l0 k a b (i : Int) = some (decide (a.drop i = b.drop i)) := by
      intro d
      induction d with
      | zero =>
        intro i hi k hk
        obtain ⟨k, rfl⟩ : ∃ m, k = m + 1 := ⟨k - 1, by omega⟩
        simp only [cortegelaw0_SameInts.l0]
        rw [if_neg (by omega), List.drop_eq_nil_of_le (by omega), List.drop_eq_nil_of_le (by omega)]
        simp
      | succ d ih =>
        intro i hi k hk
        obtain ⟨k, rfl⟩ : ∃ m, k = m + 1 := ⟨k - 1, by omega⟩
        simp only [cortegelaw0_SameInts.l0]
        have h1 : i < a.length := by omega
        have h2 : i < b.length := by omega
        rw [if_pos (by omega), if_pos (by omega), if_pos (by omega), List.drop_eq_getElem_cons h1, List.drop_eq_getElem_cons h2]
        have hc := eqAt a b i h1 h2
        by_cases he : a[i] = b[i]
        · rw [if_pos (hc.2 he), w1 (by omega), ih (i + 1) (by omega) k (by omega)]
          exact congrArg some (decide_eq_decide.2 ⟨fun h => by rw [he, h], fun h => (List.cons.inj h).2⟩)
        · rw [if_neg (fun e => he (hc.1 e)), decide_eq_false (fun e => he (List.cons.inj e).1)]
    refine ⟨a.length + 1, ?_⟩
    unfold cortegelaw0_SameInts.f
    rw [if_pos (by omega)]
    have := key a.length 0 (by omega) (a.length + 1) (by omega)
    simpa using this
  · refine ⟨0, ?_⟩
    unfold cortegelaw0_SameInts.f
    rw [if_neg (by omega), decide_eq_false (fun e => hab (by rw [e]))]
theorem sameInts_calls (A B : Option Addr) (c d : Nat) (a b : List Int) (w : World) (ha : Kd.C (Kd.int .i64) w A a.length a) (hc : a.length ≤ c) (hb : Kd.C (Kd.int .i64) w B b.length b) (hd : b.length ≤ d) (h : a.length ≤ 1000000) (r : Bool) (hr : r = decide (a = b)) :
    Calls Try.prog 20 #[.slice A a.length c, .slice B b.length d] w fun e w' => e = .returned (.bool r) ∧ Below w.heap.size w w' := by
  obtain ⟨k, hk⟩ := sameInts_ev a b h
  subst hr
  exact (cortegelaw0_SameInts.calls k A c a B d b _ w ha hc hb hd hk).mono fun e w' ⟨he, hw⟩ => ⟨he, Drawn0.below hw⟩
theorem merge_at (A0 : Option Addr) (c0 : Nat) (l0 : List Int) (A1 : Option Addr) (c1 : Nat) (l1 : List Int) (A2 : Option Addr) (c2 : Nat) (l2 : List Int) (w : World)
    (hr0 : Kd.C (Kd.int .i64) w A0 l0.length l0) (hc0 : l0.length ≤ c0) (hr1 : Kd.C (Kd.int .i64) w A1 l1.length l1) (hc1 : l1.length ≤ c1) (hr2 : Kd.C (Kd.int .i64) w A2 l2.length l2) (hc2 : l2.length ≤ c2) (k0 : l0.length ≤ 400) (k1 : l1.length ≤ 400) (k2 : l2.length ≤ 400) :
    Calls Try.prog 19 #[.slice A0 l0.length c0, .slice A1 l1.length c1, .slice A2 l2.length c2] w (MergePost (Three.merge l0 l1 l2) w) := by
  obtain ⟨k, hk⟩ := standing_ev l0 l1 l2 k0 k1 k2
  exact merge_calls k A0 c0 l0 A1 c1 l1 A2 c2 l2 w hr0 hc0 hr1 hc1 hr2 hc2 k0 k1 k2 hk
theorem parts_at (A0 : Option Addr) (c0 : Nat) (l0 : List Int) (A1 : Option Addr) (c1 : Nat) (l1 : List Int) (A2 : Option Addr) (c2 : Nat) (l2 : List Int) (w : World)
    (hr0 : Kd.C (Kd.int .i64) w A0 l0.length l0) (hc0 : l0.length ≤ c0) (hr1 : Kd.C (Kd.int .i64) w A1 l1.length l1) (hc1 : l1.length ≤ c1) (hr2 : Kd.C (Kd.int .i64) w A2 l2.length l2) (hc2 : l2.length ≤ c2) (k0 : l0.length ≤ 400) (k1 : l1.length ≤ 400) (k2 : l2.length ≤ 400) :
    Calls Try.prog 22 #[.slice A0 l0.length c0, .slice A1 l1.length c1, .slice A2 l2.length c2] w (PartsPost l0 l1 l2 w) := by
  obtain ⟨k, hk⟩ := standing_ev l0 l1 l2 k0 k1 k2
  exact parts_calls k A0 c0 l0 A1 c1 l1 A2 c2 l2 w hr0 hc0 hr1 hc1 hr2 hc2 k0 k1 k2 _ rfl hk
theorem plain1 : Three.merge ([1, 2, 3] : List Int) [1, 9, 2, 3] [1, 2, 4] = some [1, 9, 2, 4] := by
  simp [Three.merge, Three.parts, Three.stand, pr, L, Three.partsGo, Three.fast, Three.loose, Three.cut, Three.clash, Three.merged, Three.chosen, Three.nx, List.lookup]
theorem plain2 : Three.merge ([1] : List Int) [2] [3] = none := by
  simp [Three.merge, Three.parts, Three.stand, pr, L, Three.partsGo, Three.fast, Three.loose, Three.cut, Three.clash, Three.merged, Three.chosen, Three.nx, List.lookup]
theorem plain3 : (Three.parts ([1] : List Int) [1] [1]).length = 1 := by
  simp [Three.merge, Three.parts, Three.stand, pr, L, Three.partsGo, Three.fast, Three.loose, Three.cut, Three.clash, Three.merged, Three.chosen, Three.nx, List.lookup]
set_option maxHeartbeats 8000000 in
set_option maxRecDepth 100000 in
theorem awake_calls (w : World) : Calls Try.prog 9 #[] w fun e w' => e = .returned (.bool true) ∧ Below w.heap.size w w' := by
  go_enter Try.func9, Try.ntmps9
  go_wp2_with fail
  refine (merge_at (some ⟨w.heap.size, 0, none⟩) 3 [1, 2, 3] (some ⟨w.heap.size + 1, 0, none⟩) 4 [1, 9, 2, 3] (some ⟨w.heap.size + 1 + 1, 0, none⟩) 3 [1, 2, 4] _
    (ints_of_block (t := 3) (by rw [heap_alloc, if_neg (by first | (simp; done) | (simp; omega))]; rw [heap_alloc, if_neg (by first | (simp; done) | (simp; omega))]; rw [heap_alloc, if_pos (by first | (simp; done) | (simp; omega))]; rfl) (by simp)) (by simp) (ints_of_block (t := 3) (by rw [heap_alloc, if_neg (by first | (simp; done) | (simp; omega))]; rw [heap_alloc, if_pos (by first | (simp; done) | (simp; omega))]; rfl) (by simp)) (by simp) (ints_of_block (t := 3) (by rw [heap_alloc, if_pos (by first | (simp; done) | (simp; omega))]; rfl) (by simp)) (by simp) (by simp) (by simp) (by simp)).mono ?_
  rintro e w1 ⟨v, rfl, hR, hB⟩
  rw [plain1] at hR ⊢
  simp only [Option.isSome_some, Option.getD_some] at hR ⊢
  obtain ⟨A1, c1, rfl⟩ := Kd.R_slice hR
  have HC1 := Lib.hid (Kd.R_reads' hR).2.2
  have hc1 := (Kd.R_reads' hR).2.1
  have HB : Hid (Below w.heap.size w w1) := Lib.hid (Below.trans (B := w.heap.size) (by repeat (first | exact Below.refl _ _ | apply below_alloc)) (hB.mono (by simp; omega)))
  clear hR hB
  go_wp2_with fail
  refine (merge_at (some ⟨w1.heap.size, 0, none⟩) 1 [1] (some ⟨w1.heap.size + 1, 0, none⟩) 1 [2] (some ⟨w1.heap.size + 1 + 1, 0, none⟩) 1 [3] _
    (ints_of_block (t := 3) (by rw [heap_alloc, if_neg (by first | (simp; done) | (simp; omega))]; rw [heap_alloc, if_neg (by first | (simp; done) | (simp; omega))]; rw [heap_alloc, if_pos (by first | (simp; done) | (simp; omega))]; rfl) (by simp)) (by simp) (ints_of_block (t := 3) (by rw [heap_alloc, if_neg (by first | (simp; done) | (simp; omega))]; rw [heap_alloc, if_pos (by first | (simp; done) | (simp; omega))]; rfl) (by simp)) (by simp) (ints_of_block (t := 3) (by rw [heap_alloc, if_pos (by first | (simp; done) | (simp; omega))]; rfl) (by simp)) (by simp) (by simp) (by simp) (by simp)).mono ?_
  rintro e w2 ⟨v, rfl, hR, hB⟩
  rw [plain2] at hR ⊢
  simp only [Option.isSome_none, Option.getD_none] at hR ⊢
  obtain ⟨A2, c2, rfl⟩ := Kd.R_slice hR
  have hb2 : Below w1.heap.size w1 w2 := Below.trans (by repeat (first | exact Below.refl _ _ | apply below_alloc)) (hB.mono (by simp; omega))
  replace HC1 := Lib.hid (Kd.C_below HC1.out hb2)
  replace HB := Lib.hid (HB.out.trans (hb2.mono HB.out.size))
  clear hR hB hb2
  go_wp2_with fail
  refine (sameInts_calls A1 (some ⟨w2.heap.size, 0, none⟩) c1 4 [1, 9, 2, 4] [1, 9, 2, 4] _ (Kd.C_below HC1.out (below_alloc (Below.refl _ _) _)) hc1 (ints_of_block (t := 3) (by rw [heap_alloc, if_pos (by first | (simp; done) | (simp; omega))]; rfl) (by simp)) (by simp) (by simp) true (by simp)).mono ?_
  rintro e w3 ⟨rfl, hB⟩
  replace HB := Lib.hid (HB.out.trans (Below.trans (B := w.heap.size) ((below_alloc (Below.refl _ _) _ : Below w2.heap.size w2 (w2.alloc _)).mono HB.out.size) (hB.mono (by have := HB.out.size; simp; omega))))
  clear hB HC1 hc1
  go_wp2_with fail
  refine (parts_at (some ⟨w3.heap.size, 0, none⟩) 1 [1] (some ⟨w3.heap.size + 1, 0, none⟩) 1 [1] (some ⟨w3.heap.size + 1 + 1, 0, none⟩) 1 [1] _
    (ints_of_block (t := 3) (by rw [heap_alloc, if_neg (by first | (simp; done) | (simp; omega))]; rw [heap_alloc, if_neg (by first | (simp; done) | (simp; omega))]; rw [heap_alloc, if_pos (by first | (simp; done) | (simp; omega))]; rfl) (by simp)) (by simp) (ints_of_block (t := 3) (by rw [heap_alloc, if_neg (by first | (simp; done) | (simp; omega))]; rw [heap_alloc, if_pos (by first | (simp; done) | (simp; omega))]; rfl) (by simp)) (by simp) (ints_of_block (t := 3) (by rw [heap_alloc, if_pos (by first | (simp; done) | (simp; omega))]; rfl) (by simp)) (by simp) (by simp) (by simp) (by simp)).mono ?_
  rintro e w4 ⟨v, xs, rfl, hR, hx, -, hB⟩
  have hl : xs.length = 1 := by have := congrArg List.length hx; rw [List.length_map, plain3] at this; exact this
  obtain ⟨A4, c4, rfl⟩ := Kd.R_slice hR
  have hb4 : Below w3.heap.size w3 w4 := Below.trans (by repeat (first | exact Below.refl _ _ | apply below_alloc)) (hB.mono (by simp; omega))
  replace HB := Lib.hid (HB.out.trans (hb4.mono HB.out.size))
  clear hR hx hB hb4
  rw [hl]
  go_wp2
  go_ret
  exact ⟨rfl, HB.out⟩
end Go.Proofs.Ytgcjejepahdjgaa.ThreeInt
end

section
namespace Go.Proofs.Ytgcjejepahdjgaa.SeqS
open Go.RowKit Go.Shelf Go.Proofs.Ytgcjejepahdjgaa.SeqM Go.Proofs.Ytgcjejepahdjgaa.PRef Go.Proofs.YtgcjejepahdjgaaW.PrintWords Go.Proofs.Ytgcjejepahdjgaa.Lcs
attribute [local go_sem] Oper.semAt_some
set_option linter.unusedVariables false
set_option linter.unusedSimpArgs false

/-- Texts that are read: the address, the capacity. -/
def TX (W : World) (A : Option Addr) (c : Nat) (l : List ByteArray) : Prop := Kd.C Kd.string W A l.length l ∧ l.length ≤ c
theorem TX.below {W W' : World} {A : Option Addr} {c : Nat} {l : List ByteArray} (h : TX W A c l) (hb : Below W.heap.size W W') : TX W' A c l := ⟨Kd.C_below h.1 hb, h.2⟩
theorem tx_of_R {e : Nat} {W : World} {base : Nat} {ok : Nat → Prop} {v : Value} {l : List ByteArray} (h : Kd.R Kd.string e W base ok v l) : ∃ A c, v = .slice A l.length c ∧ TX W A c l := by
  obtain ⟨A, c, rfl⟩ := Kd.R_slice h
  exact ⟨A, c, rfl, (Kd.R_reads' h).2.2, (Kd.R_reads' h).2.1⟩
def OwnV (e s : Nat) (W : World) (n₀ : Nat) (v : Value) (n : Nat) : Prop := ∃ xs, W.ownsRow n₀ e s v n xs
theorem OwnV.below {e s : Nat} {W W' : World} {n₀ : Nat} {v : Value} {n : Nat} (h : OwnV e s W n₀ v n) (hb : Below W.heap.size W W') : OwnV e s W' n₀ v n := by
  obtain ⟨xs, h⟩ := h
  exact ⟨xs, h.kept ⟨hb.os, hb.tape, hb.output, hb.size, fun k hk _ => hb.block k hk⟩ (row := none) (by cases hv : v.ownBlock <;> simp)⟩
/-- three.Merge of texts. -/
def MergeS (m : Option (List ByteArray)) (w : World) (e : Ending) (w' : World) : Prop := ∃ A c, e = .returned (.tuple #[.slice A (m.getD []).length c, .bool m.isSome]) ∧ TX w' A c (m.getD []) ∧ OwnV 9 1 w' w.heap.size (.slice A (m.getD []).length c) (m.getD []).length ∧ Below w.heap.size w w'
theorem merge_tx (A0 : Option Addr) (c0 : Nat) (l0 : List ByteArray) (A1 : Option Addr) (c1 : Nat) (l1 : List ByteArray) (A2 : Option Addr) (c2 : Nat) (l2 : List ByteArray) (w : World)
    (h0 : TX w A0 c0 l0) (h1 : TX w A1 c1 l1) (h2 : TX w A2 c2 l2) (k0 : l0.length ≤ 400) (k1 : l1.length ≤ 400) (k2 : l2.length ≤ 400) :
    Calls Try.prog 13 #[.slice A0 l0.length c0, .slice A1 l1.length c1, .slice A2 l2.length c2] w (MergeS (Three.merge l0 l1 l2) w) := by
  obtain ⟨k, hk⟩ := ThreeString.standing_ev l0 l1 l2 k0 k1 k2
  refine (ThreeString.merge_calls k A0 c0 l0 A1 c1 l1 A2 c2 l2 w h0.1 h0.2 h1.1 h1.2 h2.1 h2.2 k0 k1 k2 hk).mono ?_
  rintro e w' ⟨v, rfl, hR, hB⟩
  obtain ⟨A, c, rfl, hT⟩ := tx_of_R hR
  exact ⟨A, c, rfl, hT, Kd.R_own hR, hB⟩
theorem parts_tx (A0 : Option Addr) (c0 : Nat) (l0 : List ByteArray) (A1 : Option Addr) (c1 : Nat) (l1 : List ByteArray) (A2 : Option Addr) (c2 : Nat) (l2 : List ByteArray) (w : World)
    (h0 : TX w A0 c0 l0) (h1 : TX w A1 c1 l1) (h2 : TX w A2 c2 l2) (k0 : l0.length ≤ 400) (k1 : l1.length ≤ 400) (k2 : l2.length ≤ 400) :
    Calls Try.prog 11 #[.slice A0 l0.length c0, .slice A1 l1.length c1, .slice A2 l2.length c2] w (ThreeString.PartsPost l0 l1 l2 w) := by
  obtain ⟨k, hk⟩ := ThreeString.standing_ev l0 l1 l2 k0 k1 k2
  exact ThreeString.parts_calls k A0 c0 l0 A1 c1 l1 A2 c2 l2 w h0.1 h0.2 h1.1 h1.2 h2.1 h2.2 k0 k1 k2 _ rfl hk
/-- SameTexts, plainly. -/
theorem sameTexts_ev (a b : List ByteArray) (hl : a.length ≤ 1000000) : ∃ k, cortegelaw0_SameTexts.f k a b = some (decide (a = b)) := by
  by_cases hab : a.length = b.length
  · have key : ∀ (d i : Nat), i + d = a.length → ∀ k, d < k → cortegelaw0_SameTexts.l0 k a b (i : Int) = some (decide (a.drop i = b.drop i)) := by
      intro d
      induction d with
      | zero =>
        intro i hi k hk
        obtain ⟨k, rfl⟩ : ∃ m, k = m + 1 := ⟨k - 1, by omega⟩
        simp only [cortegelaw0_SameTexts.l0]
        rw [if_neg (by omega), List.drop_eq_nil_of_le (by omega), List.drop_eq_nil_of_le (by omega)]
        simp
      | succ d ih =>
        intro i hi k hk
        obtain ⟨k, rfl⟩ : ∃ m, k = m + 1 := ⟨k - 1, by omega⟩
        simp only [cortegelaw0_SameTexts.l0]
        have h1 : i < a.length := by omega
        have h2 : i < b.length := by omega
        rw [if_pos (by omega), if_pos (by omega), if_pos (by omega), List.drop_eq_getElem_cons h1, List.drop_eq_getElem_cons h2]
        have hc := ThreeString.eqAt a b i h1 h2
        by_cases he : a[i] = b[i]
        · rw [if_pos (hc.2 he), ThreeInt.w1 (by omega), ih (i + 1) (by omega) k (by omega)]
          exact congrArg some (decide_eq_decide.2 ⟨fun h => by rw [he, h], fun h => (List.cons.inj h).2⟩)
        · rw [if_neg (fun e => he (hc.1 e)), decide_eq_false (fun e => he (List.cons.inj e).1)]
    refine ⟨a.length + 1, ?_⟩
    unfold cortegelaw0_SameTexts.f
    rw [if_pos (by omega)]
    have := key a.length 0 (by omega) (a.length + 1) (by omega)
    simpa using this
  · refine ⟨0, ?_⟩
    unfold cortegelaw0_SameTexts.f
    rw [if_neg (by omega), decide_eq_false (fun e => hab (by rw [e]))]
theorem same_tx (A B : Option Addr) (c d : Nat) (a b : List ByteArray) (w : World) (ha : TX w A c a) (hb : TX w B d b) (h : a.length ≤ 1000000) (r : Bool) (hr : r = decide (a = b)) :
    Calls Try.prog 15 #[.slice A a.length c, .slice B b.length d] w fun e w' => e = .returned (.bool r) ∧ Below w.heap.size w w' := by
  obtain ⟨k, hk⟩ := sameTexts_ev a b h
  subst hr
  exact (cortegelaw0_SameTexts.calls k A c a B d b _ w ha.1 ha.2 hb.1 hb.2 hk).mono fun e w' ⟨he, hw⟩ => ⟨he, Drawn0.below hw⟩
/-- great. -/
def Great3 (A B D : Option Addr) (c d f na nb nc : Nat) (b : Bool) (w : World) : Prop := ∀ w', Below w.heap.size w w' → Calls Try.prog 8 #[.slice A na c, .slice B nb d, .slice D nc f] w' fun e w2 => e = .returned (.bool b) ∧ Below w'.heap.size w' w2
theorem great_ev (l0 l1 l2 : List ByteArray) : ∃ b, At (fun k => cortegelaw5_great.f k l0 l1 l2) b ∧ (b = false → l0.length ≤ 30 ∧ l1.length ≤ 30 ∧ l2.length ≤ 30) := by
  obtain ⟨b0, h0, g0⟩ := DiffCommon.greatTexts l0 30 20 (by omega)
  obtain ⟨b1, h1, g1⟩ := DiffCommon.greatTexts l1 30 20 (by omega)
  obtain ⟨b2, h2, g2⟩ := DiffCommon.greatTexts l2 30 20 (by omega)
  cases b0 with
  | true =>
    refine ⟨true, ?_, fun h => by cases h⟩
    refine h0.bind_at ?_
    exact To.eq fun k => by simp
  | false =>
    cases b1 with
    | true =>
      refine ⟨true, ?_, fun h => by cases h⟩
      refine h0.bind_at ?_
      simp only [Bool.false_eq_true, if_false]
      refine h1.bind_at ?_
      exact To.eq fun k => by simp
    | false =>
      refine ⟨b2, ?_, fun h => ⟨(g0 rfl).1, (g1 rfl).1, (g2 h).1⟩⟩
      refine h0.bind_at ?_
      simp only [Bool.false_eq_true, if_false]
      refine h1.bind_at ?_
      simp only [Bool.false_eq_true, if_false]
      first | exact h2 | exact h2.bind_at (To.refl _)
theorem great_tx (A B D : Option Addr) (c d f : Nat) (l0 l1 l2 : List ByteArray) (w : World) (h0 : TX w A c l0) (h1 : TX w B d l1) (h2 : TX w D f l2) : ∃ b, (b = false → l0.length ≤ 30 ∧ l1.length ≤ 30 ∧ l2.length ≤ 30) ∧ Great3 A B D c d f l0.length l1.length l2.length b w := by
  obtain ⟨b, hA, hb⟩ := great_ev l0 l1 l2
  obtain ⟨k, hk⟩ := hA.rounds
  refine ⟨b, hb, fun w' hw => ?_⟩
  have g0 := h0.below hw
  have g1 := h1.below hw
  have g2 := h2.below hw
  exact (cortegelaw5_great.calls k A c l0 B d l1 D f l2 b w' g0.1 g0.2 g1.1 g1.2 g2.1 g2.2 hk).mono fun e w' ⟨he, hd⟩ => ⟨he, Drawn0.below hd⟩
theorem tx_of_cells {W : World} {A : Option Addr} {c : Nat} {l : List ByteArray} (h : CellsT W A l) (hl : l.length * 16 ≤ 140737488351232) (hc : l.length ≤ c) : TX W A c l := ⟨h.kd' (by omega), hc⟩
theorem awake5 (w : World) : Calls Try.prog 9 #[] w fun e w' => e = .returned (.bool true) ∧ Below w.heap.size w w' := ThreeInt.awake_calls w
theorem merged_len {o a b : List ByteArray} : ∀ (P : List (Three.Pc ByteArray)) (r : List ByteArray), Three.merged P = some r → r.length ≤ ((P.map (·.a)).flatten).length + ((P.map (·.b)).flatten).length := by
  intro P
  induction P with
  | nil => intro r h; simp only [Three.merged, Option.some.injEq] at h; subst h; simp
  | cons x P ih =>
    intro r h
    rw [Three.merged] at h
    split at h
    · cases h
    · obtain ⟨q, hq, rfl⟩ := Option.map_eq_some_iff.1 h
      have := ih q hq
      have hc : (Three.chosen x.o x.a x.b).length ≤ x.a.length + x.b.length := by unfold Three.chosen; split <;> omega
      simp only [List.map_cons, List.flatten_cons, List.length_append]
      omega
theorem merge_len {o a b r : List ByteArray} (h : Three.merge o a b = some r) (l1 : a.length ≤ 400) (l2 : b.length ≤ 400) : r.length ≤ 1000000 := by
  have := merged_len (o := o) (a := a) (b := b) _ _ h
  obtain ⟨_, h1, h2, _⟩ := Three.parts_whole o a b
  rw [h1, h2] at this
  omega
def LawPost (w : World) (e : Ending) (w' : World) : Prop := e = .returned (.bool true) ∧ Below w.heap.size w w'
end Go.Proofs.Ytgcjejepahdjgaa.SeqS
end
