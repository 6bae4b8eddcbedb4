/- The document's Read: what it keeps from line to line; what Split and numbers answer as they are called. -/
import Derived.Test.YtipccndoffcfiaaDoorScriptRefP
import Derived.Test.YtipccndoffcfiaaDoorScriptPartsLaw
namespace Go.Proofs.YtipccndoffcfiaaDoor.Script
open Go.RowKit Go.Proofs.YtipccndoffcfiaaDoor.PRef Go.Proofs.YtipccndoffcfiaaDoorW.PrintWords Go.Proofs.YtipccndoffcfiaaDoorW.PrintLast Go.Proofs.YtipccndoffcfiaaDoor.Rounds
attribute [local go_sem] Oper.semAt_some
set_option linter.unusedVariables false
set_option linter.unusedSimpArgs false
theorem tx_of {W : World} {base : Nat} {v : Value} {l : List ByteArray} (h : Kd.R Kd.string 9 W base (fun _ => True) v l) : ∃ (A : Option Addr) (c : Nat), v = .slice A l.length c ∧ TX W A c l := by
  obtain ⟨A, c, rfl⟩ := Kd.R_slice h
  have h2 := Kd.R_reads' h
  exact ⟨A, c, rfl, h2.2.2, h2.2.1⟩
theorem refsplit_calls (s : ByteArray) (hs : s.size ≤ 900000) (w : World) : Calls Tryd.prog 42 #[.string s, .int .u8 32] w fun e w' => ∃ (A : Option Addr) (c : Nat), e = .returned (.slice A (words s).length c) ∧ TX w' A c (words s) ∧ Below w.heap.size w w' := by
  obtain ⟨k, hk⟩ := (words_at s hs).rounds
  refine (cortegeref27_Split.calls k s 32 _ w hk).mono ?_
  rintro e w' ⟨v, rfl, hr, hb⟩
  obtain ⟨A, c, rfl, ht⟩ := tx_of hr
  exact ⟨A, c, rfl, ht, hb⟩
theorem reflines_calls (s : ByteArray) (hs : s.size ≤ 900000) (w : World) : Calls Tryd.prog 27 #[.string s] w fun e w' => ∃ (A : Option Addr) (c : Nat), e = .returned (.slice A (lines s).length c) ∧ TX w' A c (lines s) ∧ Below w.heap.size w w' := by
  obtain ⟨k, hk⟩ := (lines_at s hs).rounds
  refine (cortegeref27_Lines.calls k s _ w hk).mono ?_
  rintro e w' ⟨v, rfl, hr, hb⟩
  obtain ⟨A, c, rfl, ht⟩ := tx_of hr
  exact ⟨A, c, rfl, ht, hb⟩
/-- Numbers that are read: the address, the capacity. -/
def NX (W : World) (A : Option Addr) (c : Nat) (l : List Int) : Prop := Kd.C (Kd.int .i64) W A l.length l ∧ l.length ≤ c
theorem NX.below {W W' : World} {A : Option Addr} {c : Nat} {l : List Int} (h : NX W A c l) (hb : Below W.heap.size W W') : NX W' A c l := ⟨Kd.C_below h.1 hb, h.2⟩
theorem NX.at_ {W : World} {A : Option Addr} {c : Nat} {l : List Int} (h : NX W A c l) (k : Nat) (hk : k < l.length) : ∃ ad, A = some ad ∧ W.cell? (ad.add k) = some (.int .i64 l[k]) := by
  obtain ⟨ad, e, hc⟩ := ReadsOf.at_ (Kd.reads_of_C (d := (0 : Int)) h.1) (k : Int) (by omega) (by omega)
  refine ⟨ad, e, ?_⟩
  rw [Int.toNat_natCast] at hc
  rw [hc]
  simp [rdOf, List.getD_eq_getElem?_getD, hk]
theorem refnums_calls (A : Option Addr) (c : Nat) (l : List ByteArray) (hn : l.length ≤ 1000000) (w : World) (hl : TX w A c l) : Calls Tryd.prog 43 #[.slice A l.length c] w fun e w' =>
    ∃ (A' : Option Addr) (c' : Nat), e = .returned (.tuple #[.slice A' (numsI l).1.length c', .bool (numsI l).2]) ∧ NX w' A' c' (numsI l).1 ∧ Below w.heap.size w w' := by
  obtain ⟨k, hk⟩ := (numbers_at l hn).rounds
  refine (cortegeref27_numbers.calls k A c l _ _ w hl.1 hl.2 hk).mono ?_
  rintro e w' ⟨v, rfl, hr, hb⟩
  obtain ⟨A', c', rfl⟩ := Kd.R_slice hr
  have h2 := Kd.R_reads' hr
  exact ⟨A', c', rfl, ⟨h2.2.2, h2.2.1⟩, hb⟩
def zero5 : List Value := [.int .i64 0, .int .i64 0, .int .i64 0, .int .i64 0, .int .i64 0]
/-- What the document's Read keeps. -/
structure RdSt (w W : World) (cs : List Int) (esv : Value) (es : List S47) : Prop where
  below : Below w.heap.size w W
  size : w.heap.size + 2 ≤ W.heap.size
  rblk : Blk W w.heap.size 28 zero5
  cblk : Blk W (w.heap.size + 1) 28 (cs.map (Value.int .i64))
  len : cs.length = 5
  row : Kd.R k47 47 W (w.heap.size + 2) (fun _ => True) esv es
theorem RdSt.step {w W W' : World} {cs : List Int} {esv : Value} {es : List S47} (h : RdSt w W cs esv es) (hb : Below W.heap.size W W') : RdSt w W' cs esv es :=
  ⟨h.below.trans (hb.mono (by have := h.size; omega)), Nat.le_trans h.size hb.size, h.rblk.below hb, h.cblk.below hb, h.len, Kd.R_below h.row hb⟩
theorem RdSt.grown {w W W' : World} {cs : List Int} {esv esv' : Value} {es es' : List S47} (h : RdSt w W cs esv es) (hb : Below (w.heap.size + 2) W W') (hr : Kd.R k47 47 W' (w.heap.size + 2) (fun _ => True) esv' es') : RdSt w W' cs esv' es' :=
  ⟨h.below.trans (hb.mono (by omega)), Nat.le_trans h.size hb.size, (hb.block _ (by omega)).trans h.rblk, (hb.block _ (by omega)).trans h.cblk, h.len, hr⟩
theorem set5_size (w : World) (b : Nat) (a0 a1 a2 a3 a4 : Int) : (set5 w b a0 a1 a2 a3 a4).heap.size = w.heap.size := by simp [set5]
theorem RdSt.set {w W : World} {cs : List Int} {esv : Value} {es : List S47} (h : RdSt w W cs esv es) (a0 a1 a2 a3 a4 : Int) : RdSt w (set5 W (w.heap.size + 1) a0 a1 a2 a3 a4) [a0, a1, a2, a3, a4] esv es := by
  have hs := five_below W (w.heap.size + 1) a0 a1 a2 a3 a4
  obtain ⟨c0, c1, c2, c3, c4, rfl⟩ := five cs h.len
  refine ⟨h.below.trans (hs.mono (by omega)), by rw [set5_size]; exact h.size, ?_, five_set h.cblk a0 a1 a2 a3 a4, rfl, R_kept h.row (fun k hk _ => set5_heap W _ a0 a1 a2 a3 a4 k (by omega))⟩
  exact (set5_heap W (w.heap.size + 1) a0 a1 a2 a3 a4 w.heap.size (by omega)).trans h.rblk
theorem rdst_new (w : World) : RdSt w ((w.alloc (.cells #[.int .i64 0, .int .i64 0, .int .i64 0, .int .i64 0, .int .i64 0] 28)).alloc (.cells #[.int .i64 0, .int .i64 0, .int .i64 0, .int .i64 0, .int .i64 0] 28)) [0, 0, 0, 0, 0] (.slice none 0 0) [] := by
  refine ⟨push2 w _ _, by simp, (ptrs_alloc w 0 28 zero5).below (below_push _ _), ?_, rfl, Kd.R_nil _ _ _ _ _⟩
  have := ptrs_alloc (w.alloc (.cells #[.int .i64 0, .int .i64 0, .int .i64 0, .int .i64 0, .int .i64 0] 28)) 0 28 zero5
  rwa [show (w.alloc (.cells #[.int .i64 0, .int .i64 0, .int .i64 0, .int .i64 0, .int .i64 0] 28)).heap.size = w.heap.size + 1 by simp] at this
def ReadPost (P : List Int × List S47 × Nat × Int) (w : World) (e : Ending) (w' : World) : Prop :=
  ∃ (esv : Value) (at_ : Nat), (P.2.2.2 = 0 → at_ = 0) ∧ (P.2.2.2 ≠ 0 → at_ = P.2.2.1 ∧ 0 < at_) ∧ e = .returned (.tuple #[.agg (P.1.map (Value.int .i64)).toArray, esv, .int .i64 (at_ : Int)]) ∧ (∃ base, w.heap.size ≤ base ∧ Kd.R k47 47 w' base (fun _ => True) esv P.2.1) ∧ Below w.heap.size w w'
set_option maxHeartbeats 4000000 in
set_option maxRecDepth 100000 in
theorem read_results (tmps : Array Value) (w : World) (b : Nat) (a0 a1 a2 a3 a4 : Int) (h2 : tmps.getD 2 undef = .pointer (some ⟨b, 0, none⟩)) (hb : Blk w b 28 [.int .i64 a0, .int .i64 a1, .int .i64 a2, .int .i64 a3, .int .i64 a4]) :
    (results Tryd.f26 tmps).run Tryd.prog w = .ok (.tuple #[.agg #[.int .i64 a0, .int .i64 a1, .int .i64 a2, .int .i64 a3, .int .i64 a4], tmps.getD 3 undef, tmps.getD 4 undef]) w := by
  have hres : Tryd.f26.results = #[.cell 2 28, .tmp 3, .tmp 4] := rfl
  have k0 := hb.cell 0 (by simp)
  have k1 := hb.cell 1 (by simp)
  have k2 := hb.cell 2 (by simp)
  have k3 := hb.cell 3 (by simp)
  have k4 := hb.cell 4 (by simp)
  simp only [List.getElem_cons_zero, List.getElem_cons_succ] at k0 k1 k2 k3 k4
  have h3 : tmps[2]?.getD undef = .pointer (some ⟨b, 0, none⟩) := by simpa using h2
  simp only [results, hres]
  go_simp
  try rfl
/-- A line that is refused. -/
theorem read_bad {w W : World} {cs : List Int} {esv : Value} {es : List S47} {n : Nat} (h : RdSt w W cs esv es) (hn : 0 < n) : ReadPost ([0, 0, 0, 0, 0], [], n, 10) w (.returned (.tuple #[.agg #[.int .i64 0, .int .i64 0, .int .i64 0, .int .i64 0, .int .i64 0], .slice none 0 0, .int .i64 (n : Int)])) (set5 W w.heap.size 0 0 0 0 0) :=
  ⟨.slice none 0 0, n, (fun h => absurd h (show ¬ (10 : Int) = 0 by decide)), (fun _ => ⟨rfl, hn⟩), rfl, ⟨_, Nat.le_refl _, Kd.R_nil _ _ _ _ _⟩, h.below.trans (five_below _ _ _ _ _ _ _)⟩
/-- All is read. -/
theorem read_end {w W : World} {a0 a1 a2 a3 a4 : Int} {esv : Value} {es : List S47} (h : RdSt w W [a0, a1, a2, a3, a4] esv es) : ReadPost ([a0, a1, a2, a3, a4], es, 0, 0) w (.returned (.tuple #[.agg #[.int .i64 a0, .int .i64 a1, .int .i64 a2, .int .i64 a3, .int .i64 a4], esv, .int .i64 0])) (set5 W w.heap.size a0 a1 a2 a3 a4) := by
  have hs := five_below W w.heap.size a0 a1 a2 a3 a4
  have hk := R_kept h.row (fun k hk _ => set5_heap W w.heap.size a0 a1 a2 a3 a4 k (by omega))
  exact ⟨esv, 0, fun _ => rfl, fun h => absurd rfl h, rfl, ⟨w.heap.size + 2, by omega, hk⟩, h.below.trans hs⟩
theorem RdSt.res {w W : World} {cs : List Int} {esv : Value} {es : List S47} (h : RdSt w W cs esv es) : W.cell? ⟨w.heap.size, 0, none⟩ = some (.int .i64 0) ∧ W.cell? ⟨w.heap.size, 1, none⟩ = some (.int .i64 0) ∧ W.cell? ⟨w.heap.size, 2, none⟩ = some (.int .i64 0) ∧ W.cell? ⟨w.heap.size, 3, none⟩ = some (.int .i64 0) ∧ W.cell? ⟨w.heap.size, 4, none⟩ = some (.int .i64 0) ∧ ∀ j, W.frozen? ⟨w.heap.size, j, none⟩ = false :=
  ⟨h.rblk.cell 0 (by simp [zero5]), h.rblk.cell 1 (by simp [zero5]), h.rblk.cell 2 (by simp [zero5]), h.rblk.cell 3 (by simp [zero5]), h.rblk.cell 4 (by simp [zero5]), fun j => h.rblk.free j⟩
theorem RdSt.cc {w W : World} {a0 a1 a2 a3 a4 : Int} {esv : Value} {es : List S47} (h : RdSt w W [a0, a1, a2, a3, a4] esv es) : W.cell? ⟨w.heap.size + 1, 0, none⟩ = some (.int .i64 a0) ∧ W.cell? ⟨w.heap.size + 1, 1, none⟩ = some (.int .i64 a1) ∧ W.cell? ⟨w.heap.size + 1, 2, none⟩ = some (.int .i64 a2) ∧ W.cell? ⟨w.heap.size + 1, 3, none⟩ = some (.int .i64 a3) ∧ W.cell? ⟨w.heap.size + 1, 4, none⟩ = some (.int .i64 a4) ∧ ∀ j, W.frozen? ⟨w.heap.size + 1, j, none⟩ = false :=
  ⟨h.cblk.cell 0 (by simp), h.cblk.cell 1 (by simp), h.cblk.cell 2 (by simp), h.cblk.cell 3 (by simp), h.cblk.cell 4 (by simp), fun j => h.cblk.free j⟩
theorem two_len {ns : List Nat} (h : ns.length = 2) : ∃ k z, ns = [k, z] := by
  match ns, h with
  | [k, z], _ => exact ⟨k, z, rfl⟩
theorem two_keep {w w' : World} {a b : Addr} {x y : Value} (h0 : w.cell? a = some x) (h1 : w.cell? b = some y) (hb : Below w.heap.size w w') : w'.cell? a = some x ∧ w'.cell? b = some y :=
  ⟨(hb.cell (World.block_lt_of_cell? w _ h0)).trans h0, (hb.cell (World.block_lt_of_cell? w _ h1)).trans h1⟩
/-- What a line's words come to. -/
inductive Word (cs : List Int) (es : List S47) (ws : List ByteArray) : Prop
  | set (t : List ByteArray) (h : ws = ⟨#[115, 101, 116]⟩ :: t)
  | ev (t : List ByteArray) (h : ws = ⟨#[101, 118]⟩ :: t)
  | ask (t : List ByteArray) (h : ws = ⟨#[97, 115, 107]⟩ :: t)
  | other (h : ByteArray) (t : List ByteArray) (e : ws = h :: t) (h1 : ¬ h = ⟨#[115, 101, 116]⟩) (h2 : ¬ h = ⟨#[101, 118]⟩) (h3 : ¬ h = ⟨#[97, 115, 107]⟩)
theorem word_of (cs : List Int) (es : List S47) (s : ByteArray) : Word cs es (words s) := by
  have hl := words_len s
  match hw : words s, hl with
  | [], hl => simp at hl
  | h :: t, _ =>
    by_cases h1 : h = ⟨#[115, 101, 116]⟩
    · subst h1; exact .set t rfl
    · by_cases h2 : h = ⟨#[101, 118]⟩
      · subst h2; exact .ev t rfl
      · by_cases h3 : h = ⟨#[97, 115, 107]⟩
        · subst h3; exact .ask t rfl
        · exact .other h t rfl h1 h2 h3
end Go.Proofs.YtipccndoffcfiaaDoor.Script
