import Derived.Test.YtkjhgbndnaemlaaSeenR
namespace Go.Proofs.Ytkjhgbndnaemlaa.SeenR
open Go.RowKit Go.Shelf
attribute [local go_sem] Oper.semAt_some
set_option linter.unusedVariables false
set_option linter.unusedSimpArgs false

/-- The rows of a slice of the reference lie in W. -/
def CellsR (W : World) (A : Option Addr) (rows : List (Int × V)) : Prop :=
  rows = [] ∨ ∃ g off, A = some ⟨g, off, none⟩ ∧ g < W.heap.size ∧ ∀ j u, (flat rows)[j]? = some u → W.cell? ⟨g, off + j, none⟩ = some u
theorem CellsR.below {W W' : World} {A : Option Addr} {rows : List (Int × V)} (h : CellsR W A rows) (hb : Below W.heap.size W W') : CellsR W' A rows :=
  h.imp id fun ⟨g, off, e, hg, hc⟩ => ⟨g, off, e, Nat.lt_of_lt_of_le hg hb.size, fun j u hu => (hb.cell (p := ⟨g, off + j, none⟩) hg).trans (hc j u hu)⟩

set_option maxHeartbeats 2000000 in
set_option maxRecDepth 100000 in
theorem rget_calls (b : Nat) (A : Option Addr) (cap : Nat) (most : Int) (rows : List (Int × V)) (k : Int) (w : World) (hb : w.heap[b]? = some (.cells #[.slice A rows.length cap, .int .i64 most] 31 (0, 0))) (hz : CellsR w A rows) (hlen : rows.length ≤ 40) :
    Calls Try.prog 12 #[.pointer (some ⟨b, 0, none⟩), .int .i64 k] w fun e w' => e = .returned (.tuple #[val (look rows k).1, .bool (look rows k).2]) ∧ Below w.heap.size w w' := by
  have HZ := Lib.hid hz
  have HB0 := Lib.hid hb
  clear hz hb
  go_enter Try.func12, Try.ntmps12
  go_wp2
  have hB1 : Below w.heap.size w (w.alloc (.cells #[.int .i64 0, .int .i64 0, .int .i64 0] 27)) := (Below.refl _ w).alloc (Nat.le_refl _) _
  have hv : BoxV (w.alloc (.cells #[.int .i64 0, .int .i64 0, .int .i64 0] 27)) w.heap.size (0, 0, 0) := BoxV.new w (0, 0, 0)
  generalize w.alloc (.cells #[.int .i64 0, .int .i64 0, .int .i64 0] 27) = W1 at hB1 hv ⊢
  have hbl := (Array.getElem?_eq_some_iff.1 HB0.out).1
  have hb1 := (hB1.block b hbl).trans HB0.out
  have c0 : W1.cell? ⟨b, 0, none⟩ = some (.slice A rows.length cap) := by simp [World.cell?, hb1]
  obtain ⟨v0, v1, v2⟩ := hv.cells
  have fv : ∀ o, W1.frozen? ⟨w.heap.size, o, none⟩ = false := hv.frozen
  have f0 := fv 0
  have f1 := fv 1
  have f2 := fv 2
  have HZ1 := Lib.hid (HZ.out.below hB1)
  have HB1 := Lib.hid hB1
  have HV := Lib.hid hv
  clear HB0 HZ hB1 hb1 fv hv
  go_loopw [6] (fun i wr => ∃ n : Nat, n ≤ rows.length ∧ i = .int .i64 n ∧ (∀ r ∈ rows.take n, r.1 ≠ k) ∧ wr = W1) (fun i _ => rows.length - (intOf i).toNat)
  case atStart => exact ⟨0, Nat.zero_le _, rfl, by simp, rfl⟩
  case round =>
    obtain ⟨n, hn, rfl, hpre, rfl⟩ := hrel
    by_cases hlt : n < rows.length
    · rcases HZ1.out with e | ⟨g, off, rfl, hg, hc⟩
      · subst e; simp at hlt
      obtain ⟨q0, q1, q2, q3⟩ := flat_get rows n hlt
      have d0 := hc _ _ q0
      have d1 := hc _ _ q1
      have d2 := hc _ _ q2
      have d3 := hc _ _ q3
      clear hc q0 q1 q2 q3
      simp only [← Nat.add_assoc] at d1 d2 d3
      have hpos : rows = rows.take n ++ rows[n] :: rows.drop (n + 1) := by rw [← List.drop_eq_getElem_cons hlt]; exact (List.take_append_drop n rows).symm
      have HPos := Lib.hid hpos
      have HPre := Lib.hid hpre
      clear hpos hpre
      by_cases hk : rows[n].1 = k
      · subst hk
        have hl : look rows rows[n].1 = (rows[n].2, true) := by have := look_some (rows.take n) (rows.drop (n + 1)) rows[n] HPre.out; rwa [← HPos.out] at this
        have HL := Lib.hid hl
        clear hl
        go_wp2
        have hs := HV.out.set rows[n].2
        have hbw := below3 (n := w.heap.size) wr w.heap.size (Nat.le_refl _) (.int .i64 rows[n].2.1) (.int .i64 rows[n].2.2.1) (.int .i64 rows[n].2.2.2)
        generalize ((wr.setCell ⟨w.heap.size, 0, none⟩ (.int .i64 rows[n].2.1)).setCell ⟨w.heap.size, 1, none⟩ (.int .i64 rows[n].2.2.1)).setCell ⟨w.heap.size, 2, none⟩ (.int .i64 rows[n].2.2.2) = W5 at hs hbw ⊢
        obtain ⟨y0, y1, y2⟩ := hs.cells
        refine bodyPost_ret (show (results Try.f12 _).run Try.prog W5 = .ok (.tuple #[val (rows[n].2), .bool true]) W5 from by simp [results, Try.f12, go_sem, y0, y1, y2]) rfl ?_
        exact ⟨by rw [HL.out], HB1.out.trans hbw⟩
      · have hk' : (decide (rows[n].1 = k)) = false := by simpa using hk
        go_wp2
        go_roundw
        case rel =>
          refine ⟨n + 1, hlt, by simp, fun r hr => ?_, trivial⟩
          rw [List.take_succ_eq_append_getElem hlt, List.mem_append, List.mem_singleton] at hr
          rcases hr with hr | rfl
          · exact HPre.out r hr
          · exact hk
        case measure => simp [intOf]; omega
    · obtain rfl : n = rows.length := by omega
      rw [List.take_length] at hpre
      have HPre := Lib.hid hpre
      clear hpre
      go_wp2
      have hs := HV.out.set (0, 0, 0)
      have hbw := below3 (n := w.heap.size) wr w.heap.size (Nat.le_refl _) (.int .i64 0) (.int .i64 0) (.int .i64 0)
      generalize ((wr.setCell ⟨w.heap.size, 0, none⟩ (.int .i64 0)).setCell ⟨w.heap.size, 1, none⟩ (.int .i64 0)).setCell ⟨w.heap.size, 2, none⟩ (.int .i64 0) = W5 at hs hbw ⊢
      obtain ⟨y0, y1, y2⟩ := hs.cells
      refine bodyPost_ret (show (results Try.f12 _).run Try.prog W5 = .ok (.tuple #[val (0, 0, 0), .bool false]) W5 from by simp [results, Try.f12, go_sem, y0, y1, y2]) rfl ?_
      exact ⟨by rw [look_none rows k HPre.out], HB1.out.trans hbw⟩
theorem info42 : (Try.prog.info? 42).map (fun i => (i.zero, i.size, i.bytes)) = some (some (.agg #[.int .i64 0, .int .i64 0, .int .i64 0, .int .i64 0]), 4, 32) := by kernel_rfl

/-- The reference's Seen at b: its rows lie in a row of its own. -/
def AtRef (W : World) (n₀ b : Nat) (most : Int) (rows : List (Int × V)) : Prop :=
  ∃ A cap, W.heap[b]? = some (.cells #[.slice A rows.length cap, .int .i64 most] 31 (0, 0)) ∧ rows.length ≤ cap ∧ cap ≤ maxLen ∧ n₀ ≤ b ∧
    ((rows = [] ∧ A = none ∧ cap = 0) ∨ (rows ≠ [] ∧ ∃ g off, A = some ⟨g, off, none⟩ ∧ g < W.heap.size ∧ (∃ cs z, W.heap[g]? = some (.cells cs 42 z)) ∧ ∀ j u, (flat rows)[j]? = some u → W.cell? ⟨g, off + j, none⟩ = some u))
theorem AtRef.grown {W W' : World} {n₀ b : Nat} {most : Int} {rows : List (Int × V)} (h : AtRef W n₀ b most rows) (hb : Below W.heap.size W W') : AtRef W' n₀ b most rows := by
  obtain ⟨A, cap, h1, h2, h3, h4, h5⟩ := h
  refine ⟨A, cap, (hb.block _ (Array.getElem?_eq_some_iff.1 h1).1).trans h1, h2, h3, h4, h5.imp id ?_⟩
  rintro ⟨hn, g, off, e, hg, ⟨cs, z, hne⟩, hc⟩
  exact ⟨hn, g, off, e, Nat.lt_of_lt_of_le hg hb.size, ⟨cs, z, (hb.block _ hg).trans hne⟩, fun j u hu => (hb.cell (p := ⟨g, off + j, none⟩) hg).trans (hc j u hu)⟩

def RPutPost (w : World) (n₀ b : Nat) (most : Int) (rows : List (Int × V)) (k : Int) (v : V) (e : Ending) (w' : World) : Prop :=
  e = .returned (.bool (!(look rows k).2)) ∧ AtRef w' n₀ b most (putR most rows k v) ∧ w.grownBy w' (some b)

abbrev rowC (k : Int) (v : V) : Obj := .cells #[.int .i64 k, .int .i64 v.1, .int .i64 v.2.1, .int .i64 v.2.2] 42
abbrev rowL (k : Int) (v : V) : List Value := [.int .i64 k, .int .i64 v.1, .int .i64 v.2.1, .int .i64 v.2.2]
theorem rp1 {W4 w2 : World} {B n₀ n c1 g1 : Nat} {k : Int} {v : V} {xs : List Value} (h : BoxV W4 B v) (hn : n₀ ≤ W4.heap.size) (hg : W4.drew.grownBy w2 none) (ho : w2.ownsRow n₀ 42 4 (.slice (some ⟨g1, 0, none⟩) (0 + n) c1) (0 + n) ([] ++ xs)) :
    (w2.cell? ⟨B, 0, none⟩ = some (.int .i64 v.1) ∧ w2.cell? ⟨B, 1, none⟩ = some (.int .i64 v.2.1) ∧ w2.cell? ⟨B, 2, none⟩ = some (.int .i64 v.2.2)) ∧
    Hid (∀ (j : Nat) (u : Value), (rowL k v)[j]? = some u → (w2.alloc (rowC k v)).cell? ((⟨w2.heap.size, 0, none⟩ : Addr).add j) = some u) ∧
    Hid ((w2.alloc (rowC k v)).ownsRow n₀ 42 4 (.slice (some ⟨g1, 0, none⟩) n c1) n xs) ∧ n₀ ≤ w2.heap.size + 1 := by
  have h1 : n₀ ≤ w2.heap.size := Nat.le_trans hn hg.size
  rw [Nat.zero_add, List.nil_append] at ho
  exact ⟨(BoxV.kept (W := W4.drew) (row := none) h hg (by intro e; cases e)).cells, Lib.hid (cells_new w2 #[.int .i64 k, .int .i64 v.1, .int .i64 v.2.1, .int .i64 v.2.2] 42), Lib.hid (ho.alloc _), by omega⟩
theorem rp2 {W4 w2 : World} {n₀ n c1 g1 : Nat} {k : Int} {v : V} {xs : List Value} (hn : n₀ ≤ W4.heap.size) (hg : (W4.drew.alloc (rowC k v)).grownBy w2 none) (ho : w2.ownsRow n₀ 42 4 (.slice (some ⟨g1, 0, none⟩) (0 + n) c1) (0 + n) ([] ++ xs)) :
    Hid (∀ (j : Nat) (u : Value), (rowL k v)[j]? = some u → w2.cell? ((⟨W4.heap.size, 0, none⟩ : Addr).add j) = some u) ∧
    Hid (w2.ownsRow n₀ 42 4 (.slice (some ⟨g1, 0, none⟩) n c1) n xs) ∧ n₀ ≤ w2.heap.size := by
  have h1 : n₀ ≤ w2.heap.size := Nat.le_trans hn (Nat.le_trans (by simp) hg.size)
  rw [Nat.zero_add, List.nil_append] at ho
  refine ⟨Lib.hid fun j u hu => ?_, Lib.hid ho, h1⟩
  have := cells_new W4.drew #[.int .i64 k, .int .i64 v.1, .int .i64 v.2.1, .int .i64 v.2.2] 42 j u hu
  rw [Addr.add_lit] at this ⊢
  exact (World.cell?_of_block (w := W4.drew.alloc (rowC k v)) (hg.block _ (by show W4.drew.heap.size < _; simp) (by intro e; cases e))).trans this
theorem rp3 {W4 w2 w3 : World} {n c1 g1 : Nat} {k : Int} {v : V} {xs : List Value} (hg : W4.drew.grownBy w2 none) (ho : (w2.alloc (rowC k v)).ownsRow W4.heap.size 42 4 (.slice (some ⟨g1, 0, none⟩) n c1) n xs)
    (hg3 : (w2.alloc (rowC k v)).grownBy w3 (Value.slice (some ⟨g1, 0, none⟩) n c1).ownBlock) : Below W4.heap.size W4 w3 := by
  have b0 : Below W4.heap.size W4 W4.drew := ⟨rfl, rfl, rfl, Nat.le_refl _, fun _ _ => rfl⟩
  have b1 := b0.grown hg (Nat.le_refl _) (fun k e => by cases e)
  have b2 := b1.alloc b1.size (rowC k v)
  exact b2.grown hg3 b2.size (fun k e => (ho.lt k e).1)
theorem rp4 {W4 w2 w3 : World} {n c1 g1 : Nat} {k : Int} {v : V} {xs : List Value} (hg : (W4.drew.alloc (rowC k v)).grownBy w2 none) (ho : w2.ownsRow W4.heap.size 42 4 (.slice (some ⟨g1, 0, none⟩) n c1) n xs)
    (hg3 : w2.grownBy w3 (Value.slice (some ⟨g1, 0, none⟩) n c1).ownBlock) : Below W4.heap.size W4 w3 := by
  have b0 : Below W4.heap.size W4 W4.drew := ⟨rfl, rfl, rfl, Nat.le_refl _, fun _ _ => rfl⟩
  have b1 := b0.alloc (Nat.le_refl _) (rowC k v)
  have b2 := b1.grown hg b1.size (fun k e => by cases e)
  exact b2.grown hg3 b2.size (fun k e => (ho.lt k e).1)
theorem rp5 {W4 w3 : World} {n₀ b g3 c3 : Nat} {most : Int} {rows : List (Int × V)} {k : Int} {v : V} (hS : AtRef W4 n₀ b most rows) (hb : Below W4.heap.size W4 w3)
    (ho : w3.ownsRow W4.heap.size 42 4 (.slice (some ⟨g3, 0, none⟩) (rows.length + 1) c3) (rows.length + 1) (flat rows ++ rowL k v)) :
    AtRef (w3.setCell ⟨b, 0, none⟩ (.slice (some ⟨g3, 0, none⟩) (rows.length + 1) c3)) n₀ b most (rows ++ [(k, v)]) ∧
    (rows ≠ [] → AtRef (w3.setCell ⟨b, 0, none⟩ (.slice (some ⟨g3, 4, none⟩) rows.length (c3 - 1))) n₀ b most (rows ++ [(k, v)]).tail) ∧
    w3.cell? ⟨b, 1, none⟩ = some (.int .i64 most) ∧ (∃ u, w3.cell? ⟨b, 0, none⟩ = some u) ∧ w3.frozen? ⟨b, 0, none⟩ = false ∧ rows.length + 1 ≤ c3 := by
  obtain ⟨A, cap, h1, h2, h3, h4, h5⟩ := hS
  have hlt := (Array.getElem?_eq_some_iff.1 h1).1
  have hb3 : w3.heap[b]? = some (.cells #[.slice A rows.length cap, .int .i64 most] 31 (0, 0)) := (hb.block _ hlt).trans h1
  rcases ho.2 with ⟨e, _⟩ | ⟨g, cap', cur, e, hg, hh, c1, c2, c4, htk⟩
  · cases e
  · cases e
    have hgl := (Array.getElem?_eq_some_iff.1 hh).1
    have hne : g3 ≠ b := by omega
    have hcell : ∀ (u0 : Value) (j : Nat) (u : Value), (flat rows ++ rowL k v)[j]? = some u → (w3.setCell ⟨b, 0, none⟩ u0).cell? ⟨g3, j, none⟩ = some u := fun u0 j u hu => by
      have := ho.cells (g := g3) rfl j u hu
      rw [Addr.add_lit, Nat.zero_add] at this
      exact (World.cell?_of_block (w := w3) (Below.heap_setCell w3 _ u0 g3 hne)).trans this
    refine ⟨⟨_, _, setCell_block w3 b 0 (.slice (some ⟨g3, 0, none⟩) (rows.length + 1) c3) _ 31 (0, 0) hb3 |>.trans (by simp), by simpa using c1, c2, h4, .inr ⟨by simp, g3, 0, rfl, by simpa [World.setCell] using hgl, ⟨_, _, (Below.heap_setCell w3 _ _ g3 hne).trans hh⟩, fun j u hu => ?_⟩⟩, fun hr => ?_, by simp [World.cell?, hb3], ⟨_, by simp [World.cell?, hb3]; rfl⟩, by simp [World.frozen?, hb3], c1⟩
    · rw [Nat.zero_add]; exact hcell _ j u (by rw [flat_snoc] at hu; exact hu)
    · obtain ⟨r, rs, rfl⟩ : ∃ r rs, rows = r :: rs := by cases rows with | nil => exact absurd rfl hr | cons r rs => exact ⟨r, rs, rfl⟩
      refine ⟨some ⟨g3, 4, none⟩, c3 - 1, setCell_block w3 b 0 (.slice (some ⟨g3, 4, none⟩) (r :: rs).length (c3 - 1)) _ 31 (0, 0) hb3 |>.trans (by simp), by simp at c1 ⊢; omega, by omega, h4, .inr ⟨by simp, g3, 4, rfl, by simpa [World.setCell] using hgl, ⟨_, _, (Below.heap_setCell w3 _ _ g3 hne).trans hh⟩, fun j u hu => hcell _ _ u ?_⟩⟩
      rw [List.cons_append, List.tail_cons, flat_snoc] at hu
      rw [show flat (r :: rs) = [.int .i64 r.1, .int .i64 r.2.1, .int .i64 r.2.2.1, .int .i64 r.2.2.2] ++ flat rs by simp [flat], List.append_assoc, List.getElem?_append_right (by simp)]
      simpa using hu
theorem rp6 {W4 w3 : World} {k : Int} {v : V} (hg : (W4.drew.alloc (rowC k v)).grownBy w3 (Value.slice none 0 0).ownBlock) : Below W4.heap.size W4 w3 := by
  have b0 : Below W4.heap.size W4 W4.drew := ⟨rfl, rfl, rfl, Nat.le_refl _, fun _ _ => rfl⟩
  have b1 := b0.alloc (Nat.le_refl _) (rowC k v)
  exact b1.grown hg b1.size (fun k e => by simp [Value.ownBlock] at e)
theorem rp0 {W : World} {g off : Nat} {k : Int} {v : V} {xs : List Value} (hg : g < W.heap.size) (h : ∀ (j : Nat) (u : Value), xs[j]? = some u → W.cell? ⟨g, off + j, none⟩ = some u) :
    ∀ (j : Nat) (u : Value), xs[j]? = some u → (W.drew.alloc (rowC k v)).cell? ((⟨g, off, none⟩ : Addr).add j) = some u := by
  intro j u hu
  rw [Addr.add_lit]
  exact (World.cell?_of_block (w := W.drew) (Below.heap_alloc W.drew _ _ hg)).trans (h j u hu)
set_option maxHeartbeats 4000000 in
set_option maxRecDepth 100000 in
theorem rput_calls (b n₀ : Nat) (most : Int) (rows : List (Int × V)) (k : Int) (v : V) (w : World) (hS : AtRef w n₀ b most rows) (h1 : 1 ≤ most) (h2 : most ≤ 32) (h3 : (rows.length : Int) ≤ most) (hn : n₀ ≤ w.heap.size) :
    Calls Try.prog 9 #[.pointer (some ⟨b, 0, none⟩), .int .i64 k, val v] w (RPutPost w n₀ b most rows k v) := by
  obtain ⟨v0, bb, hl⟩ : ∃ v0 bb, look rows k = (v0, bb) := ⟨_, _, rfl⟩
  have HL := Lib.hid hl
  have hBv := Lib.hid ((Below.refl _ w).alloc (Nat.le_refl _) (.cells #[.int .i64 v.1, .int .i64 v.2.1, .int .i64 v.2.2] 27))
  have hSv := hS.grown hBv.out
  have HS := Lib.hid hS
  have hbv := Lib.hid (BoxV.new w v)
  obtain ⟨A, cap, q1, q2, q3, q4, q5⟩ := hSv
  have hz : CellsR (w.alloc (.cells #[.int .i64 v.1, .int .i64 v.2.1, .int .i64 v.2.2] 27)) A rows := q5.imp (·.1) (fun ⟨_, g, off, e, hg, _, hc⟩ => ⟨g, off, e, hg, hc⟩)
  have HZ := Lib.hid hz
  have Q1 := Lib.hid q1
  have Q5 := Lib.hid q5
  have hl40 : rows.length ≤ 40 := by omega
  clear hS hl q1 q5 hz
  cases bb with
  | true =>
    go_enter Try.func9, Try.ntmps9
    go_wp2_with (go_at_call 12; refine (rget_calls b A cap most rows k _ Q1.out HZ.out hl40).mono ?_; rw [HL.out]; rintro e w1 ⟨rfl, hb⟩; have HB := Lib.hid (hBv.out.trans (hb.mono (by simp))); clear hb)
    go_ret
    have hB2 := HB.out.alloc HB.out.size (.cells #[.int .i64 v0.1, .int .i64 v0.2.1, .int .i64 v0.2.2] 27)
    exact ⟨by rw [HL.out]; rfl, by unfold putR; rw [HL.out]; exact HS.out.grown hB2, ⟨hB2.os, hB2.tape, hB2.output, hB2.size, fun i hi _ => hB2.block i hi⟩⟩
  | false =>
    obtain ⟨i0, hi, hz0, hz1, hz2⟩ := info_parts info42
    go_enter Try.func9, Try.ntmps9
    go_wp2_with (go_at_call 12; refine (rget_calls b A cap most rows k _ Q1.out HZ.out hl40).mono ?_; rw [HL.out]; rintro e w1 ⟨rfl, hb⟩; have HB1 := Lib.hid (hBv.out.trans (hb.mono (by simp))); have hv1 : BoxV w1 w.heap.size v := (hb.block _ (by simp)).trans hbv.out; have HV1 := Lib.hid hv1; clear hb hv1)
    have HB := Lib.hid (HB1.out.alloc HB1.out.size (.cells #[.int .i64 v0.1, .int .i64 v0.2.1, .int .i64 v0.2.2] 27))
    have hv1 := HV1.out.alloc (.cells #[.int .i64 v0.1, .int .i64 v0.2.1, .int .i64 v0.2.2] 27)
    generalize w1.alloc (.cells #[.int .i64 v0.1, .int .i64 v0.2.1, .int .i64 v0.2.2] 27) = W4 at HB hv1 ⊢
    have HS1 := Lib.hid (HS.out.grown HB.out)
    obtain ⟨x0, x1, x2⟩ := hv1.cells
    obtain ⟨A', cap', r1, r2, r3, r4, r5⟩ := HS1.out
    have R1 := Lib.hid r1
    have hb0 : W4.cell? ⟨b, 0, none⟩ = some (.slice A' rows.length cap') := by simp [World.cell?, r1]
    have hb1 : W4.cell? ⟨b, 1, none⟩ = some (.int .i64 most) := by simp [World.cell?, r1]
    clear r1
    rcases r5 with ⟨rfl, rfl, rfl⟩ | ⟨hne, g, off, rfl, hg, hgb, hc⟩
    · have HN1 : Hid (∀ (j : Nat) (u : Value), (rowL k v)[j]? = some u → (W4.drew.alloc (rowC k v)).cell? ((⟨W4.heap.size, 0, none⟩ : Addr).add j) = some u) := Lib.hid (cells_new W4.drew #[.int .i64 k, .int .i64 v.1, .int .i64 v.2.1, .int .i64 v.2.2] 42)
      have hl2 := Lib.hid (flat_one [(k, v)])
      have hm1 : 0 + 1 ≤ maxLen := by unfold maxLen; omega
      have hm : ¬ most < 1 := by omega
      have hm2 : decide (most < 1) = false := by simpa using h1
      have hw4 : w.heap.size < W4.heap.size := hv1.lt
      clear hv1
      have hb0' : W4.cell? ⟨b, 0, none⟩ = some (.slice none 0 0) := hb0
      clear hb0
      have hb0a : (W4.alloc (.cells #[.int .i64 k, .int .i64 v.1, .int .i64 v.2.1, .int .i64 v.2.2] 42)).cell? ⟨b, 0, none⟩ = some (.slice none 0 0) := (World.cell?_of_block (w := W4) (Below.heap_alloc W4 _ _ (Array.getElem?_eq_some_iff.1 R1.out).1)).trans hb0'
      go_region_law (first
        | (refine step_append_lies _ rfl (.tmp 21) (.tmp 25) 29 rfl W4.heap.size 42 i0 (.agg #[.int .i64 0, .int .i64 0, .int .i64 0, .int .i64 0]) 4 32 Try.underlying29 hi hz0 hz1 hz2 rfl (by decide) (.slice none 0 0) 0 [] (by simp [Act.eval, Act.put]) (World.ownsRow_nil _ _ _ _) ⟨W4.heap.size, 0, none⟩ 1 1 (rowL k v) (by simp [Act.eval, Act.put]) rfl HN1.out hl2.out (by omega) hm1 (by omega) (by simp) _ rfl ?_; intro g3 c3 w3 hown3 hgrow3 hor3 hlt3; have HO3 := Lib.hid hown3; have HB3 := Lib.hid (rp6 hgrow3); clear hown3 hgrow3 hor3))
      all_goals
        obtain ⟨hA1, _, e1, ⟨u0, e0⟩, f0, hcap⟩ := rp5 HS1.out HB3.out HO3.out
        have HA1 := Lib.hid hA1
        clear hA1
        go_wp2
        go_ret
        refine ⟨by rw [HL.out]; rfl, ?_, ?_⟩
        · unfold putR
          rw [HL.out, if_neg (by simp), if_neg (by simp; omega)]
          exact HA1.out
        · have hbb := HB.out.trans (HB3.out.mono HB.out.size)
          exact ⟨hbb.os, hbb.tape, hbb.output, by simpa [World.setCell] using hbb.size, fun i hi hne => (Below.heap_setCell w3 _ _ i (fun e => hne (by rw [e]))).trans (hbb.block i hi)⟩
    · have hpos : 0 < rows.length := List.length_pos_iff.2 hne
      have hl1 := Lib.hid (flat_one rows)
      have hl2 := Lib.hid (flat_one [(k, v)])
      have hl3 := Lib.hid (flat_length rows)
      have HC := Lib.hid hc
      clear hc hne
      have hm1 : rows.length + 1 ≤ maxLen := by unfold maxLen; omega
      have hm0 : 0 + rows.length ≤ maxLen := by unfold maxLen; omega
      have HN0 : Hid (∀ (j : Nat) (u : Value), (flat rows)[j]? = some u → W4.drew.cell? ((⟨g, off, none⟩ : Addr).add j) = some u) := Lib.hid (by intro j u hu; rw [Addr.add_lit]; exact HC.out j u hu)
      have hn4 : W4.heap.size ≤ W4.heap.size := Nat.le_refl _
      have hw4 : w.heap.size < W4.heap.size := hv1.lt
      have HV1' := Lib.hid hv1
      clear hv1
      have HN0' := Lib.hid (rp0 (k := k) (v := v) hg HC.out)
      have hb0a : (W4.alloc (.cells #[.int .i64 k, .int .i64 v.1, .int .i64 v.2.1, .int .i64 v.2.2] 42)).cell? ⟨b, 0, none⟩ = some (.slice (some ⟨g, off, none⟩) rows.length cap') := (World.cell?_of_block (w := W4) (Below.heap_alloc W4 _ _ (Array.getElem?_eq_some_iff.1 R1.out).1)).trans hb0
      go_region_law (first
        | (refine step_append_lies _ rfl (.const (.slice none 0 0)) (.tmp 20) 29 rfl W4.heap.size 42 i0 (.agg #[.int .i64 0, .int .i64 0, .int .i64 0, .int .i64 0]) 4 32 Try.underlying29 hi hz0 hz1 hz2 rfl (by decide) (.slice none 0 0) 0 [] (by simp [Act.eval, Act.put]) (World.ownsRow_nil _ _ _ _) ⟨g, off, none⟩ rows.length cap' (flat rows) (by simp [Act.eval, Act.put]) hl3.out HN0.out hl1.out (by omega) hm0 (by omega) (by simp) _ rfl ?_; intro g1 c1 w2 hown1 hgrow1 hor1 hlt1; obtain ⟨⟨y0, y1, y2⟩, HN2, HO2, hn5⟩ := rp1 (k := k) HV1'.out hn4 hgrow1 hown1; have HG1 := Lib.hid hgrow1; clear hown1 hgrow1 hor1)
        | (refine step_append_lies _ rfl (.tmp 21) (.tmp 25) 29 rfl W4.heap.size 42 i0 (.agg #[.int .i64 0, .int .i64 0, .int .i64 0, .int .i64 0]) 4 32 Try.underlying29 hi hz0 hz1 hz2 rfl (by decide) (.slice (some ⟨g1, 0, none⟩) rows.length c1) rows.length (flat rows) (by simp [Act.eval, Act.put]) HO2.out ⟨w2.heap.size, 0, none⟩ 1 1 (rowL k v) (by simp [Act.eval, Act.put]) rfl HN2.out hl2.out (by omega) hm1 (by omega) (by simpa using hn5) _ rfl ?_; intro g3 c3 w3 hown3 hgrow3 hor3 hlt3; have HO3 := Lib.hid hown3; have HB3 := Lib.hid (rp3 HG1.out HO2.out hgrow3); clear hown3 hgrow3 hor3 HG1 HO2 HN2)
        | (refine step_append_lies _ rfl (.const (.slice none 0 0)) (.tmp 20) 29 rfl W4.heap.size 42 i0 (.agg #[.int .i64 0, .int .i64 0, .int .i64 0, .int .i64 0]) 4 32 Try.underlying29 hi hz0 hz1 hz2 rfl (by decide) (.slice none 0 0) 0 [] (by simp [Act.eval, Act.put]) (World.ownsRow_nil _ _ _ _) ⟨g, off, none⟩ rows.length cap' (flat rows) (by simp [Act.eval, Act.put]) hl3.out HN0'.out hl1.out (by omega) hm0 (by omega) (by simp) _ rfl ?_; intro g1 c1 w2 hown1 hgrow1 hor1 hlt1; obtain ⟨HN2, HO2, hn5⟩ := rp2 (k := k) hn4 hgrow1 hown1; have HG1 := Lib.hid hgrow1; clear hown1 hgrow1 hor1)
        | (refine step_append_lies _ rfl (.tmp 21) (.tmp 25) 29 rfl W4.heap.size 42 i0 (.agg #[.int .i64 0, .int .i64 0, .int .i64 0, .int .i64 0]) 4 32 Try.underlying29 hi hz0 hz1 hz2 rfl (by decide) (.slice (some ⟨g1, 0, none⟩) rows.length c1) rows.length (flat rows) (by simp [Act.eval, Act.put]) HO2.out ⟨W4.heap.size, 0, none⟩ 1 1 (rowL k v) (by simp [Act.eval, Act.put]) rfl HN2.out hl2.out (by omega) hm1 (by omega) (by simpa using hn5) _ rfl ?_; intro g3 c3 w3 hown3 hgrow3 hor3 hlt3; have HO3 := Lib.hid hown3; have HB3 := Lib.hid (rp4 HG1.out HO2.out hgrow3); clear hown3 hgrow3 hor3 HG1 HO2 HN2))
      all_goals
        obtain ⟨hA1, hA2, e1, ⟨u0, e0⟩, f0, hcap⟩ := rp5 HS1.out HB3.out HO3.out
        have HA1 := Lib.hid hA1
        have HA2 := Lib.hid (hA2 (List.length_pos_iff.1 hpos))
        clear hA1 hA2
        by_cases hm : most < (rows.length : Int) + 1
        · have hm2 : decide (most < (rows.length : Int) + 1) = true := by simpa using hm
          have hc1 : ¬ c3 = 1 := by omega
          go_wp2
          go_ret
          refine ⟨by rw [HL.out]; rfl, ?_, ?_⟩
          · unfold putR
            rw [HL.out, if_neg (by simp), if_pos hm]
            exact HA2.out
          · have hbb := HB.out.trans (HB3.out.mono HB.out.size)
            exact ⟨hbb.os, hbb.tape, hbb.output, by simpa [World.setCell] using hbb.size, fun i hi hne => (Below.heap_setCell w3 _ _ i (fun e => hne (by rw [e]))).trans (hbb.block i hi)⟩
        · have hm2 : decide (most < (rows.length : Int) + 1) = false := by simpa using hm
          go_wp2
          go_ret
          refine ⟨by rw [HL.out]; rfl, ?_, ?_⟩
          · unfold putR
            rw [HL.out, if_neg (by simp), if_neg (by omega)]
            exact HA1.out
          · have hbb := HB.out.trans (HB3.out.mono HB.out.size)
            exact ⟨hbb.os, hbb.tape, hbb.output, by simpa [World.setCell] using hbb.size, fun i hi hne => (Below.heap_setCell w3 _ _ i (fun e => hne (by rw [e]))).trans (hbb.block i hi)⟩
end Go.Proofs.Ytkjhgbndnaemlaa.SeenR
