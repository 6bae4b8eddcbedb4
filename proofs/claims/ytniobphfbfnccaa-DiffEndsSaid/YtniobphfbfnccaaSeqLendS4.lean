/- LendTexts, KeptTexts and OverTexts turn nothing but a row of their own, or the row handed in. -/
import Derived.Test.YtniobphfbfnccaaSeqM
import Derived.Test.YtniobphfbfnccaaProg
import Derived.WalkSpells
import Derived.Maps.AppendAt
import Derived.OwnWalk
namespace Go.Proofs.Ytniobphfbfnccaa.SeqS
open Go.RowKit Go.Shelf Go.Proofs.Ytniobphfbfnccaa.SeqM
attribute [local go_sem] Oper.semAt_some
set_option linter.unusedVariables false
theorem info9 : (Try.prog.info? 9).map (fun i => (i.zero, i.size, i.bytes)) = some (some (.string ⟨#[]⟩), 1, 16) := by kernel_rfl
/-- Texts that lie in W. -/
def CellsT (W : World) (A : Option Addr) (zs : List ByteArray) : Prop :=
  zs = [] ∨ ∃ b off, A = some ⟨b, off, none⟩ ∧ b < W.heap.size ∧ ∀ j (h : j < zs.length), W.cell? ⟨b, off + j, none⟩ = some (.string zs[j])
theorem CellsT.below {W W' : World} {A : Option Addr} {zs : List ByteArray} (h : CellsT W A zs) (hb : Below W.heap.size W W') : CellsT W' A zs := by
  rcases h with rfl | ⟨b, off, rfl, h1, h2⟩
  · exact .inl rfl
  · exact .inr ⟨b, off, rfl, Nat.lt_of_lt_of_le h1 hb.size, fun j hj => (hb.cell (p := ⟨b, off + j, none⟩) h1).trans (h2 j hj)⟩
theorem setCell_block (w : World) (g o : Nat) (v : Value) (cur : Array Value) (t : TypeId) (z : Nat × Nat) (h : w.heap[g]? = some (.cells cur t z)) :
    (w.setCell ⟨g, o, none⟩ v).heap[g]? = some (.cells (cur.setIfInBounds o v) t z) := by
  obtain ⟨hlt, hk⟩ := Array.getElem?_eq_some_iff.1 h
  show (w.heap.modify g _)[g]? = _
  rw [Array.getElem?_eq_getElem (by rw [Array.size_modify]; exact hlt), Array.getElem_modify_self, hk]
  rfl

/-- A row of the call's own: its cells, n of them zs, and cap places. -/
def Row (W : World) (g n cap : Nat) (zs : List Value) : Prop := ∃ cur : Array Value, W.heap[g]? = some (.cells cur 9 (0, 0)) ∧ cur.size = cap ∧ n ≤ cap ∧ cap ≤ maxLen ∧ cur.toList.take n = zs
theorem row_own {W : World} {base g n cap : Nat} {zs : List Value} (h : Row W g n cap zs) (hz : zs.length = n) (hb : base ≤ g) : W.ownsRow base 9 1 (.slice (some ⟨g, 0, none⟩) n cap) n zs := by
  obtain ⟨cur, h1, h2, h3, h4, h5⟩ := h
  exact ⟨by omega, .inr ⟨g, cap, cur, rfl, hb, h1, h3, h4, by omega, by rw [Nat.mul_one]; exact h5⟩⟩
theorem own_row {W : World} {base g n cap : Nat} {zs : List Value} (h : W.ownsRow base 9 1 (.slice (some ⟨g, 0, none⟩) n cap) n zs) : Row W g n cap zs := by
  rcases h.2 with ⟨e, _⟩ | ⟨g', cap', cur, e, h1, h2, h3, h4, h5, h6⟩
  · cases e
  · cases e
    exact ⟨cur, h2, by omega, h3, h4, by rw [Nat.mul_one] at h6; exact h6⟩

abbrev lentV : Value := .string ⟨#[108, 101, 110, 116]⟩
set_option maxHeartbeats 2000000 in
set_option maxRecDepth 100000 in
theorem lend_calls (w : World) (A : Option Addr) (c : Nat) (zs : List ByteArray) (hlen : zs.length ≤ 1000000) (hz : CellsT w A zs) (hnil : A = none → zs.length = 0 ∧ c = 0) :
    Calls Try.prog 10 #[.slice A zs.length c] w fun e w' => e = .returned (.slice (some ⟨w.heap.size, 0, none⟩) zs.length (zs.length + 3)) ∧ Row w' w.heap.size (zs.length + 3) (zs.length + 3) (zs.map Value.string ++ List.replicate 3 lentV) ∧ Below w.heap.size w w' := by
  obtain ⟨i0, hi, hz0, hz1, hz2⟩ := info_parts info9
  have HZ := Lib.hid hz
  have HNil := Lib.hid hnil
  have hl1 : Hid ((zs.map (Value.string)).length = zs.length * 1) := by show _ = _; simp
  have hone : Hid (∀ u ∈ zs.map (Value.string), u.oneCell' = true) := fun u hu => by
    obtain ⟨x, _, rfl⟩ := List.mem_map.1 hu
    rfl
  clear hz hnil
  go_enter Try.func10, Try.ntmps10
  go_wp2_with (first
    | (refine wpList_make_own _ rfl _ _ 22 rfl w.heap.size 9 i0 (.string ⟨#[]⟩) 1 Try.underlying22 hi hz0 hz1 .i64 .i64 ((zs.length : Int) + 3) (zs.length + 3) rfl rfl (by omega) (by rw [hz2]; omega) (by unfold maxLen; omega) (Nat.le_refl _) ?_; intro w1 hown1 hgrow1; have HO1 := Lib.hid hown1; have HG1 := Lib.hid hgrow1; clear hown1 hgrow1)
    | (at_builtin; refine wpList_append_fits_any _ rfl _ _ 22 rfl w.heap.size 9 i0 1 Try.underlying22 hi hz1 w.heap.size 0 (zs.length + 3) [] rfl HO1.out A zs.length c (zs.map (Value.string)) rfl hl1.out HNil.out ?sc hone.out (by omega) ?_; (case sc => (intro ad e j u hu; subst e; rcases HZ.out with rfl | ⟨b, off, e, hb, hc⟩; (simp at hu); cases e; rw [List.getElem?_map] at hu; obtain ⟨x, hx, rfl⟩ := Option.map_eq_some_iff.1 hu; obtain ⟨hj, rfl⟩ := List.getElem?_eq_some_iff.1 hx; rw [Addr.add_lit]; exact (World.cell?_of_block (w := w) (HG1.out.block b hb (by simp))).trans (hc j hj))); intro w2 hown2 hgrow2; have HO2 := Lib.hid hown2; have HG2 := Lib.hid hgrow2; clear hown2 hgrow2))
  rw [show zs.length + 3 - zs.length = 3 by omega]
  have hb1 := (Below.refl w.heap.size w).grown HG1.out (Nat.le_refl _) (fun k e => by cases e)
  have hb2 := hb1.grown HG2.out hb1.size (fun k e => by cases e; exact Nat.le_refl _)
  have HB := Lib.hid hb2
  have hr0 := own_row HO2.out
  simp only [Nat.zero_add, List.nil_append] at hr0
  have HR0 := Lib.hid hr0
  clear hb1 hb2 hr0 HO1 HG1 HO2 HG2
  go_loopw [5] (fun i wr => ∃ k : Nat, k ≤ 3 ∧ i = .int .i64 k ∧ Row wr w.heap.size (zs.length + k) (zs.length + 3) (zs.map Value.string ++ List.replicate k lentV) ∧ Below w.heap.size w wr) (fun i _ => 3 - (intOf i).toNat)
  case atStart => exact ⟨0, by omega, rfl, by simpa using HR0.out, HB.out⟩
  case round =>
    obtain ⟨k, hk, rfl, hR, hBl⟩ := hrel
    have HR := Lib.hid hR
    have HBl := Lib.hid hBl
    clear hR hBl
    by_cases hlt : k < 3
    · obtain ⟨cur, h1, h2, h3, h4, h5⟩ := HR.out
      have hc : ∃ v, wr.cell? ⟨w.heap.size, zs.length + k, none⟩ = some v := ⟨cur[zs.length + k]'(by omega), by simp [World.cell?, h1]⟩
      obtain ⟨v0, hc⟩ := hc
      have hf : wr.frozen? ⟨w.heap.size, zs.length + k, none⟩ = false := by simp [World.frozen?, h1]
      have H1 := Lib.hid h1
      have H2 := Lib.hid h2
      have H5 := Lib.hid h5
      clear h1 h2 h5 h3 h4
      go_wp2
      go_roundw
      case rel =>
        refine ⟨k + 1, by omega, by simp, ⟨_, setCell_block wr _ _ _ cur 9 (0, 0) H1.out, by simpa using H2.out, by omega, by unfold maxLen; omega, ?_⟩, HBl.out.setCell (p := ⟨w.heap.size, zs.length + k, none⟩) (Nat.le_refl _) _⟩
        have h5 := H5.out
        have h2 := H2.out
        have hlt2 : zs.length + k < (cur.toList.set (zs.length + k) lentV).length := by simp; omega
        rw [Array.toList_setIfInBounds, show zs.length + (k + 1) = (zs.length + k) + 1 by omega, List.take_succ_eq_append_getElem hlt2, List.take_set_of_le (Nat.le_refl _), List.getElem_set_self, h5, List.replicate_succ', List.append_assoc]
      case measure => simp [intOf]; omega
    · obtain rfl : k = 3 := by omega
      go_wp2
      go_ret
      exact ⟨rfl, HR.out, HBl.out⟩

set_option maxRecDepth 100000 in
theorem over_nil (w : World) : Calls Try.prog 23 #[.slice none 0 0] w fun e w' => (∃ v, e = .returned v) ∧ Below w.heap.size w w' := by
  obtain ⟨i0, hi, hz0, hz1, hz2⟩ := info_parts info9
  go_enter Try.func23, Try.ntmps23
  go_wp2
  go_loopw [2] (fun i wr => i = .int .i64 0 ∧ wr = w) (fun _ _ => 0)
  case atStart => exact ⟨rfl, rfl⟩
  case round =>
    obtain ⟨rfl, rfl⟩ := hrel
    have hown := World.ownsRow_nil wr wr.heap.size 9 1
    go_wp2_with (at_builtin; refine wpList_append_own _ rfl _ _ 22 rfl wr.heap.size 9 i0 (.string ⟨#[]⟩) 1 16 Try.underlying22 hi hz0 hz1 hz2 rfl (by decide) (.slice none 0 0) 0 [] rfl (hown.alloc _) ⟨wr.heap.size, 0, none⟩ 1 1 [.string ⟨#[111, 118, 101, 114]⟩] rfl rfl (cell_one_new _ _ _) (by simp [Value.oneCell']) (by unfold maxLen; omega) (by omega) (by simp) ?_; intro v' w1 hown' hgrow _; have HG := Lib.hid hgrow; clear hown' hgrow)
    go_end0
    exact ⟨⟨_, rfl⟩, ((Below.refl _ wr).alloc (Nat.le_refl _) _).grown HG.out (by simp) (fun k e => by simp [Value.ownBlock] at e)⟩

set_option maxHeartbeats 2000000 in
set_option maxRecDepth 100000 in
theorem over_calls (w : World) (g n cap : Nat) (zs : List Value) (hlen : n ≤ 1000000) (hr : Row w g n cap zs) :
    Calls Try.prog 23 #[.slice (some ⟨g, 0, none⟩) n cap] w fun e w' => (∃ v, e = .returned v) ∧ TurnM (fun k => k = g) w w' := by
  obtain ⟨i0, hi, hz0, hz1, hz2⟩ := info_parts info9
  have HR0 := Lib.hid hr
  clear hr
  go_enter Try.func23, Try.ntmps23
  go_wp2
  go_loopw [2] (fun i wr => ∃ k : Nat, ∃ ys : List Value, k ≤ n ∧ i = .int .i64 k ∧ (ys.length = n ∧ Row wr g n cap ys) ∧ TurnM (fun k => k = g) w wr) (fun i _ => n - (intOf i).toNat)
  case atStart => 
    obtain ⟨cur, h1, h2, h3, h4, h5⟩ := HR0.out
    exact ⟨0, zs, by omega, rfl, ⟨by rw [← h5]; simp; omega, HR0.out⟩, TurnM.refl _ _⟩
  case round =>
    obtain ⟨k, ys, hk, rfl, ⟨hyl, hR⟩, hT⟩ := hrel
    have HR := Lib.hid hR
    have HT := Lib.hid hT
    have HYL := Lib.hid hyl
    clear hR hT hyl
    by_cases hlt : k < n
    · obtain ⟨cur, h1, h2, h3, h4, h5⟩ := HR.out
      have hc : ∃ v, wr.cell? ⟨g, k, none⟩ = some v := ⟨cur[k]'(by omega), by simp [World.cell?, h1]⟩
      obtain ⟨v0, hc⟩ := hc
      have hf : wr.frozen? ⟨g, k, none⟩ = false := by simp [World.frozen?, h1]
      have H1 := Lib.hid h1
      have H2 := Lib.hid h2
      have H5 := Lib.hid h5
      clear h1 h2 h5
      go_wp2
      go_roundw
      case rel =>
        refine ⟨k + 1, ys.set k (.string ⟨#[111, 118, 101, 114]⟩), by omega, by simp, ⟨by rw [List.length_set]; exact HYL.out, _, setCell_block wr _ _ _ cur 9 (0, 0) H1.out, by simpa using H2.out, h3, h4, ?_⟩, HT.out.trans (TurnM.setCell (M := fun k => k = g) wr (p := ⟨g, k, none⟩) rfl _)⟩
        rw [Array.toList_setIfInBounds, List.take_set, H5.out]
      case measure => simp [intOf]; omega
    · obtain rfl : k = n := by omega
      have hcap : cap ≤ maxLen := by obtain ⟨cur, h1, h2, h3, h4, h5⟩ := HR.out; exact h4
      have hown := Lib.hid (row_own (base := 0) HR.out HYL.out (Nat.zero_le _))
      clear hcap
      go_wp2_with (at_builtin; refine wpList_append_own _ rfl _ _ 22 rfl 0 9 i0 (.string ⟨#[]⟩) 1 16 Try.underlying22 hi hz0 hz1 hz2 rfl (by decide) (.slice (some ⟨g, 0, none⟩) k cap) k ys rfl (hown.out.alloc _) ⟨wr.heap.size, 0, none⟩ 1 1 [.string ⟨#[111, 118, 101, 114]⟩] rfl rfl (cell_one_new _ _ _) (by simp [Value.oneCell']) (by unfold maxLen; omega) (by omega) (by omega) ?_; intro v' w1 hown' hgrow _; have HG := Lib.hid hgrow; clear hown' hgrow)
      go_end0
      exact ⟨⟨_, rfl⟩, (HT.out.trans (TurnM.alloc _ _ _)).trans (TurnM.grown HG.out fun k e => by simp [Value.ownBlock] at e; exact e.symm)⟩
end Go.Proofs.Ytniobphfbfnccaa.SeqS
