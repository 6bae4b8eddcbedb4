/- OverEvents turns nothing but the row handed in. -/
import Derived.Test.YtipccndoffcfiaaDoorScriptReadS
import Derived.Deep.AppendLies
namespace Go.Proofs.YtipccndoffcfiaaDoor.Script
open Go.RowKit Go.Proofs.YtipccndoffcfiaaDoor.PRef Go.Proofs.YtipccndoffcfiaaDoorW.PrintWords Go.Proofs.YtipccndoffcfiaaDoorW.PrintLast
attribute [local go_sem] Oper.semAt_some
set_option linter.unusedVariables false
set_option linter.unusedSimpArgs false
theorem Turn.alloc (b : Nat) (w : World) (o : Obj) : Turn b w (w.alloc o) := ⟨rfl, rfl, rfl, by simp, fun k hk _ => Below.heap_alloc w o k hk⟩
theorem Turn.grown {b : Nat} {w w' : World} {row : Option Nat} (h : w.grownBy w' row) (hr : ∀ k, row = some k → k = b) : Turn b w w' := ⟨h.os, h.tape, h.output, h.size, fun k hk hn => h.block k hk (fun e => hn (hr k e.symm))⟩
/-- A row of events. -/
def RowE (W : World) (g n cap : Nat) (zs : List Value) : Prop := ∃ cur : Array Value, W.heap[g]? = some (.cells cur 47 (0, 0)) ∧ cur.size = cap * 3 ∧ n ≤ cap ∧ cap ≤ maxLen ∧ cur.toList.take (n * 3) = zs
theorem rowE_own {W : World} {base g n cap : Nat} {zs : List Value} (h : RowE W g n cap zs) (hz : zs.length = n * 3) (hb : base ≤ g) : W.ownsRow base 47 3 (.slice (some ⟨g, 0, none⟩) n cap) n zs := by
  obtain ⟨cur, h1, h2, h3, h4, h5⟩ := h
  exact ⟨by omega, .inr ⟨g, cap, cur, rfl, hb, h1, h3, h4, by omega, h5⟩⟩
theorem own_rowE {W : World} {base g n cap : Nat} {zs : List Value} (h : W.ownsRow base 47 3 (.slice (some ⟨g, 0, none⟩) n cap) n zs) : RowE W g n cap zs := by
  rcases h.2 with ⟨e, _⟩ | ⟨g', cap', cur, e, h1, h2, h3, h4, h5, h6⟩
  · cases e
  · cases e
    exact ⟨cur, h2, by omega, h3, h4, h6⟩
theorem set_block (W : World) (b o : Nat) (v : Value) (cur : Array Value) (t : TypeId) (fr : Nat × Nat) (h : W.heap[b]? = some (.cells cur t fr)) : (W.setCell ⟨b, o, none⟩ v).heap[b]? = some (.cells (cur.setIfInBounds o v) t fr) := by
  have hlt := (Array.getElem?_eq_some_iff.1 h).1
  have h' : W.heap[b] = .cells cur t fr := by simpa [Array.getElem?_eq_getElem hlt] using h
  show (W.heap.modify b _)[b]? = _
  rw [Array.getElem?_eq_getElem (by simpa using hlt), Array.getElem_modify_self, h']
  rfl
theorem rowE_set {W : World} {g n cap : Nat} {ys : List Value} (h : RowE W g n cap ys) (o : Nat) (v : Value) : ∃ ys', ys'.length = n * 3 ∧ RowE (W.setCell ⟨g, o, none⟩ v) g n cap ys' := by
  obtain ⟨cur, h1, h2, h3, h4, h5⟩ := h
  exact ⟨_, by simp; omega, _, set_block W g o v cur 47 (0, 0) h1, by simpa using h2, h3, h4, rfl⟩
theorem cells_newE (w : World) (cs : Array Value) (t : TypeId) : ∀ (j : Nat) (u : Value), cs.toList[j]? = some u → (w.alloc (.cells cs t)).cell? ((⟨w.heap.size, 0, none⟩ : Addr).add j) = some u := by
  intro j u hj
  rw [Addr.add_lit]
  obtain ⟨hj1, hj2⟩ := List.getElem?_eq_some_iff.1 hj
  have h := (ptrs_alloc w 0 t cs.toList).cell j hj1
  rw [Array.toArray_toList, hj2] at h
  rw [Nat.zero_add]
  exact h
set_option maxHeartbeats 2000000 in
set_option maxRecDepth 100000 in
theorem overE_calls (w : World) (g n cap : Nat) (zs : List Value) (hlen : n ≤ 1000000) (hr : RowE w g n cap zs) :
    Calls Tryd.prog 18 #[.slice (some ⟨g, 0, none⟩) n cap] w fun e w' => (∃ v, e = .returned v) ∧ Turn g w w' := by
  obtain ⟨i0, hi, hz0, hz1, hz2⟩ := info_parts infoEv
  have HR0 := Lib.hid hr
  clear hr
  go_enter Tryd.func18, Tryd.ntmps18
  go_wp2_with fail
  go_loopw [2] (fun i wr => ∃ k : Nat, ∃ ys : List Value, k ≤ n ∧ i = .int .i64 k ∧ (ys.length = n * 3 ∧ RowE wr g n cap ys) ∧ Turn g w wr) (fun i _ => n - (intOf i).toNat)
  case atStart =>
    obtain ⟨cur, h1, h2, h3, h4, h5⟩ := HR0.out
    exact ⟨0, zs, by omega, rfl, ⟨by rw [← h5]; simp; omega, HR0.out⟩, Turn.refl _ _⟩
  case round =>
    obtain ⟨k, ys, hk, rfl, ⟨hyl, hR⟩, hT⟩ := hrel
    have HR := Lib.hid hR
    have HT := Lib.hid hT
    have HYL := Lib.hid hyl
    clear hR hT hyl
    by_cases hlt : k < n
    · obtain ⟨cur, h1, h2, h3, h4, h5⟩ := HR.out
      have c0 : ∃ v, wr.cell? ⟨g, k * 3, none⟩ = some v := ⟨cur[k * 3]'(by omega), by simp [World.cell?, h1]⟩
      have c1 : ∃ v, wr.cell? ⟨g, k * 3 + 1, none⟩ = some v := ⟨cur[k * 3 + 1]'(by omega), by simp [World.cell?, h1]⟩
      have c2 : ∃ v, wr.cell? ⟨g, k * 3 + 2, none⟩ = some v := ⟨cur[k * 3 + 2]'(by omega), by simp [World.cell?, h1]⟩
      obtain ⟨v0, c0⟩ := c0
      obtain ⟨v1, c1⟩ := c1
      obtain ⟨v2, c2⟩ := c2
      have f0 : wr.frozen? ⟨g, k * 3, none⟩ = false := by simp [World.frozen?, h1]
      have f1 : wr.frozen? ⟨g, k * 3 + 1, none⟩ = false := by simp [World.frozen?, h1]
      have f2 : wr.frozen? ⟨g, k * 3 + 2, none⟩ = false := by simp [World.frozen?, h1]
      have H1 := Lib.hid h1
      have H2 := Lib.hid h2
      have H5 := Lib.hid h5
      clear h1 h2 h5
      go_wp2
      obtain ⟨y1, l1, R1⟩ := rowE_set HR.out (k * 3) (.int .i64 (-9))
      obtain ⟨y2, l2, R2⟩ := rowE_set R1 (k * 3 + 1) (.int .i64 0)
      obtain ⟨y3, l3, R3⟩ := rowE_set R2 (k * 3 + 2) (.string ⟨#[]⟩)
      exact ⟨⟨k + 1, y3, by omega, by simp, ⟨l3, R3⟩, ((HT.out.trans (Turn.set (p := ⟨g, k * 3, none⟩) wr rfl _)).trans (Turn.set (p := ⟨g, k * 3 + 1, none⟩) _ rfl _)).trans (Turn.set (p := ⟨g, k * 3 + 2, none⟩) _ rfl _)⟩, by simp [intOf]; omega⟩
    · obtain rfl : k = n := by omega
      have hown := Lib.hid (rowE_own (base := 0) HR.out HYL.out (Nat.zero_le _))
      go_wp2_with (at_builtin; refine wpList_append_own _ rfl _ _ 29 rfl 0 47 i0 (.agg #[.int .i64 0, .int .i64 0, .string ⟨#[]⟩]) 3 32 Tryd.underlying29 hi hz0 hz1 hz2 rfl (by decide) (.slice (some ⟨g, 0, none⟩) k cap) k ys rfl (hown.out.alloc _) ⟨wr.heap.size, 0, none⟩ 1 1 [.int .i64 (-9), .int .i64 0, .string ⟨#[]⟩] rfl rfl (cells_newE wr #[.int .i64 (-9), .int .i64 0, .string ⟨#[]⟩] _) (by simp [Value.oneCell']) (by unfold maxLen; omega) (by omega) (by omega) ?_; intro v' w1 hown' hgrow _; have HG := Lib.hid hgrow; clear hown' hgrow)
      go_end0
      exact ⟨⟨_, rfl⟩, (HT.out.trans (Turn.alloc _ _ _)).trans (Turn.grown HG.out fun k e => by simp [Value.ownBlock] at e; exact e.symm)⟩
set_option maxRecDepth 100000 in
theorem overE_nil (w : World) : Calls Tryd.prog 18 #[.slice none 0 0] w fun e w' => (∃ v, e = .returned v) ∧ Below w.heap.size w w' := by
  obtain ⟨i0, hi, hz0, hz1, hz2⟩ := info_parts infoEv
  go_enter Tryd.func18, Tryd.ntmps18
  go_wp2_with fail
  go_loopw [2] (fun i wr => i = .int .i64 0 ∧ wr = w) (fun _ _ => 0)
  case atStart => exact ⟨rfl, rfl⟩
  case round =>
    obtain ⟨rfl, rfl⟩ := hrel
    have hown := World.ownsRow_nil wr wr.heap.size 47 3
    go_wp2_with (at_builtin; refine wpList_append_own _ rfl _ _ 29 rfl wr.heap.size 47 i0 (.agg #[.int .i64 0, .int .i64 0, .string ⟨#[]⟩]) 3 32 Tryd.underlying29 hi hz0 hz1 hz2 rfl (by decide) (.slice none 0 0) 0 [] rfl (hown.alloc _) ⟨wr.heap.size, 0, none⟩ 1 1 [.int .i64 (-9), .int .i64 0, .string ⟨#[]⟩] rfl rfl (cells_newE wr #[.int .i64 (-9), .int .i64 0, .string ⟨#[]⟩] _) (by simp [Value.oneCell']) (by unfold maxLen; omega) (by omega) (by simp) ?_; intro v' w1 hown' hgrow _; have HG := Lib.hid hgrow; clear hown' hgrow)
    go_end0
    exact ⟨⟨_, rfl⟩, ((Below.refl _ wr).alloc (Nat.le_refl _) _).grown HG.out (by simp) (fun k e => by simp [Value.ownBlock] at e)⟩
/-- A row of the call's own, written over: nothing else turns. -/
theorem overE_any (w : World) (base : Nat) (v : Value) (es : List S47) (hl : es.length ≤ 1000000) (h : Kd.R k47 47 w base (fun _ => True) v es) :
    Calls Tryd.prog 18 #[v] w fun e w' => (∃ v, e = .returned v) ∧ ∃ g, (∀ k, v.ownBlock = some k → k = g) ∧ (v.ownBlock = none → g = w.heap.size) ∧ Turn g w w' := by
  obtain ⟨inner, ho⟩ := Kd.R_own h
  have ho' := ho
  rcases ho.2 with ⟨rfl, _⟩ | ⟨g, cap, cur, rfl, hg, _⟩
  · exact (overE_nil w).mono fun e w' ⟨he, hb⟩ => ⟨he, w.heap.size, fun k e => by simp [Value.ownBlock] at e, fun _ => rfl, Turn.of_below hb⟩
  · exact (overE_calls w g _ _ _ hl (own_rowE ho')).mono fun e w' ⟨he, ht⟩ => ⟨he, g, fun k e => by simp [Value.ownBlock] at e; exact e.symm, fun e => by simp [Value.ownBlock] at e, ht⟩
end Go.Proofs.YtipccndoffcfiaaDoor.Script
