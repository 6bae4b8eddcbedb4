/- Bytes that a conversion of a text has laid: a mark stands behind their end; a text is put behind them. -/
import Derived.Test.YtipccndoffcfiaaDoorScriptBuild
import Derived.Test.YtipccndoffcfiaaDoorScriptB
import Derived.Lib.ConvBytes
import Derived.Laws.CopyRow
import Derived.Laws.IdiomStrings
namespace Go.Proofs.YtipccndoffcfiaaDoor.Script
open Go.RowKit Go.Proofs.YtipccndoffcfiaaDoor.SeqM Go.Proofs.YtipccndoffcfiaaDoorW.PrintWords
set_option linter.unusedVariables false
set_option linter.unusedSimpArgs false
/-- Cells written one by one where none of them is frozen. -/
theorem store_free (g o : Nat) : ∀ (vs : List Value) (i : Nat) (cur : Array Value) (t : TypeId) (fz : Nat × Nat) (w : World), w.heap[g]? = some (.cells cur t fz) → (∀ j, j < cur.size → w.frozen? ⟨g, j, none⟩ = false) → o + i + vs.length ≤ cur.size → (∀ v ∈ vs, v.oneCell' = true) →
    ∃ cur' : Array Value, (storeCells ⟨g, o, none⟩ vs i).run Tryd.prog w = .ok () (w.setRow g cur') ∧ cur'.toList = cur.toList.take (o + i) ++ vs ++ cur.toList.drop (o + i + vs.length) := by
  intro vs
  induction vs with
  | nil =>
    intro i cur t fz w hg _ _ _
    refine ⟨cur, ?_, by simp⟩
    rw [setRow_self w g cur t fz hg]
    rfl
  | cons v rest ih =>
    intro i cur t fz w hg hf hl h1
    have hi : o + i < cur.size := by rw [List.length_cons] at hl; omega
    have hc : w.cell? ⟨g, o + i, none⟩ = some cur[o + i] := by simp [World.cell?, hg, hi]
    have hst : (store ((⟨g, o, none⟩ : Addr).add i) v).run Tryd.prog w = .ok () (w.setRow g (cur.setIfInBounds (o + i) v)) := by
      rw [Addr.add_lit, run_store Tryd.prog w _ v _ (h1 v (by simp)), hc]
      simp [hf (o + i) hi, setCell_eq_setRow w g (o + i) cur t fz v hg]
    have hg2 := setRow_heap w g cur (cur.setIfInBounds (o + i) v) t fz hg
    obtain ⟨cur', e1, e2⟩ := ih (i + 1) (cur.setIfInBounds (o + i) v) t fz (w.setRow g (cur.setIfInBounds (o + i) v)) hg2 (fun j hj => by
      have := hf j (by simpa using hj)
      unfold World.frozen? at this ⊢
      simp only at this ⊢
      rw [hg2]
      rw [hg] at this
      exact this) (by rw [List.length_cons] at hl; simp; omega) (fun x hx => h1 x (by simp [hx]))
    refine ⟨cur', ?_, ?_⟩
    · simp only [storeCells, Sem.run_bind, hst, Result.andThen_ok, e1, setRow_setRow]
    · rw [e2]
      have e := list_seg_step cur.toList (o + i) v rest (by rw [List.length_cons] at hl; simp; omega)
      simpa [Array.toList_setIfInBounds, Nat.add_assoc] using e
/-- Bytes of the call's own, none of them frozen. -/
structure RowT (W : World) (base : Nat) (v : Value) (l : List UInt8) : Prop where
  ex : ∃ g cap cur fz, v = .slice (some ⟨g, 0, none⟩) l.length cap ∧ base ≤ g ∧ W.heap[g]? = some (.cells cur 5 fz) ∧ (∀ j, j < cur.size → W.frozen? ⟨g, j, none⟩ = false) ∧ l.length ≤ cap ∧ cap ≤ maxLen ∧ cur.size = cap ∧ cur.toList.take l.length = byC l
theorem RowT.below {W W' : World} {base : Nat} {v : Value} {l : List UInt8} (h : RowT W base v l) (hb : Below W.heap.size W W') : RowT W' base v l := by
  obtain ⟨g, cap, cur, fz, h1, h2, h3, h4, h5, h6, h7, h8⟩ := h.ex
  have e := hb.block g (Array.getElem?_eq_some_iff.1 h3).1
  refine ⟨g, cap, cur, fz, h1, h2, e.trans h3, fun j hj => ?_, h5, h6, h7, h8⟩
  rw [← h4 j hj]
  simp only [World.frozen?, e]
theorem RowT.weaken {W : World} {base base' : Nat} {v : Value} {l : List UInt8} (h : RowT W base v l) (hb : base' ≤ base) : RowT W base' v l := by
  obtain ⟨g, cap, cur, fz, h1, h2, h3⟩ := h.ex
  exact ⟨g, cap, cur, fz, h1, Nat.le_trans hb h2, h3⟩
theorem RowT.conv (w : World) (s : ByteArray) (hs : s.size ≤ 1000000000000) : RowT (Lib.bytesWorld w 5 s) w.heap.size (.slice (some ⟨w.heap.size, 0, none⟩) s.size (grownCap w s.size 0 5)) s.data.toList := by
  have hn := Lib.bytesWorld_at_new w 5 s
  have hge := grownCap_ge w s.size 0 5
  have hcs : (Lib.bytesCells w 5 s).size = grownCap w s.size 0 5 := by
    unfold Lib.bytesCells
    simp only [Array.size_append, Array.size_map, Array.size_replicate]
    have : s.data.size = s.size := rfl
    omega
  have hl : s.data.toList.length = s.size := by simp
  refine ⟨w.heap.size, grownCap w s.size 0 5, Lib.bytesCells w 5 s, _, by rw [hl], Nat.le_refl _, hn, fun j hj => ?_, by rw [hl]; exact hge, grownCap_le_maxLen w s.size 0 5 (by unfold maxLen; omega), hcs, ?_⟩
  · simp only [World.frozen?, hn]
    simp
    omega
  · unfold Lib.bytesCells byC Lib.byteCells
    rw [Array.toList_append, List.take_append_of_le_length (by simp), List.take_of_length_le (by simp)]
    simp
set_option maxRecDepth 100000 in
theorem append_rowT {ops : Array Oper} {rest : List Oper} {o : Oper} {a : Act} {w : World} {Q : Exit → Act → World → Prop} (hgd : o.guard = none) (sl x : Operand) (t u : TypeId)
    (ho : o.op = .call { callee := .builtin .append, args := #[sl, x], argTypes := #[t, u] })
    (base : Nat) (i : TypeInfo) (ht : Tryd.prog.underlying t = some (.slice 5)) (hu : Tryd.prog.underlying u = some .string) (hi : Tryd.prog.info? 5 = some i) (hz : i.zero = some (.int .u8 0)) (hsize : i.size = 1) (hby : i.bytes = 1)
    (v : Value) (l : List UInt8) (hs : a.eval sl = v) (hown : RowT w base v l) (s : ByteArray) (hx : a.eval x = .string s)
    (hbytes : l.length + s.size ≤ 140737488355328) (hbase : base ≤ w.heap.size)
    (h : ∀ v' w', RowT w' base v' (l ++ s.data.toList) → Below base w w' → wpList Tryd.prog ops Q rest (a.put o.dst v') w') : wpList Tryd.prog ops Q (o :: rest) a w := by
  refine wpList_plain hgd fun K hK => ?_
  obtain ⟨g, cap, cur, fz, rfl, hbg, hg, hfr, hnc, hcm, hcs, htk⟩ := hown.ex
  have hlen : (l ++ s.data.toList).length = l.length + s.size := by simp
  have hcl : cur.toList.length = cap := by simpa using hcs
  have key : ∃ v' w', (Builtin.append_ #[t, u] o.type #[.slice (some ⟨g, 0, none⟩) l.length cap, .string s]).run Tryd.prog w = .ok v' w' ∧ RowT w' base v' (l ++ s.data.toList) ∧ Below base w w' := by
    by_cases hroom : l.length + s.size ≤ cap
    · have hf := Lib.run_firstCells_string (P := Tryd.prog) w 1 s
      obtain ⟨cur', e1, e2⟩ := store_free g l.length (Lib.strCells s) 0 cur 5 fz w hg hfr (by rw [Lib.strCells_length]; omega) (Lib.strCells_oneCell s)
      have hsz : cur'.size = cap := by
        have := congrArg List.length e2
        simp only [List.length_append, List.length_take, List.length_drop, Lib.strCells_length, Array.length_toList] at this
        omega
      have hg2 := setRow_heap w g cur cur' 5 fz hg
      refine ⟨.slice (some ⟨g, 0, none⟩) (l.length + s.size) cap, w.setRow g cur', ?_, ⟨g, cap, cur', fz, by rw [hlen], hbg, hg2, fun j hj => ?_, by omega, hcm, hsz, ?_⟩, ?_⟩
      · simp [Builtin.append_, run_underlying ht, run_underlying hu, sizeOf, typeInfo, hi, hsize, Builtin.lenOf, hroom, hf, Addr.add_lit, e1]
      · have := hfr j (by omega)
        unfold World.frozen? at this ⊢
        simp only at this ⊢
        rw [hg2]
        rw [hg] at this
        exact this
      · rw [e2, hlen, Nat.add_zero, htk, byC_append]
        rw [List.take_append_of_le_length (by rw [List.length_append, byC_len, Lib.strCells_length]; omega), List.take_of_length_le (by rw [List.length_append, byC_len, Lib.strCells_length]; omega)]
        rfl
      · exact ⟨rfl, rfl, rfl, by simp, fun k hk => setRow_other w g k _ (by omega)⟩
    · have holds : ∀ j u, (byC l)[j]? = some u → w.cell? ((⟨g, 0, none⟩ : Addr).add j) = some u := fun j u hu => by
        rw [Addr.add_lit, Nat.zero_add]
        rw [← htk, List.getElem?_take] at hu
        split at hu
        · simp [World.cell?, hg]; simpa using hu
        · cases hu
      have hr := Lib.run_append_grow_string (P := Tryd.prog) w t u o.type 5 i (.int .u8 0) ht hu hi hz ⟨g, 0, none⟩ l.length cap (byC l) (by rw [hsize, byC_len]; omega) holds s (by omega) (by omega) (by rw [hby]; exact growslice_fits (by omega) (by omega))
      have hge := grownCap_ge w (l.length + s.size) cap 5
      have hcm2 : grownCap w (l.length + s.size) cap 5 ≤ maxLen := grownCap_le_maxLen w (l.length + s.size) cap 5 (by unfold maxLen; omega)
      refine ⟨_, _, hr, ⟨w.heap.size, grownCap w (l.length + s.size) cap 5, _, (0, 0), by rw [hlen], hbase, heap_alloc_new w.drew _, fun j hj => ?_, by omega, hcm2, ?_, ?_⟩, ⟨rfl, rfl, rfl, by simp, fun k hk => heap_alloc_old w.drew _ (by show k < w.heap.size; omega)⟩⟩
      · have := heap_alloc_new w.drew (.cells ((byC l).toArray ++ (Lib.strCells s).toArray ++ Builtin.zeroCells (Value.int .u8 0).cells (grownCap w (l.length + s.size) cap 5 - (l.length + s.size))) 5)
        simp only [World.frozen?]
        rw [show (w.drew.alloc _).heap[w.heap.size]? = _ from this]
        simp
      · have hz1 : (Value.int IntKind.u8 0).cells.size = 1 := rfl
        simp only [Array.size_append, List.size_toArray, size_zeroCells, hz1, byC_len, Lib.strCells_length]
        omega
      · simp only [Array.toList_append, hlen, List.append_assoc]
        rw [← List.append_assoc, List.take_append_of_le_length (by rw [List.length_append, byC_len, Lib.strCells_length]; omega), List.take_of_length_le (by rw [List.length_append, byC_len, Lib.strCells_length]; omega), byC_append]
        rfl
  obtain ⟨v', w', hr, h2, h3⟩ := key
  unfold Oper.wp execOp
  simp only [ho, resolve, invoke, builtin, Sem.run_bind, Sem.run_pure, Result.andThen_ok, List.map_toArray, List.map_cons, List.map_nil, hs, hx, hr]
  exact hK _ _ (h v' w' h2 h3)
theorem RowT.text {W : World} {base : Nat} {v : Value} {l : List UInt8} (h : RowT W base v l) : (convert 48 9 v).run Tryd.prog W = .ok (.string ⟨l.toArray⟩) W := by
  obtain ⟨g, cap, cur, fz, rfl, hbg, hg, hfr, hnc, hcm, hcs, htk⟩ := h.ex
  refine run_convert_bytes_back W 48 9 5 ⟨g, 0, none⟩ cap l Tryd.underlying48 Tryd.underlying5 Tryd.underlying9 (fun j hj => ?_)
  have h1 : (cur.toList.take l.length)[j]? = (byC l)[j]? := by rw [htk]
  rw [List.getElem?_take, if_pos hj] at h1
  simp [byC, Lib.byteCells, hj] at h1
  rw [Addr.add_lit, Nat.zero_add]
  simp [World.cell?, hg, h1]
end Go.Proofs.YtipccndoffcfiaaDoor.Script
