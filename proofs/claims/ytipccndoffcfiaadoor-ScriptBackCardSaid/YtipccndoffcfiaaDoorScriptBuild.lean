/- A strings.Builder that is the first part of a printer: copyCheck, WriteString, WriteByte, Len, String. -/
import Derived.Test.YtipccndoffcfiaaDoorScriptA
import Derived.Test.YtipccndoffcfiaaDoorSeqM
import Derived.Lib.Builder
import Derived.Lib.AppendStr
import Derived.Lib.UnsafeStr
import Derived.Lib.MakeNoZero
import Derived.Laws.Externs
import Derived.Maps.AppendAt
namespace Go.Proofs.YtipccndoffcfiaaDoor.Script
open Go.RowKit Go.Proofs.YtipccndoffcfiaaDoor.SeqM
attribute [local go_sem] Oper.semAt_some
set_option linter.unusedVariables false
set_option linter.unusedSimpArgs false
abbrev byC (l : List UInt8) : List Value := Lib.byteCells l
/-- A printer: its own address or none, its bytes, whether something may not be written. -/
structure Pr (W : World) (b : Nat) (p v : Value) (l : List UInt8) (bad : Bool) : Prop where
  blk : Blk W b 65 [p, v, .bool bad]
  ptr : p = .pointer none ∨ p = .pointer (some ⟨b, 0, none⟩)
  row : W.ownsRow (b + 1) 5 1 v l.length (byC l)
/-- What a printer turns. -/
abbrev PrM (b : Nat) (v : Value) : Fp := fun k => k = b ∨ v.ownBlock = some k
theorem Pr.c0 {W : World} {b : Nat} {p v : Value} {l : List UInt8} {bad : Bool} (h : Pr W b p v l bad) : W.cell? ⟨b, 0, none⟩ = some p := h.blk.cell 0 (by simp)
theorem Pr.c1 {W : World} {b : Nat} {p v : Value} {l : List UInt8} {bad : Bool} (h : Pr W b p v l bad) : W.cell? ⟨b, 1, none⟩ = some v := h.blk.cell 1 (by simp)
theorem Pr.c2 {W : World} {b : Nat} {p v : Value} {l : List UInt8} {bad : Bool} (h : Pr W b p v l bad) : W.cell? ⟨b, 2, none⟩ = some (.bool bad) := h.blk.cell 2 (by simp)
theorem Pr.ne {W : World} {b : Nat} {p v : Value} {l : List UInt8} {bad : Bool} (h : Pr W b p v l bad) (k : Nat) (e : v.ownBlock = some k) : k ≠ b := by have := (h.row.lt k e).1; omega
theorem Pr.lt {W : World} {b : Nat} {p v : Value} {l : List UInt8} {bad : Bool} (h : Pr W b p v l bad) : ∀ k, PrM b v k → k < W.heap.size := fun k e => e.elim (fun e => by rw [e]; exact h.blk.lt) (fun e => (h.row.lt k e).2)
theorem Pr.shape {W : World} {b : Nat} {p v : Value} {l : List UInt8} {bad : Bool} (h : Pr W b p v l bad) : W.shape? b = some (65, 3) := by
  have := h.blk
  unfold Blk at this
  simp [World.shape?, this]
theorem own_keep {W W' : World} {base : Nat} {e : TypeId} {size n : Nat} {v : Value} {xs : List Value} (h : W.ownsRow base e size v n xs) (hk : ∀ k, v.ownBlock = some k → W'.heap[k]? = W.heap[k]?) : W'.ownsRow base e size v n xs := by
  refine ⟨h.1, ?_⟩
  rcases h.2 with hn | ⟨g, cap, cur, rfl, hb, hg, rest⟩
  · exact .inl hn
  · exact .inr ⟨g, cap, cur, rfl, hb, (hk g (by simp [Value.ownBlock])).trans hg, rest⟩
/-- What turns nothing of the printer's keeps it. -/
theorem Pr.keep {W W' : World} {b : Nat} {p v : Value} {l : List UInt8} {bad : Bool} (h : Pr W b p v l bad) (hk : ∀ k, PrM b v k → W'.heap[k]? = W.heap[k]?) : Pr W' b p v l bad :=
  ⟨(hk b (.inl rfl)).trans h.blk, h.ptr, own_keep h.row fun k e => hk k (.inr e)⟩
theorem Pr.turn {M : Fp} {W W' : World} {b : Nat} {p v : Value} {l : List UInt8} {bad : Bool} (h : Pr W b p v l bad) (ht : TurnM M W W') (hM : ∀ k, PrM b v k → ¬ M k) : Pr W' b p v l bad :=
  h.keep fun k e => ht.block k (h.lt k e) (hM k e)
theorem Pr.below {W W' : World} {b : Nat} {p v : Value} {l : List UInt8} {bad : Bool} (h : Pr W b p v l bad) (hb : Below W.heap.size W W') : Pr W' b p v l bad := h.keep fun k e => hb.block k (h.lt k e)
theorem Pr.set0 {W : World} {b : Nat} {p v : Value} {l : List UInt8} {bad : Bool} (h : Pr W b p v l bad) : Pr (W.setCell ⟨b, 0, none⟩ (.pointer (some ⟨b, 0, none⟩))) b (.pointer (some ⟨b, 0, none⟩)) v l bad :=
  ⟨h.blk.set 0 _, .inr rfl, own_keep h.row fun k e => Below.heap_setCell W ⟨b, 0, none⟩ _ k (h.ne k e)⟩
theorem Pr.set2 {W : World} {b : Nat} {p v : Value} {l : List UInt8} {bad : Bool} (h : Pr W b p v l bad) (bad' : Bool) : Pr (W.setCell ⟨b, 2, none⟩ (.bool bad')) b p v l bad' :=
  ⟨h.blk.set 2 _, h.ptr, own_keep h.row fun k e => Below.heap_setCell W ⟨b, 2, none⟩ _ k (h.ne k e)⟩
theorem Pr.put {W : World} {b : Nat} {p v v' : Value} {l' : List UInt8} {bad : Bool} (hb : Blk W b 65 [p, v, .bool bad]) (hp : p = .pointer none ∨ p = .pointer (some ⟨b, 0, none⟩)) (hr : W.ownsRow (b + 1) 5 1 v' l'.length (byC l')) : Pr (W.setCell ⟨b, 1, none⟩ v') b p v' l' bad :=
  ⟨hb.set 1 _, hp, own_keep hr fun k e => Below.heap_setCell W ⟨b, 1, none⟩ _ k (by have := (hr.lt k e).1; show k ≠ b; omega)⟩
theorem sizeB : (Tryd.prog.info? 63).map (·.size) = some 2 := by kernel_rfl
theorem liesB : liesAt Tryd.prog Tryd.prog.depth 65 (3 / Tryd.prog.cellsOf 65) 0 63 1 = true := by kernel_rfl
theorem infoB : (Tryd.prog.info? 5).map (fun i => (i.zero, i.size, i.bytes)) = some (some (.int .u8 0), 1, 1) := by kernel_rfl
theorem cellsB : Tryd.prog.cellsOf 5 = 1 := by kernel_rfl
set_option maxHeartbeats 1000000 in
set_option maxRecDepth 100000 in
theorem check_calls (b : Nat) (p v : Value) (l : List UInt8) (bad : Bool) (w : World) (h : Pr w b p v l bad) :
    Calls Tryd.prog 55 #[.pointer (some ⟨b, 0, none⟩)] w fun e w' => e = .returned (.tuple #[]) ∧ Pr w' b (.pointer (some ⟨b, 0, none⟩)) v l bad ∧ TurnM (fun k => k = b) w w' := by
  obtain ⟨j, hj, hjs⟩ := Option.map_eq_some_iff.1 sizeB
  have h0 := h.c0
  have hsh := h.shape
  have hfz : w.frozen? ⟨b, 0, none⟩ = false := h.blk.free 0
  have HP := Lib.hid h
  rcases h.ptr with rfl | rfl
  · clear h
    go_enter Tryd.func55, Tryd.ntmps55
    go_wp2
    rw [Lib.run_to_unsafe w ⟨b, 0, none⟩ Tryd.underlying61 Tryd.underlying103 hj (by rw [hjs]; decide) hsh (Nat.zero_lt_succ 2)]
    simp only [Result.andThen]
    rw [Oper.upon_value]
    go_wp2
    rw [run_callFunc_extern Tryd.func65 (by kernel_rfl) (by kernel_rfl) (by kernel_rfl) (e := Extern.AbiNoEscape.same) (by kernel_rfl)]
    rw [Lib.run_noEscape]
    simp only [Result.andThen]
    rw [Oper.upon_value]
    go_wp2
    rw [Lib.run_from_unsafe w ⟨b, 0, none⟩ Tryd.underlying103 Tryd.underlying61 hj hsh liesB]
    simp only [Result.andThen]
    rw [Oper.upon_value]
    go_wp2
    go_end0
    exact ⟨rfl, HP.out.set0, TurnM.setCell (M := fun k => k = b) w (p := ⟨b, 0, none⟩) rfl _⟩
  · clear h
    go_enter Tryd.func55, Tryd.ntmps55
    go_wp2
    rw [Lib.run_neq_ptr_same w _ Tryd.underlying61 hj]
    go_wp2
    go_end0
    exact ⟨rfl, HP.out, TurnM.refl _ _⟩
/-- What a writer leaves behind. -/
def WrPost (b : Nat) (v : Value) (l' : List UInt8) (bad : Bool) (w : World) (w' : World) : Prop :=
  ∃ v', Pr w' b (.pointer (some ⟨b, 0, none⟩)) v' l' bad ∧ TurnM (PrM b v) w w' ∧ (v'.ownBlock = v.ownBlock ∨ ∃ g, v'.ownBlock = some g ∧ w.heap.size ≤ g)
theorem byC_append (l m : List UInt8) : byC (l ++ m) = byC l ++ byC m := by simp [byC, Lib.byteCells]
theorem byC_len (l : List UInt8) : (byC l).length = l.length := Lib.byteCells_length l
/-- Where a text put behind bytes lies: where they lay, or in a new block. -/
theorem append_str_where (w w' : World) (base : Nat) (t u ty e : TypeId) (i : TypeInfo) (ht : Tryd.prog.underlying t = some (.slice e)) (hu : Tryd.prog.underlying u = some .string) (hi : Tryd.prog.info? e = some i) (hz : i.zero = some (.int .u8 0))
    (hsize : i.size = 1) (hby : i.bytes = 1) (v v' : Value) (n : Nat) (xs : List Value) (hown : w.ownsRow base e 1 v n xs) (s : ByteArray) (hbytes : n + s.size ≤ 140737488355328)
    (hr : (Builtin.append_ #[t, u] ty #[v, .string s]).run Tryd.prog w = .ok v' w') : v'.ownBlock = v.ownBlock ∨ ∃ g, v'.ownBlock = some g ∧ w.heap.size ≤ g := by
  have hxl : xs.length = n := by simpa using hown.1
  rcases hown.2 with ⟨rfl, rfl⟩ | ⟨g, cap, cur, rfl, hbg, hg, hnc, hcm, hcs, htake⟩
  · by_cases hm : s.size = 0
    · have hf := Lib.run_firstCells_string (P := Tryd.prog) w 1 s
      rw [hm] at hf
      have h2 : (Builtin.append_ #[t, u] ty #[.slice none 0 0, .string s]).run Tryd.prog w = .ok (.slice none 0 0) w := by
        simp [Builtin.append_, run_underlying ht, run_underlying hu, sizeOf, typeInfo, hi, hsize, Builtin.lenOf, hm, hf]
      rw [h2] at hr
      cases hr
      exact .inl rfl
    · have h2 := run_append_nil_string (P := Tryd.prog) w t u ty e i (.int .u8 0) ht hu hi hz s (by omega) (by omega) (by rw [hby]; omega)
      rw [h2] at hr
      cases hr
      exact .inr ⟨_, rfl, Nat.le_refl _⟩
  · by_cases hroom : n + s.size ≤ cap
    · have hcs' : cur.size = cap := by simpa using hcs
      have h2 := Lib.run_append_room_string (P := Tryd.prog) w t u ty e i ht hu hi hsize g n cap cur hg s hroom (by omega)
      rw [h2] at hr
      cases hr
      exact .inl rfl
    · have h2 := Lib.run_append_grow_string (P := Tryd.prog) w t u ty e i (.int .u8 0) ht hu hi hz ⟨g, 0, none⟩ n cap xs (by rw [hsize]; simpa using hxl) (hown.cells (g := g) rfl) s (by omega) (by omega) (by rw [hby]; exact growslice_fits (by omega) (by omega))
      rw [h2] at hr
      cases hr
      exact .inr ⟨_, rfl, Nat.le_refl _⟩
theorem append_str {ops : Array Oper} {rest : List Oper} {o : Oper} {a : Act} {w : World} {Q : Exit → Act → World → Prop} (hgd : o.guard = none) (sl x : Operand) (t u : TypeId)
    (ho : o.op = .call { callee := .builtin .append, args := #[sl, x], argTypes := #[t, u] })
    (base : Nat) (e : TypeId) (i : TypeInfo) (ht : Tryd.prog.underlying t = some (.slice e)) (hu : Tryd.prog.underlying u = some .string) (hi : Tryd.prog.info? e = some i) (hz : i.zero = some (.int .u8 0))
    (hsize : i.size = 1) (hby : i.bytes = 1)
    (v : Value) (n : Nat) (xs : List Value) (hs : a.eval sl = v) (hown : w.ownsRow base e 1 v n xs) (s : ByteArray) (hx : a.eval x = .string s)
    (hbytes : n + s.size ≤ 140737488355328) (hbase : base ≤ w.heap.size)
    (h : ∀ v' w', w'.ownsRow base e 1 v' (n + s.size) (xs ++ Lib.strCells s) → w.grownBy w' v.ownBlock → (v'.ownBlock = v.ownBlock ∨ ∃ g, v'.ownBlock = some g ∧ w.heap.size ≤ g) → wpList Tryd.prog ops Q rest (a.put o.dst v') w') : wpList Tryd.prog ops Q (o :: rest) a w := by
  refine wpList_plain hgd fun K hK => ?_
  obtain ⟨v', w', hr, h2, h3, h4⟩ := Lib.run_append_own_string (P := Tryd.prog) w base t u o.type e i ht hu hi hz hsize hby v n xs hown s (by unfold maxLen; omega) hbytes hbase
  have h5 := append_str_where w w' base t u o.type e i ht hu hi hz hsize hby v v' n xs hown s hbytes hr
  unfold Oper.wp execOp
  simp only [ho, resolve, invoke, builtin, Sem.run_bind, Sem.run_pure, Result.andThen_ok, List.map_toArray, List.map_cons, List.map_nil, hs, hx, hr]
  exact hK _ _ (h v' w' h2 h3 h5)
theorem wr_done {b : Nat} {v v' : Value} {l l' : List UInt8} {bad : Bool} {w w1 w2 : World} (hp : Hid (Pr w1 b (.pointer (some ⟨b, 0, none⟩)) v l bad)) (ht : Hid (TurnM (fun k => k = b) w w1)) (hb : Hid (Blk w2 b 65 [.pointer (some ⟨b, 0, none⟩), v, .bool bad])) (hg : Hid (w1.grownBy w2 v.ownBlock))
    (ho : w2.ownsRow (b + 1) 5 1 v' l'.length (byC l')) (hw : Hid (v'.ownBlock = v.ownBlock ∨ ∃ g, v'.ownBlock = some g ∧ w1.heap.size ≤ g)) : WrPost b v l' bad w (w2.setCell ⟨b, 1, none⟩ v') := by
  refine ⟨v', Pr.put hb.out (.inr rfl) ho, ?_, hw.out.imp id fun ⟨g, h1, h2⟩ => ⟨g, h1, Nat.le_trans ht.out.size h2⟩⟩
  exact ((ht.out.mono (fun k _ e => .inl e)).trans (TurnM.grown hg.out fun k e => .inr e)).trans (TurnM.setCell (M := PrM b v) w2 (p := ⟨b, 1, none⟩) (.inl rfl) _)
set_option maxHeartbeats 2000000 in
set_option maxRecDepth 100000 in
theorem wstr_calls (b : Nat) (p v : Value) (l : List UInt8) (bad : Bool) (s : ByteArray) (w : World) (h : Pr w b p v l bad) (hlen : l.length + s.size ≤ 140737488355328) :
    Calls Tryd.prog 44 #[.pointer (some ⟨b, 0, none⟩), .string s] w fun e w' => (∃ r, e = .returned r) ∧ WrPost b v (l ++ s.data.toList) bad w w' := by
  obtain ⟨i0, hi, hz0, hz1, hz2⟩ := info_parts infoB
  have hlt0 := h.blk.lt
  go_enter Tryd.func44, Tryd.ntmps44
  go_wp2_with fail
  refine (check_calls b p v l bad _ h).mono ?_
  rintro e w1 ⟨rfl, h1, ht1⟩
  have HP := Lib.hid h1
  have HT := Lib.hid ht1
  have c1 := h1.c1
  have hown := h1.row
  have hlt := h1.blk.lt
  clear h h1 ht1
  go_wp2_with (at_builtin; refine append_str rfl _ _ 48 9 rfl (b + 1) 5 i0 Tryd.underlying48 Tryd.underlying9 hi hz0 hz1 hz2 _ _ _ rfl hown s rfl hlen hlt ?_)
  intro v' w2 hown' hgrow hwh
  have hne := HP.out.ne
  have hb2 : Blk w2 b 65 [.pointer (some ⟨b, 0, none⟩), v, .bool bad] := (hgrow.block b hlt (fun e => hne b e.symm rfl)).trans HP.out.blk
  have d1 : w2.cell? ⟨b, 1, none⟩ = some v := hb2.cell 1 (by simp)
  have f1 : w2.frozen? ⟨b, 1, none⟩ = false := hb2.free 1
  have HB2 := Lib.hid hb2
  have HO := Lib.hid hown'
  have HG := Lib.hid hgrow
  have HW := Lib.hid hwh
  clear hb2 hown' hgrow hwh c1 hown
  obtain ⟨ao, n', cap, rfl⟩ : ∃ ao n' cap, v' = .slice ao n' cap := by
    rcases HO.out.2 with ⟨hv, _⟩ | ⟨g, cap, cur, hv, _⟩
    · exact ⟨none, 0, 0, hv⟩
    · exact ⟨_, _, _, hv⟩
  go_wp2_with fail
  go_ret2
  exact ⟨⟨_, rfl⟩, wr_done HP HT HB2 HG (by rw [byC_append, List.length_append]; have := HO.out; rwa [show s.size = s.data.toList.length by simp] at this) HW⟩
set_option maxHeartbeats 2000000 in
set_option maxRecDepth 100000 in
theorem wbyte_calls (b : Nat) (p v : Value) (l : List UInt8) (bad : Bool) (c : UInt8) (w : World) (h : Pr w b p v l bad) (hlen : l.length + 1 ≤ 140737488355328) :
    Calls Tryd.prog 45 #[.pointer (some ⟨b, 0, none⟩), .int .u8 (c.toNat : Int)] w fun e w' => (∃ r, e = .returned r) ∧ WrPost b v (l ++ [c]) bad w w' := by
  obtain ⟨i0, hi, hz0, hz1, hz2⟩ := info_parts infoB
  go_enter Tryd.func45, Tryd.ntmps45
  go_wp2_with fail
  refine (check_calls b p v l bad _ h).mono ?_
  rintro e w1 ⟨rfl, h1, ht1⟩
  have HP := Lib.hid h1
  have HT := Lib.hid ht1
  have c1 := h1.c1
  have hown := h1.row
  have hlt := h1.blk.lt
  clear h h1 ht1
  go_wp2_with (at_builtin; refine wpList_append_own_at _ rfl _ _ 48 rfl (b + 1) 5 i0 (.int .u8 0) 1 1 Tryd.underlying48 hi hz0 hz1 hz2 rfl (by decide) _ _ _ rfl (hown.alloc _) ⟨w1.heap.size, 0, none⟩ 1 1 [.int .u8 (c.toNat : Int)] rfl rfl ?c1 ?c2 ?c3 ?c4 ?c5 ?_)
  case c1 => exact cell_one_new w1 _ _
  case c2 => simp [Value.oneCell']
  case c3 => unfold maxLen; omega
  case c4 => omega
  case c5 => simp; omega
  intro v' w2 hown' hgrow _ hwh
  have hne := HP.out.ne
  have hlt2 : b < w1.heap.size := HP.out.blk.lt
  have hb2 : Blk w2 b 65 [.pointer (some ⟨b, 0, none⟩), v, .bool bad] := (hgrow.block b (by simp; omega) (fun e => hne b e.symm rfl)).trans ((Below.heap_alloc w1 _ b hlt2).trans HP.out.blk)
  have d1 : w2.cell? ⟨b, 1, none⟩ = some v := hb2.cell 1 (by simp)
  have f1 : w2.frozen? ⟨b, 1, none⟩ = false := hb2.free 1
  have HB2 := Lib.hid hb2
  have HO := Lib.hid hown'
  have HG : Hid (w1.grownBy w2 v.ownBlock) := Lib.hid ((World.grownBy_alloc w1 _ _).trans hgrow)
  have HW : Hid (v'.ownBlock = v.ownBlock ∨ ∃ g, v'.ownBlock = some g ∧ w1.heap.size ≤ g) := Lib.hid (hwh.imp id fun e => ⟨_, e, by simp⟩)
  clear hb2 hown' hgrow hwh c1 hown
  obtain ⟨ao, n', cap, rfl⟩ : ∃ ao n' cap, v' = .slice ao n' cap := by
    rcases HO.out.2 with ⟨hv, _⟩ | ⟨g, cap, cur, hv, _⟩
    · exact ⟨none, 0, 0, hv⟩
    · exact ⟨_, _, _, hv⟩
  go_wp2_with fail
  go_ret
  exact ⟨⟨_, rfl⟩, wr_done HP HT HB2 HG (by rw [byC_append, List.length_append]; exact HO.out) HW⟩
set_option maxHeartbeats 2000000 in
set_option maxRecDepth 100000 in
theorem len_calls (b : Nat) (p v : Value) (l : List UInt8) (bad : Bool) (w : World) (h : Pr w b p v l bad) :
    Calls Tryd.prog 32 #[.pointer (some ⟨b, 0, none⟩)] w fun e w' => e = .returned (.int .i64 (l.length : Int)) ∧ w' = w := by
  have c1 := h.c1
  obtain ⟨ao, cap, rfl⟩ : ∃ ao cap, v = .slice ao l.length cap := by
    rcases h.row.2 with ⟨hv, h0⟩ | ⟨g, cap, cur, hv, _⟩
    · exact ⟨none, 0, by rw [hv, h0]⟩
    · exact ⟨_, _, hv⟩
  clear h
  go_enter Tryd.func32, Tryd.ntmps32
  go_wp2_with fail
  go_ret
  exact ⟨rfl, rfl⟩
theorem turn_freeze {M : Fp} (w : World) {p : Addr} (hp : M p.block) (n : Nat) : TurnM M w (w.freeze p n) := by
  unfold World.freeze
  split
  · exact TurnM.refl _ _
  · exact ⟨rfl, rfl, rfl, by simp, fun k hk hn => by
      simp only [Array.getElem?_modify]
      rw [if_neg (fun e => hn (by rw [← e]; exact hp))]⟩
set_option maxHeartbeats 2000000 in
set_option maxRecDepth 100000 in
theorem string_calls (b : Nat) (p v : Value) (l : List UInt8) (bad : Bool) (w : World) (h : Pr w b p v l bad) (h0 : l ≠ []) :
    Calls Tryd.prog 33 #[.pointer (some ⟨b, 0, none⟩)] w fun e w' => e = .returned (.string ⟨l.toArray⟩) ∧ TurnM (PrM b v) w w' := by
  have hl0 : l.length ≠ 0 := by simpa using h0
  have hown := h.row
  obtain ⟨g, cap, cur, rfl, hbg, hg, hnc, hcm, hcs, htake⟩ : ∃ g cap cur, v = .slice (some ⟨g, 0, none⟩) l.length cap ∧ b + 1 ≤ g ∧ w.heap[g]? = some (.cells cur 5 (0, 0)) ∧ l.length ≤ cap ∧ cap ≤ maxLen ∧ cur.size = cap * 1 ∧ cur.toList.take (l.length * 1) = byC l := by
    rcases hown.2 with ⟨_, hz⟩ | ⟨g, cap, cur, hv, r⟩
    · exact absurd hz hl0
    · exact ⟨g, cap, cur, hv, r⟩
  have c1 : w.drew.cell? ⟨b, 1, none⟩ = some (.slice (some ⟨g, 0, none⟩) l.length cap) := h.c1
  have hSD : (Builtin.unsafeSliceData_ #[48] 90 #[.slice (some ⟨g, 0, none⟩) l.length cap]).run Tryd.prog w.drew = .ok (.pointer (some ⟨g, 0, none⟩)) w.drew :=
    Lib.run_unsafeSliceData_row _ _ _ _ _ _ (by omega)
  have hUS : (Builtin.unsafeString_ #[90, 3] 9 #[.pointer (some ⟨g, 0, none⟩), .int .i64 l.length]).run Tryd.prog w.drew = .ok (.string ⟨l.toArray⟩) (w.drew.freeze ⟨g, 0, none⟩ l.length) := by
    refine Lib.run_unsafeString_row w.drew 90 3 9 5 Tryd.underlying90 cellsB g cur.size (by have hg' : w.drew.heap[g]? = some (.cells cur 5 (0, 0)) := hg; simp [World.shape?, hg']) l h0 (by omega) (by unfold maxLen at hcm; omega) ?_
    intro j x hx
    have := hown.cells (g := g) rfl j (.int .u8 x.toNat) (by simp [byC, Lib.byteCells, hx])
    exact this
  clear h hown htake
  go_enter Tryd.func33, Tryd.ntmps33
  go_wp2
  go_region
  all_goals (go_wp2; go_ret; exact ⟨rfl, (TurnM.drew _ w).trans (turn_freeze (M := PrM b (.slice (some ⟨g, 0, none⟩) l.length cap)) w.drew (p := ⟨g, 0, none⟩) (.inr rfl) _)⟩)
end Go.Proofs.YtipccndoffcfiaaDoor.Script
