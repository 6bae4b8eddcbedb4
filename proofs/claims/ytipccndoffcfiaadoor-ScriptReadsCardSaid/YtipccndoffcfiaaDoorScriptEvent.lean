/- script.reader's event, as it is called. -/
import Derived.Test.YtipccndoffcfiaaDoorScriptSet
namespace Go.Proofs.YtipccndoffcfiaaDoor.Script
open Go.RowKit Go.Proofs.YtipccndoffcfiaaDoor.PRef Go.Proofs.YtipccndoffcfiaaDoorW.PrintWords Go.Proofs.YtipccndoffcfiaaDoorW.PrintLast
attribute [local go_sem] Oper.semAt_some
set_option linter.unusedVariables false
set_option linter.unusedSimpArgs false
/-- The row of events is kept where another block turns. -/
theorem R_kept {W W' : World} {B : Nat} {v : Value} {l : List S47} (h : Kd.R k47 47 W B (fun _ => True) v l) (hb : ∀ k, B ≤ k → k < W.heap.size → W'.heap[k]? = W.heap[k]?) : Kd.R k47 47 W' B (fun _ => True) v l :=
  Kd.R_mono (Kd.R_move (Kd.R_bound h) (fun k hk => hb k hk.2.1 hk.2.2.1)) (fun _ hk => hk.1)
theorem infoEv : (Tryd.prog.info? 47).map (fun i => (i.zero, i.size, i.bytes)) = some (some (.agg #[.int .i64 0, .int .i64 0, .string ⟨#[]⟩]), 3, 32) := by kernel_rfl
/-- The reader: its numbers, its events. -/
structure Rdr (W : World) (rb : Nat) (cs : List Int) (esv : Value) (es : List S47) : Prop where
  blk : Blk W rb 53 (cs.map (Value.int .i64) ++ [esv])
  len : cs.length = 5
  row : Kd.R k47 47 W (rb + 1) (fun _ => True) esv es
theorem Rdr.below {W W' : World} {rb : Nat} {cs : List Int} {esv : Value} {es : List S47} (h : Rdr W rb cs esv es) (hb : Below W.heap.size W W') : Rdr W' rb cs esv es := ⟨h.blk.below hb, h.len, Kd.R_below h.row hb⟩
theorem Rdr.turn {W W' : World} {rb b : Nat} {cs : List Int} {esv : Value} {es : List S47} (h : Rdr W rb cs esv es) (ht : Turn b W W') (hb : W.heap.size ≤ b) : Rdr W' rb cs esv es :=
  ⟨h.blk.turn ht (by have := h.blk.lt; omega), h.len, R_kept h.row (fun k _ hk => ht.block k hk (by omega))⟩
/-- What two numbers say. -/
def evL (l : List ByteArray) : Option S47 :=
  match (if l.length = 2 then l.mapM numB else none) with
  | some [k, x] => if k = 1 then none else some ⟨(k : Int), (x : Int), ⟨#[]⟩⟩
  | _ => none
theorem upd_two (ns : List Nat) (h : ns.length ≤ 2) : ∃ x y : Int, upd [.int .i64 0, .int .i64 0, .string ⟨#[]⟩] ns = [.int .i64 x, .int .i64 y, .string ⟨#[]⟩] ∧ ∀ k z, ns = [k, z] → x = (k : Int) ∧ y = (z : Int) := by
  match ns with
  | [] => exact ⟨0, 0, rfl, fun k z h => by cases h⟩
  | [a] => exact ⟨a, 0, rfl, fun k z h => by cases h⟩
  | [a, b] => exact ⟨a, b, rfl, fun k z h => by simp only [List.cons.injEq, and_true] at h; obtain ⟨rfl, rfl⟩ := h; exact ⟨rfl, rfl⟩⟩
  | a :: b :: c :: r => simp at h
theorem push2 (w : World) (o o' : Obj) : Below w.heap.size w ((w.alloc o).alloc o') := (below_push w o).trans ((below_push _ o').mono (by simp))
theorem ptrs_two (w : World) {o : Obj} {w' : World} (h : w' = (w.alloc o).alloc (.cells (ptrs w.heap.size 2).toArray 95)) : Blk w' (w.heap.size + 1) 95 (ptrs w.heap.size 2) := by
  subst h
  have := ptrs_alloc (w.alloc o) 0 95 (ptrs w.heap.size 2)
  rwa [show (w.alloc o).heap.size = w.heap.size + 1 by simp] at this
theorem ev_two (w : World) (o' : Obj) : Blk ((w.alloc (.cells #[.int .i64 0, .int .i64 0, .string ⟨#[]⟩] 47)).alloc o') w.heap.size 47 [.int .i64 0, .int .i64 0, .string ⟨#[]⟩] :=
  (ptrs_alloc w 0 47 [.int .i64 0, .int .i64 0, .string ⟨#[]⟩]).below (below_push _ o')
theorem push_drew (w : World) (o : Obj) : Below w.heap.size w (w.drew.alloc o) := (drewB w).trans ((below_push _ o).mono (Nat.le_refl _))
theorem ev_keep {rb b : Nat} {x y : Int} {v : Value} {w w' : World} (h5 : w.cell? ⟨rb, 5, none⟩ = some v) (h0 : w.cell? ⟨b, 0, none⟩ = some (.int .i64 x)) (h1 : w.cell? ⟨b, 1, none⟩ = some (.int .i64 y)) (h2 : w.cell? ⟨b, 2, none⟩ = some (.string ⟨#[]⟩)) (hb : Below w.heap.size w w') :
    w'.cell? ⟨rb, 5, none⟩ = some v ∧ w'.cell? ⟨b, 0, none⟩ = some (.int .i64 x) ∧ w'.cell? ⟨b, 1, none⟩ = some (.int .i64 y) ∧ w'.cell? ⟨b, 2, none⟩ = some (.string ⟨#[]⟩) :=
  ⟨(hb.cell (World.block_lt_of_cell? w _ h5)).trans h5, (hb.cell (World.block_lt_of_cell? w _ h0)).trans h0, (hb.cell (World.block_lt_of_cell? w _ h1)).trans h1, (hb.cell (World.block_lt_of_cell? w _ h2)).trans h2⟩
theorem ev_keep2 {rb b : Nat} {x y : Int} {v v0 : Value} {w1 w3 : World} (h5 : w1.cell? ⟨rb, 5, none⟩ = some v) (h0 : w1.cell? ⟨b, 0, none⟩ = some (.int .i64 x)) (h1 : w1.cell? ⟨b, 1, none⟩ = some (.int .i64 y)) (h2 : w1.cell? ⟨b, 2, none⟩ = some (.string ⟨#[]⟩))
    (hb : Below (rb + 1) w1 w3) (hg : w1.drew.grownBy w3 v0.ownBlock) (hn : ∀ k, v0.ownBlock = some k → k ≠ b) : w3.cell? ⟨rb, 5, none⟩ = some v ∧ w3.cell? ⟨b, 0, none⟩ = some (.int .i64 x) ∧ w3.cell? ⟨b, 1, none⟩ = some (.int .i64 y) ∧ w3.cell? ⟨b, 2, none⟩ = some (.string ⟨#[]⟩) := by
  have hlt : b < w1.heap.size := World.block_lt_of_cell? w1 _ h0
  have e : w3.heap[b]? = w1.heap[b]? := hg.block b hlt (fun e => hn b e.symm rfl)
  have key : ∀ (j : Nat) (u : Value), w1.cell? ⟨b, j, none⟩ = some u → w3.cell? ⟨b, j, none⟩ = some u := fun j u h => by
    rw [← h]
    simp only [World.cell?, e]
  exact ⟨(hb.cell (by simp)).trans h5, key 0 _ h0, key 1 _ h1, key 2 _ h2⟩
theorem ev_none {l : List ByteArray} (h : none = (if l.length = 2 then l.mapM numB else none)) : evL l = none := by unfold evL; rw [← h]
theorem two_of {l : List ByteArray} {ms : List Nat} (h : some ms = (if l.length = 2 then l.mapM numB else none)) : ∃ k z, ms = [k, z] := by
  have hl := len5 h rfl
  match ms, hl with
  | [k, z], _ => exact ⟨k, z, rfl⟩
theorem ev_bad {l : List ByteArray} {ms : List Nat} {x y : Int} (h : some ms = (if l.length = 2 then l.mapM numB else none)) (hs : ∀ k z, some ms = some [k, z] → x = (k : Int) ∧ y = (z : Int)) (hx : x = 1) : (evL l).isSome = false := by
  obtain ⟨k, z, rfl⟩ := two_of h
  obtain ⟨e1, e2⟩ := hs k z rfl
  unfold evL
  rw [← h]
  simp only
  rw [if_pos (by omega)]
  rfl
theorem ev_good {l : List ByteArray} {ms : List Nat} {x y : Int} (h : some ms = (if l.length = 2 then l.mapM numB else none)) (hs : ∀ k z, some ms = some [k, z] → x = (k : Int) ∧ y = (z : Int)) (hx : ¬ x = 1) : (evL l).isSome = true := by
  obtain ⟨k, z, rfl⟩ := two_of h
  obtain ⟨e1, e2⟩ := hs k z rfl
  unfold evL
  rw [← h]
  simp only
  rw [if_neg (by omega)]
  rfl
theorem ev_val {l : List ByteArray} {r : Option (List Nat)} {x y : Int} (h : r = (if l.length = 2 then l.mapM numB else none)) (hs : ∀ k z, r = some [k, z] → x = (k : Int) ∧ y = (z : Int)) : ∀ ev, evL l = some ev → ev = ⟨x, y, ⟨#[]⟩⟩ := by
  intro ev he
  unfold evL at he
  rw [← h] at he
  split at he
  · rename_i k z
    obtain ⟨e1, e2⟩ := hs k z rfl
    split at he
    · cases he
    · cases he
      rw [e1, e2]
  · cases he
def EvPost (l : List ByteArray) (rb : Nat) (cs : List Int) (es : List S47) (w : World) (e : Ending) (w' : World) : Prop :=
  ∃ (esv' : Value) (es' : List S47), e = .returned (.bool (evL l).isSome) ∧ Rdr w' rb cs esv' es' ∧ Below rb w w' ∧ ∀ ev, evL l = some ev → es' = es ++ [ev]
theorem set_five (cs : List Int) (u v : Value) (h : cs.length = 5) : (cs.map (Value.int .i64) ++ [u]).set 5 v = cs.map (Value.int .i64) ++ [v] := by
  rw [List.set_append_right _ _ (by simp; omega)]
  simp [h]
theorem Rdr.push {w3 : World} {rb : Nat} {cs : List Int} {esv esv' : Value} {es' : List S47} (hb : Blk w3 rb 53 (cs.map (Value.int .i64) ++ [esv])) (h5 : cs.length = 5) (ho : Kd.R k47 47 w3 (rb + 1) (fun _ => True) esv' es') : Rdr (w3.setCell ⟨rb, 5, none⟩ esv') rb cs esv' es' :=
  ⟨by have := hb.set 5 esv'; rwa [set_five cs esv esv' h5] at this, h5, R_kept ho (fun k hk _ => Below.heap_setCell w3 ⟨rb, 5, none⟩ esv' k (by show k ≠ rb; omega))⟩
theorem ev_done {l : List ByteArray} {rb : Nat} {cs : List Int} {es : List S47} {w w1 w3 : World} {esv esv' v' : Value} {x y : Int} {bo : Bool} (h1 : Hid (Rdr w1 rb cs esv es)) (ho : Hid (Kd.R k47 47 w3 (rb + 1) (fun _ => True) esv' (es ++ [⟨x, y, ⟨#[]⟩⟩]))) (hb : Hid (Below (rb + 1) w1 w3)) (ht : Hid (Turn w.heap.size w w1)) (hlt : rb < w.heap.size)
    (hv : v' = esv') (hbo : (evL l).isSome = bo) (hev : ∀ ev, evL l = some ev → ev = ⟨x, y, ⟨#[]⟩⟩) : EvPost l rb cs es w (.returned (.bool bo)) (w3.setCell ⟨rb, 5, none⟩ v') := by
  subst hv
  have hblk : Blk w3 rb 53 (cs.map (Value.int .i64) ++ [esv]) := (hb.out.block rb (by omega)).trans h1.out.blk
  refine ⟨v', _, by rw [hbo], Rdr.push hblk h1.out.len ho.out, ?_, fun ev he => by rw [hev ev he]⟩
  have b1 : Below rb w w1 := ht.out.below (by omega) (by omega)
  exact (b1.trans (hb.out.mono (by omega))).setCell (Nat.le_refl _) _
set_option maxHeartbeats 8000000 in
set_option maxRecDepth 100000 in
theorem event_calls (A : Option Addr) (c : Nat) (l : List ByteArray) (rb : Nat) (cs : List Int) (esv : Value) (es : List S47) (w : World) (hl : TX w A c l) (hz : ∀ x ∈ l, x.size ≤ 1000000) (hn : l.length ≤ 1000000)
    (hr : Rdr w rb cs esv es) (h6 : 6 ≤ rb) (he : Env w) (hes : es.length ≤ 1000000) :
    Calls Tryd.prog 40 #[.pointer (some ⟨rb, 0, none⟩), .slice A l.length c] w (EvPost l rb cs es w) := by
  have HL := Lib.hid hl
  have HE := Lib.hid he
  have HZ := Lib.hid hz
  have HR := Lib.hid hr
  have hlt := hr.blk.lt
  have HNE : Hid (l ≠ [] → ∀ ad, A = some ad → ad.block ≠ w.heap.size) := Lib.hid (fun h ad e => by have := hl.lt h ad e; omega)
  clear hl he hz hr
  go_enter Tryd.func40, Tryd.ntmps40
  go_wp2_with fail
  refine (numbers_calls A c l (w.heap.size + 1) 2 w.heap.size 47 95 [.int .i64 0, .int .i64 0, .string ⟨#[]⟩] _ (HL.out.below (push2 w _ _)) HNE.out HZ.out hn (ptrs_two w rfl) (by omega) (ev_two w _) (by simp) (by omega) (HE.out.below (push2 w _ _)) (by omega)).mono ?_
  rintro e w1 ⟨r, hr, rfl, ht, hs, ns, hns, hk⟩
  obtain ⟨x, y, hup, hxy⟩ := upd_two ns hns
  rw [hup] at hk
  have HT : Hid (Turn w.heap.size w w1) := Lib.hid ((Turn.of_below (push2 w _ _)).trans ht)
  have hR1 := HR.out.turn HT.out (Nat.le_refl _)
  have k0 := hk.cell 0 (by simp)
  have k1 := hk.cell 1 (by simp)
  have k2 := hk.cell 2 (by simp)
  have k5 := hR1.blk.cell 5 (by simp; have := hR1.len; omega)
  have kf := hR1.blk.free 5
  simp only [List.getElem_cons_zero, List.getElem_cons_succ] at k0 k1 k2
  have e5 : (cs.map (Value.int .i64) ++ [esv])[5]'(by simp; have := hR1.len; omega) = esv := by
    rw [List.getElem_append_right (by simp; have := hR1.len; omega)]
    simp
  rw [e5] at k5
  have HR1 := Lib.hid hR1
  have HRr := Lib.hid hr
  have HS : Hid (∀ k z, r = some [k, z] → x = (k : Int) ∧ y = (z : Int)) := Lib.hid (fun k z h => by
    have h1 := hs _ h
    have h2 : Blk w1 w.heap.size 47 [.int .i64 x, .int .i64 y, .string ⟨#[]⟩] := hk
    unfold Blk at h1 h2
    rw [h1] at h2
    simp [upd] at h2
    omega)
  clear hr ht hs hk hup hxy e5 hR1

  have hlt1 : rb + 1 ≤ w1.heap.size := by have := HT.out.size; omega
  have HOB : Hid (∀ k, esv.ownBlock = some k → k ≠ w.heap.size) := Lib.hid (fun k e => by have := Kd.R_lt HR.out.row k e; omega)
  have HEV := Lib.hid (ev_val HRr.out HS.out)
  cases r with
  | none =>
    go_wp2_with fail
    refine wp_region_noPanic ?_
    refine start_ (n := 11) (S := fun w' => w'.cell? ⟨rb, 5, none⟩ = some esv ∧ w'.cell? ⟨w.heap.size, 0, none⟩ = some (.int .i64 x) ∧ w'.cell? ⟨w.heap.size, 1, none⟩ = some (.int .i64 y) ∧ w'.cell? ⟨w.heap.size, 2, none⟩ = some (.string ⟨#[]⟩)) (ds := [10]) #[false, false, false, false, false, false, false, false, false, false, false] (by rfl) (by rfl) (by rfl) ⟨k5, k0, k1, k2⟩ (fun hHeld => ?_)
    refine take_ (i := 0) (N := some 17) (v := ?_) (a' := ?_) #[true, false, false, false, false, false, false, false, false, false, false] rfl rfl (by kernel_rfl) (fun _ _ _ h => h) (Or.inl ⟨by rfl, ?_⟩) hHeld ?_ ?_
    rotate_left
    · rintro w' ⟨s0, s1, s2, s3⟩
      go_simp
      try with_reducible rfl
    rotate_left
    · simp only [Act.put, List.setIfInBounds_toArray, List.set_cons_zero, List.set_cons_succ]
      rfl
    refine take_ (i := 1) (N := some 18) (v := ?_) (a' := ?_) #[true, true, false, false, false, false, false, false, false, false, false] rfl rfl (by kernel_rfl) (fun _ _ _ h => h) (Or.inl ⟨by rfl, ?_⟩) hHeld ?_ ?_
    rotate_left
    · rintro w' ⟨s0, s1, s2, s3⟩
      go_simp
      try with_reducible rfl
    rotate_left
    · simp only [Act.put, List.setIfInBounds_toArray, List.set_cons_zero, List.set_cons_succ]
      rfl
    refine take_ (i := 2) (N := some 19) (v := ?_) (a' := ?_) #[true, true, true, false, false, false, false, false, false, false, false] rfl rfl (by kernel_rfl) (fun _ _ _ h => h) (Or.inl ⟨by rfl, ?_⟩) hHeld ?_ ?_
    rotate_left
    · rintro w' ⟨s0, s1, s2, s3⟩
      go_simp
      try with_reducible rfl
    rotate_left
    · simp only [Act.put, List.setIfInBounds_toArray, List.set_cons_zero, List.set_cons_succ]
      rfl
    refine take_ (i := 3) (N := some 20) (v := ?_) (a' := ?_) #[true, true, true, true, false, false, false, false, false, false, false] rfl rfl (by kernel_rfl) (fun _ _ _ h => h) (Or.inl ⟨by rfl, ?_⟩) hHeld ?_ ?_
    rotate_left
    · rintro w' ⟨s0, s1, s2, s3⟩
      go_simp
      try with_reducible rfl
    rotate_left
    · simp only [Act.put, List.setIfInBounds_toArray, List.set_cons_zero, List.set_cons_succ]
      rfl
    refine take_ (i := 4) (N := some 21) (v := ?_) (a' := ?_) #[true, true, true, true, true, false, false, false, false, false, false] rfl rfl (by kernel_rfl) (fun _ _ _ h => h) (Or.inl ⟨by rfl, ?_⟩) hHeld ?_ ?_
    rotate_left
    · rintro w' ⟨s0, s1, s2, s3⟩
      go_simp
      try with_reducible rfl
    rotate_left
    · simp only [Act.put, List.setIfInBounds_toArray, List.set_cons_zero, List.set_cons_succ]
      rfl
    refine take_ (i := 5) (N := some 22) (v := ?_) (a' := ?_) #[true, true, true, true, true, true, false, false, false, false, false] rfl rfl (by kernel_rfl) (fun _ _ _ h => h) (Or.inl ⟨by rfl, ?_⟩) hHeld ?_ ?_
    rotate_left
    · rintro w' ⟨s0, s1, s2, s3⟩
      go_simp
      try with_reducible rfl
    rotate_left
    · simp only [Act.put, List.setIfInBounds_toArray, List.set_cons_zero, List.set_cons_succ]
      rfl
    refine one_ (i := 6) (N := some 23) #[true, true, true, true, true, true, true, false, false, false, false] rfl rfl (by kernel_rfl) (by decide) (fun K hK => ?_)
    go_simp
    have hh1 : (fun w' => w'.cell? ⟨rb, 5, none⟩ = some esv ∧ w'.cell? ⟨w.heap.size, 0, none⟩ = some (.int .i64 x) ∧ w'.cell? ⟨w.heap.size, 1, none⟩ = some (.int .i64 y) ∧ w'.cell? ⟨w.heap.size, 2, none⟩ = some (.string ⟨#[]⟩)) (w1.drew.alloc (.cells #[.int .i64 x, .int .i64 y, .string ⟨#[]⟩] 47)) := ev_keep k5 k0 k1 k2 (push_drew w1 _)
    refine hK.out _ _ hh1 (fun hHeld => ?_)
    clear hK K
    try simp only [Act.put, List.setIfInBounds_toArray, List.set_cons_zero, List.set_cons_succ]
    refine one_ (i := 7) (N := some 24) #[true, true, true, true, true, true, true, true, false, false, false] rfl rfl (by kernel_rfl) (by decide) (fun K hK => ?_)
    refine Kd.R_append_step k47 (w0 := w1) (rb + 1) (by rfl) (.tmp 21) (.tmp 23) 29 47 (.agg #[.int .i64 0, .int .i64 0, .string ⟨#[]⟩]) 32 (by rfl) Tryd.underlying29 infoEv rfl (by decide) (by omega) esv es ⟨x, y, ⟨#[]⟩⟩ [.int .i64 x, .int .i64 y, .string ⟨#[]⟩] (fun _ => True) (fun _ => False) (by rfl) (by rfl) (k47_mkM _ _ _ ⟨x, y, ⟨#[]⟩⟩) (fun _ h => h.elim) (fun _ _ => trivial) (Kd.R_below HR1.out.row (drewB w1)) ((drewB w1).mono hlt1) hlt1 (by omega) ?_
    intro esv' w3 ho hb3 hg hat
    obtain ⟨A9, c9, e9⟩ := Kd.R_slice ho
    subst e9
    have hh2 : (fun w' => w'.cell? ⟨rb, 5, none⟩ = some esv ∧ w'.cell? ⟨w.heap.size, 0, none⟩ = some (.int .i64 x) ∧ w'.cell? ⟨w.heap.size, 1, none⟩ = some (.int .i64 y) ∧ w'.cell? ⟨w.heap.size, 2, none⟩ = some (.string ⟨#[]⟩)) w3 := ev_keep2 k5 k0 k1 k2 hb3 hg HOB.out
    have HO := Lib.hid ho
    have HB3 := Lib.hid hb3
    clear ho hb3 hg hat
    refine hK.out _ _ hh2 (fun hHeld => ?_)
    clear hK K hh1
    try simp only [Act.put, List.setIfInBounds_toArray, List.set_cons_zero, List.set_cons_succ]
    refine take_ (i := 8) (N := some 25) (v := ?_) (a' := ?_) #[true, true, true, true, true, true, true, true, true, false, false] rfl rfl (by kernel_rfl) (fun _ _ _ h => h) (Or.inl ⟨by rfl, ?_⟩) hHeld ?_ ?_
    rotate_left
    · rintro w' ⟨s0, s1, s2, s3⟩
      go_simp
      try with_reducible rfl
    rotate_left
    · simp only [Act.put, List.setIfInBounds_toArray, List.set_cons_zero, List.set_cons_succ]
      rfl
    refine take_ (i := 9) (N := some 26) (v := ?_) (a' := ?_) #[true, true, true, true, true, true, true, true, true, true, false] rfl rfl (by kernel_rfl) (fun _ _ _ h => h) (Or.inl ⟨by rfl, ?_⟩) hHeld ?_ ?_
    rotate_left
    · rintro w' ⟨s0, s1, s2, s3⟩
      go_simp
      try with_reducible rfl
    rotate_left
    · simp only [Act.put, List.setIfInBounds_toArray, List.set_cons_zero, List.set_cons_succ]
      rfl
    refine last_ (i := 10) (N := none) #[true, true, true, true, true, true, true, true, true, true, true] rfl rfl (by kernel_rfl) (by decide) (fun K hK => ?_)
    have k53 := hh2.1
    have kf3 : w3.frozen? ⟨rb, 5, none⟩ = false := by rw [HB3.out.frozen (by simp)]; exact kf
    clear hh2 hHeld
    go_simp
    refine hK.out _ _ ?_
    clear hK K
    refine done_ (by kernel_rfl) ?_
    refine NoPanic.normal ?_
    go_wp2_with fail
    go_ret
    exact ev_done HR1 HO HB3 HT hlt (by first | rfl | simp) (by rw [ev_none HRr.out]; rfl) HEV.out
  | some ms =>
    by_cases hx : x = 1
    · have d1 : decide (x = 1) = true := decide_eq_true hx
      have d1' : (x == 1) = true := by rw [hx]; rfl
      have d2 : decide (¬ x = 1) = false := decide_eq_false (fun h => h hx)
      have HX1 := Lib.hid hx
      clear hx
      go_wp2_with fail
      refine wp_region_noPanic ?_
      refine start_ (n := 11) (S := fun w' => w'.cell? ⟨rb, 5, none⟩ = some esv ∧ w'.cell? ⟨w.heap.size, 0, none⟩ = some (.int .i64 x) ∧ w'.cell? ⟨w.heap.size, 1, none⟩ = some (.int .i64 y) ∧ w'.cell? ⟨w.heap.size, 2, none⟩ = some (.string ⟨#[]⟩)) (ds := [10]) #[false, false, false, false, false, false, false, false, false, false, false] (by rfl) (by rfl) (by rfl) ⟨k5, k0, k1, k2⟩ (fun hHeld => ?_)
      refine take_ (i := 0) (N := some 17) (v := ?_) (a' := ?_) #[true, false, false, false, false, false, false, false, false, false, false] rfl rfl (by kernel_rfl) (fun _ _ _ h => h) (Or.inl ⟨by rfl, ?_⟩) hHeld ?_ ?_
      rotate_left
      · rintro w' ⟨s0, s1, s2, s3⟩
        go_simp
        try with_reducible rfl
      rotate_left
      · simp only [Act.put, List.setIfInBounds_toArray, List.set_cons_zero, List.set_cons_succ]
        rfl
      refine take_ (i := 1) (N := some 18) (v := ?_) (a' := ?_) #[true, true, false, false, false, false, false, false, false, false, false] rfl rfl (by kernel_rfl) (fun _ _ _ h => h) (Or.inl ⟨by rfl, ?_⟩) hHeld ?_ ?_
      rotate_left
      · rintro w' ⟨s0, s1, s2, s3⟩
        go_simp
        try with_reducible rfl
      rotate_left
      · simp only [Act.put, List.setIfInBounds_toArray, List.set_cons_zero, List.set_cons_succ]
        rfl
      refine take_ (i := 2) (N := some 19) (v := ?_) (a' := ?_) #[true, true, true, false, false, false, false, false, false, false, false] rfl rfl (by kernel_rfl) (fun _ _ _ h => h) (Or.inl ⟨by rfl, ?_⟩) hHeld ?_ ?_
      rotate_left
      · rintro w' ⟨s0, s1, s2, s3⟩
        go_simp
        try with_reducible rfl
      rotate_left
      · simp only [Act.put, List.setIfInBounds_toArray, List.set_cons_zero, List.set_cons_succ]
        rfl
      refine take_ (i := 3) (N := some 20) (v := ?_) (a' := ?_) #[true, true, true, true, false, false, false, false, false, false, false] rfl rfl (by kernel_rfl) (fun _ _ _ h => h) (Or.inl ⟨by rfl, ?_⟩) hHeld ?_ ?_
      rotate_left
      · rintro w' ⟨s0, s1, s2, s3⟩
        go_simp
        try with_reducible rfl
      rotate_left
      · simp only [Act.put, List.setIfInBounds_toArray, List.set_cons_zero, List.set_cons_succ]
        rfl
      refine take_ (i := 4) (N := some 21) (v := ?_) (a' := ?_) #[true, true, true, true, true, false, false, false, false, false, false] rfl rfl (by kernel_rfl) (fun _ _ _ h => h) (Or.inl ⟨by rfl, ?_⟩) hHeld ?_ ?_
      rotate_left
      · rintro w' ⟨s0, s1, s2, s3⟩
        go_simp
        try with_reducible rfl
      rotate_left
      · simp only [Act.put, List.setIfInBounds_toArray, List.set_cons_zero, List.set_cons_succ]
        rfl
      refine take_ (i := 5) (N := some 22) (v := ?_) (a' := ?_) #[true, true, true, true, true, true, false, false, false, false, false] rfl rfl (by kernel_rfl) (fun _ _ _ h => h) (Or.inl ⟨by rfl, ?_⟩) hHeld ?_ ?_
      rotate_left
      · rintro w' ⟨s0, s1, s2, s3⟩
        go_simp
        try with_reducible rfl
      rotate_left
      · simp only [Act.put, List.setIfInBounds_toArray, List.set_cons_zero, List.set_cons_succ]
        rfl
      refine one_ (i := 6) (N := some 23) #[true, true, true, true, true, true, true, false, false, false, false] rfl rfl (by kernel_rfl) (by decide) (fun K hK => ?_)
      go_simp
      have hh1 : (fun w' => w'.cell? ⟨rb, 5, none⟩ = some esv ∧ w'.cell? ⟨w.heap.size, 0, none⟩ = some (.int .i64 x) ∧ w'.cell? ⟨w.heap.size, 1, none⟩ = some (.int .i64 y) ∧ w'.cell? ⟨w.heap.size, 2, none⟩ = some (.string ⟨#[]⟩)) (w1.drew.alloc (.cells #[.int .i64 x, .int .i64 y, .string ⟨#[]⟩] 47)) := ev_keep k5 k0 k1 k2 (push_drew w1 _)
      refine hK.out _ _ hh1 (fun hHeld => ?_)
      clear hK K
      try simp only [Act.put, List.setIfInBounds_toArray, List.set_cons_zero, List.set_cons_succ]
      refine one_ (i := 7) (N := some 24) #[true, true, true, true, true, true, true, true, false, false, false] rfl rfl (by kernel_rfl) (by decide) (fun K hK => ?_)
      refine Kd.R_append_step k47 (w0 := w1) (rb + 1) (by rfl) (.tmp 21) (.tmp 23) 29 47 (.agg #[.int .i64 0, .int .i64 0, .string ⟨#[]⟩]) 32 (by rfl) Tryd.underlying29 infoEv rfl (by decide) (by omega) esv es ⟨x, y, ⟨#[]⟩⟩ [.int .i64 x, .int .i64 y, .string ⟨#[]⟩] (fun _ => True) (fun _ => False) (by rfl) (by rfl) (k47_mkM _ _ _ ⟨x, y, ⟨#[]⟩⟩) (fun _ h => h.elim) (fun _ _ => trivial) (Kd.R_below HR1.out.row (drewB w1)) ((drewB w1).mono hlt1) hlt1 (by omega) ?_
      intro esv' w3 ho hb3 hg hat
      obtain ⟨A9, c9, e9⟩ := Kd.R_slice ho
      subst e9
      have hh2 : (fun w' => w'.cell? ⟨rb, 5, none⟩ = some esv ∧ w'.cell? ⟨w.heap.size, 0, none⟩ = some (.int .i64 x) ∧ w'.cell? ⟨w.heap.size, 1, none⟩ = some (.int .i64 y) ∧ w'.cell? ⟨w.heap.size, 2, none⟩ = some (.string ⟨#[]⟩)) w3 := ev_keep2 k5 k0 k1 k2 hb3 hg HOB.out
      have HO := Lib.hid ho
      have HB3 := Lib.hid hb3
      clear ho hb3 hg hat
      refine hK.out _ _ hh2 (fun hHeld => ?_)
      clear hK K hh1
      try simp only [Act.put, List.setIfInBounds_toArray, List.set_cons_zero, List.set_cons_succ]
      refine take_ (i := 8) (N := some 25) (v := ?_) (a' := ?_) #[true, true, true, true, true, true, true, true, true, false, false] rfl rfl (by kernel_rfl) (fun _ _ _ h => h) (Or.inl ⟨by rfl, ?_⟩) hHeld ?_ ?_
      rotate_left
      · rintro w' ⟨s0, s1, s2, s3⟩
        go_simp
        try with_reducible rfl
      rotate_left
      · simp only [Act.put, List.setIfInBounds_toArray, List.set_cons_zero, List.set_cons_succ]
        rfl
      refine take_ (i := 9) (N := some 26) (v := ?_) (a' := ?_) #[true, true, true, true, true, true, true, true, true, true, false] rfl rfl (by kernel_rfl) (fun _ _ _ h => h) (Or.inl ⟨by rfl, ?_⟩) hHeld ?_ ?_
      rotate_left
      · rintro w' ⟨s0, s1, s2, s3⟩
        go_simp
        try with_reducible rfl
      rotate_left
      · simp only [Act.put, List.setIfInBounds_toArray, List.set_cons_zero, List.set_cons_succ]
        rfl
      refine last_ (i := 10) (N := none) #[true, true, true, true, true, true, true, true, true, true, true] rfl rfl (by kernel_rfl) (by decide) (fun K hK => ?_)
      have k53 := hh2.1
      have kf3 : w3.frozen? ⟨rb, 5, none⟩ = false := by rw [HB3.out.frozen (by simp)]; exact kf
      clear hh2 hHeld
      go_simp
      refine hK.out _ _ ?_
      clear hK K
      refine done_ (by kernel_rfl) ?_
      refine NoPanic.normal ?_
      go_wp2_with fail
      go_ret
      exact ev_done HR1 HO HB3 HT hlt (by first | rfl | simp) (by rw [ev_bad HRr.out HS.out HX1.out]; simp [HX1.out]) HEV.out
    · have d1 : decide (x = 1) = false := decide_eq_false hx
      have d1' : (x == 1) = false := beq_false_of_ne hx
      have d2 : decide (¬ x = 1) = true := decide_eq_true hx
      have HX1 := Lib.hid hx
      clear hx
      go_wp2_with fail
      refine wp_region_noPanic ?_
      refine start_ (n := 11) (S := fun w' => w'.cell? ⟨rb, 5, none⟩ = some esv ∧ w'.cell? ⟨w.heap.size, 0, none⟩ = some (.int .i64 x) ∧ w'.cell? ⟨w.heap.size, 1, none⟩ = some (.int .i64 y) ∧ w'.cell? ⟨w.heap.size, 2, none⟩ = some (.string ⟨#[]⟩)) (ds := [10]) #[false, false, false, false, false, false, false, false, false, false, false] (by rfl) (by rfl) (by rfl) ⟨k5, k0, k1, k2⟩ (fun hHeld => ?_)
      refine take_ (i := 0) (N := some 17) (v := ?_) (a' := ?_) #[true, false, false, false, false, false, false, false, false, false, false] rfl rfl (by kernel_rfl) (fun _ _ _ h => h) (Or.inl ⟨by rfl, ?_⟩) hHeld ?_ ?_
      rotate_left
      · rintro w' ⟨s0, s1, s2, s3⟩
        go_simp
        try with_reducible rfl
      rotate_left
      · simp only [Act.put, List.setIfInBounds_toArray, List.set_cons_zero, List.set_cons_succ]
        rfl
      refine take_ (i := 1) (N := some 18) (v := ?_) (a' := ?_) #[true, true, false, false, false, false, false, false, false, false, false] rfl rfl (by kernel_rfl) (fun _ _ _ h => h) (Or.inl ⟨by rfl, ?_⟩) hHeld ?_ ?_
      rotate_left
      · rintro w' ⟨s0, s1, s2, s3⟩
        go_simp
        try with_reducible rfl
      rotate_left
      · simp only [Act.put, List.setIfInBounds_toArray, List.set_cons_zero, List.set_cons_succ]
        rfl
      refine take_ (i := 2) (N := some 19) (v := ?_) (a' := ?_) #[true, true, true, false, false, false, false, false, false, false, false] rfl rfl (by kernel_rfl) (fun _ _ _ h => h) (Or.inl ⟨by rfl, ?_⟩) hHeld ?_ ?_
      rotate_left
      · rintro w' ⟨s0, s1, s2, s3⟩
        go_simp
        try with_reducible rfl
      rotate_left
      · simp only [Act.put, List.setIfInBounds_toArray, List.set_cons_zero, List.set_cons_succ]
        rfl
      refine take_ (i := 3) (N := some 20) (v := ?_) (a' := ?_) #[true, true, true, true, false, false, false, false, false, false, false] rfl rfl (by kernel_rfl) (fun _ _ _ h => h) (Or.inl ⟨by rfl, ?_⟩) hHeld ?_ ?_
      rotate_left
      · rintro w' ⟨s0, s1, s2, s3⟩
        go_simp
        try with_reducible rfl
      rotate_left
      · simp only [Act.put, List.setIfInBounds_toArray, List.set_cons_zero, List.set_cons_succ]
        rfl
      refine take_ (i := 4) (N := some 21) (v := ?_) (a' := ?_) #[true, true, true, true, true, false, false, false, false, false, false] rfl rfl (by kernel_rfl) (fun _ _ _ h => h) (Or.inl ⟨by rfl, ?_⟩) hHeld ?_ ?_
      rotate_left
      · rintro w' ⟨s0, s1, s2, s3⟩
        go_simp
        try with_reducible rfl
      rotate_left
      · simp only [Act.put, List.setIfInBounds_toArray, List.set_cons_zero, List.set_cons_succ]
        rfl
      refine take_ (i := 5) (N := some 22) (v := ?_) (a' := ?_) #[true, true, true, true, true, true, false, false, false, false, false] rfl rfl (by kernel_rfl) (fun _ _ _ h => h) (Or.inl ⟨by rfl, ?_⟩) hHeld ?_ ?_
      rotate_left
      · rintro w' ⟨s0, s1, s2, s3⟩
        go_simp
        try with_reducible rfl
      rotate_left
      · simp only [Act.put, List.setIfInBounds_toArray, List.set_cons_zero, List.set_cons_succ]
        rfl
      refine one_ (i := 6) (N := some 23) #[true, true, true, true, true, true, true, false, false, false, false] rfl rfl (by kernel_rfl) (by decide) (fun K hK => ?_)
      go_simp
      have hh1 : (fun w' => w'.cell? ⟨rb, 5, none⟩ = some esv ∧ w'.cell? ⟨w.heap.size, 0, none⟩ = some (.int .i64 x) ∧ w'.cell? ⟨w.heap.size, 1, none⟩ = some (.int .i64 y) ∧ w'.cell? ⟨w.heap.size, 2, none⟩ = some (.string ⟨#[]⟩)) (w1.drew.alloc (.cells #[.int .i64 x, .int .i64 y, .string ⟨#[]⟩] 47)) := ev_keep k5 k0 k1 k2 (push_drew w1 _)
      refine hK.out _ _ hh1 (fun hHeld => ?_)
      clear hK K
      try simp only [Act.put, List.setIfInBounds_toArray, List.set_cons_zero, List.set_cons_succ]
      refine one_ (i := 7) (N := some 24) #[true, true, true, true, true, true, true, true, false, false, false] rfl rfl (by kernel_rfl) (by decide) (fun K hK => ?_)
      refine Kd.R_append_step k47 (w0 := w1) (rb + 1) (by rfl) (.tmp 21) (.tmp 23) 29 47 (.agg #[.int .i64 0, .int .i64 0, .string ⟨#[]⟩]) 32 (by rfl) Tryd.underlying29 infoEv rfl (by decide) (by omega) esv es ⟨x, y, ⟨#[]⟩⟩ [.int .i64 x, .int .i64 y, .string ⟨#[]⟩] (fun _ => True) (fun _ => False) (by rfl) (by rfl) (k47_mkM _ _ _ ⟨x, y, ⟨#[]⟩⟩) (fun _ h => h.elim) (fun _ _ => trivial) (Kd.R_below HR1.out.row (drewB w1)) ((drewB w1).mono hlt1) hlt1 (by omega) ?_
      intro esv' w3 ho hb3 hg hat
      obtain ⟨A9, c9, e9⟩ := Kd.R_slice ho
      subst e9
      have hh2 : (fun w' => w'.cell? ⟨rb, 5, none⟩ = some esv ∧ w'.cell? ⟨w.heap.size, 0, none⟩ = some (.int .i64 x) ∧ w'.cell? ⟨w.heap.size, 1, none⟩ = some (.int .i64 y) ∧ w'.cell? ⟨w.heap.size, 2, none⟩ = some (.string ⟨#[]⟩)) w3 := ev_keep2 k5 k0 k1 k2 hb3 hg HOB.out
      have HO := Lib.hid ho
      have HB3 := Lib.hid hb3
      clear ho hb3 hg hat
      refine hK.out _ _ hh2 (fun hHeld => ?_)
      clear hK K hh1
      try simp only [Act.put, List.setIfInBounds_toArray, List.set_cons_zero, List.set_cons_succ]
      refine take_ (i := 8) (N := some 25) (v := ?_) (a' := ?_) #[true, true, true, true, true, true, true, true, true, false, false] rfl rfl (by kernel_rfl) (fun _ _ _ h => h) (Or.inl ⟨by rfl, ?_⟩) hHeld ?_ ?_
      rotate_left
      · rintro w' ⟨s0, s1, s2, s3⟩
        go_simp
        try with_reducible rfl
      rotate_left
      · simp only [Act.put, List.setIfInBounds_toArray, List.set_cons_zero, List.set_cons_succ]
        rfl
      refine take_ (i := 9) (N := some 26) (v := ?_) (a' := ?_) #[true, true, true, true, true, true, true, true, true, true, false] rfl rfl (by kernel_rfl) (fun _ _ _ h => h) (Or.inl ⟨by rfl, ?_⟩) hHeld ?_ ?_
      rotate_left
      · rintro w' ⟨s0, s1, s2, s3⟩
        go_simp
        try with_reducible rfl
      rotate_left
      · simp only [Act.put, List.setIfInBounds_toArray, List.set_cons_zero, List.set_cons_succ]
        rfl
      refine last_ (i := 10) (N := none) #[true, true, true, true, true, true, true, true, true, true, true] rfl rfl (by kernel_rfl) (by decide) (fun K hK => ?_)
      have k53 := hh2.1
      have kf3 : w3.frozen? ⟨rb, 5, none⟩ = false := by rw [HB3.out.frozen (by simp)]; exact kf
      clear hh2 hHeld
      go_simp
      refine hK.out _ _ ?_
      clear hK K
      refine done_ (by kernel_rfl) ?_
      refine NoPanic.normal ?_
      go_wp2_with fail
      go_ret
      exact ev_done HR1 HO HB3 HT hlt (by first | rfl | simp) (by rw [ev_good HRr.out HS.out HX1.out]; simp [HX1.out]) HEV.out
end Go.Proofs.YtipccndoffcfiaaDoor.Script
