/- script.Print, as it is called. -/
import Derived.Test.YtipccndoffcfiaaDoorScriptPEvent
import Derived.Test.YtipccndoffcfiaaDoorScriptSeq
namespace Go.Proofs.YtipccndoffcfiaaDoor.Script
open Go.RowKit Go.Proofs.YtipccndoffcfiaaDoor.PRef Go.Proofs.YtipccndoffcfiaaDoorW.PrintWords Go.Proofs.YtipccndoffcfiaaDoorW.PrintLast Go.Proofs.YtipccndoffcfiaaDoor.SeqM
attribute [local go_sem] Oper.semAt_some
set_option linter.unusedVariables false
set_option linter.unusedSimpArgs false
/-- What is written of a configuration and events. -/
def textP (cs : List Int) (es : List S47) : List UInt8 := lineW setB (cs.map itoaB) ++ (es.map lineE).flatten
def badP (cs : List Int) (es : List S47) : Bool := cs.any badN || es.any badE
/-- What Print answers. -/
def printP (cs : List Int) (es : List S47) : ByteArray × Int := if badP cs es = true then (⟨#[]⟩, 2) else if 131072 < (textP cs es).length then (⟨#[]⟩, 3) else (⟨(textP cs es).toArray⟩, 0)
def i64 (n : Int) : Prop := -9223372036854775808 ≤ n ∧ n ≤ 9223372036854775807
/-- Events that are printed. -/
def EvOk (e : S47) : Prop := e.f2.size ≤ 1000000 ∧ i64 e.f0 ∧ i64 e.f1
theorem itoa_size (n : Int) (h : i64 n) : (itoaB n).size ≤ 21 := by
  unfold itoaB
  show (Lib.itoa n).toArray.size ≤ 21
  have := Lib.itoa_length_le n h.1 h.2
  simpa using this
theorem lineE_len (e : S47) (h : EvOk e) : (lineE e).length ≤ 2100000 := by
  unfold lineE lineW
  split
  · have := hexP_size e.f2
    have h1 := h.1
    simp only [wordsT, List.map_cons, List.map_nil, List.flatten_cons, List.flatten_nil, List.length_append, List.length_cons, List.length_nil, size_toList]
    show 3 + _ + 1 ≤ _
    omega
  · have h0 := itoa_size e.f0 h.2.1
    have h1 := itoa_size e.f1 h.2.2
    simp only [wordsT, List.map_cons, List.map_nil, List.flatten_cons, List.flatten_nil, List.length_append, List.length_cons, List.length_nil, size_toList]
    show 2 + _ + 1 ≤ _
    omega
theorem linesE_len : ∀ (es : List S47), (∀ e ∈ es, EvOk e) → ((es.map lineE).flatten).length ≤ es.length * 2100000
  | [], _ => by simp
  | e :: es, h => by
    have h1 := lineE_len e (h e (by simp))
    have h2 := linesE_len es (fun x hx => h x (by simp [hx]))
    rw [List.map_cons, List.flatten_cons, List.length_append, List.length_cons]
    omega
theorem setline_len (cs : List Int) (h : ∀ n ∈ cs, i64 n) : (lineW setB (cs.map itoaB)).length ≤ 4 + cs.length * 22 := by
  unfold lineW
  rw [List.length_append, List.length_append, size_toList, List.length_singleton]
  have : (wordsT (cs.map itoaB)).length ≤ cs.length * 22 := by
    induction cs with
    | nil => simp [wordsT]
    | cons n cs ih =>
      have h1 := itoa_size n (h n (by simp))
      have h2 := ih (fun x hx => h x (by simp [hx]))
      simp only [wordsT, List.map_cons, List.flatten_cons, List.length_append, List.length_cons, size_toList] at h2 ⊢
      omega
  show 3 + _ + 1 ≤ _
  omega
/-- What the loop over events keeps. -/
def PrI (b : Nat) (l0 : List UInt8) (bd : Bool) (R : Fp) (w : World) (n3 : Nat) (pre : List S47) (M : Fp) (W : World) : Prop :=
  (∃ v, Pr W b (.pointer (some ⟨b, 0, none⟩)) v (l0 ++ (pre.map lineE).flatten) (bd || pre.any badE) ∧ ∀ k, PrM b v k → ¬ M k ∧ ¬ R k ∧ k ≠ b + 1) ∧
  (W.cell? ⟨b + 1, 0, none⟩ = some (.pointer (some ⟨b, 0, none⟩)) ∧ ¬ M (b + 1)) ∧ (Below w.heap.size w W ∧ ∀ k, M k → w.heap.size ≤ k) ∧ n3 ≤ W.heap.size
theorem prI_stable (b : Nat) (l0 : List UInt8) (bd : Bool) (R : Fp) (w : World) (n3 : Nat) : Stable (PrI b l0 bd R w n3) := by
  rintro s M M' W W' ⟨⟨v, hp, hd⟩, ⟨hc, hn⟩, ⟨hb, hM⟩, hs⟩ ht h1 h2
  have hlt := World.block_lt_of_cell? W _ hc
  refine ⟨⟨v, hp.turn ht (fun k e => (hd k e).1), fun k e => ⟨fun hm => ?_, (hd k e).2⟩⟩, ⟨?_, fun hm => ?_⟩, ⟨?_, fun k hm => ?_⟩, Nat.le_trans hs ht.size⟩
  · rcases h2 k hm with h | h
    · exact (hd k e).1 h
    · have := hp.lt k e; omega
  · rw [← hc]
    simp only [World.cell?, ht.block _ hlt hn]
  · rcases h2 _ hm with h | h
    · exact hn h
    · simp at hlt; omega
  · exact hb.trans (ht.below hb.size (fun k _ hm => hM k hm))
  · rcases h2 k hm with h | h
    · exact hM k h
    · have := hb.size; omega
theorem new_pr (w : World) (o o' : Obj) : Pr (((w.alloc o).alloc (.cells #[.pointer none, .slice none 0 0, .bool false] 65)).alloc o') (w.heap.size + 1) (.pointer none) (.slice none 0 0) [] false := by
  have h1 := ptrs_alloc (w.alloc o) 0 65 [.pointer none, .slice none 0 0, .bool false]
  rw [show (w.alloc o).heap.size = w.heap.size + 1 by simp] at h1
  have h : Pr ((w.alloc o).alloc (.cells #[.pointer none, .slice none 0 0, .bool false] 65)) (w.heap.size + 1) (.pointer none) (.slice none 0 0) [] false := ⟨h1, .inl rfl, World.ownsRow_nil _ _ _ _⟩
  exact h.below (below_push _ o')
/-- The cells that Print reads first. -/
def PS (b0 : Nat) (c0 c1 c2 c3 c4 : Int) (W : World) : Prop := W.cell? ⟨b0 + 1 + 1, 0, none⟩ = some (.pointer (some ⟨b0 + 1, 0, none⟩)) ∧ W.cell? ⟨b0, 0, none⟩ = some (.int .i64 c0) ∧ W.cell? ⟨b0, 1, none⟩ = some (.int .i64 c1) ∧ W.cell? ⟨b0, 2, none⟩ = some (.int .i64 c2) ∧ W.cell? ⟨b0, 3, none⟩ = some (.int .i64 c3) ∧ W.cell? ⟨b0, 4, none⟩ = some (.int .i64 c4)
theorem PS.turn {b0 : Nat} {c0 c1 c2 c3 c4 : Int} {M : Fp} {W W' : World} (h : PS b0 c0 c1 c2 c3 c4 W) (ht : TurnM M W W') (h0 : ¬ M b0) (h2 : ¬ M (b0 + 1 + 1)) : PS b0 c0 c1 c2 c3 c4 W' := by
  obtain ⟨a, b, c, d, e, f⟩ := h
  have k2 := World.block_lt_of_cell? W _ a
  have k0 := World.block_lt_of_cell? W _ b
  have e2 : ∀ o, W'.cell? ⟨b0 + 1 + 1, o, none⟩ = W.cell? ⟨b0 + 1 + 1, o, none⟩ := fun o => by simp only [World.cell?, ht.block _ k2 h2]
  have e0 : ∀ o, W'.cell? ⟨b0, o, none⟩ = W.cell? ⟨b0, o, none⟩ := fun o => by simp only [World.cell?, ht.block _ k0 h0]
  unfold PS
  rw [e2, e0, e0, e0, e0, e0]
  exact ⟨a, b, c, d, e, f⟩
theorem new_ps (w : World) (c0 c1 c2 c3 c4 : Int) : PS w.heap.size c0 c1 c2 c3 c4 (((w.alloc (.cells #[.int .i64 c0, .int .i64 c1, .int .i64 c2, .int .i64 c3, .int .i64 c4] 28)).alloc (.cells #[.pointer none, .slice none 0 0, .bool false] 65)).alloc (.cells #[.pointer (some ⟨w.heap.size + 1, 0, none⟩)] 60)) := by
  have h0 := ((ptrs_alloc w 0 28 [.int .i64 c0, .int .i64 c1, .int .i64 c2, .int .i64 c3, .int .i64 c4]).below (below_push _ (.cells #[.pointer none, .slice none 0 0, .bool false] 65))).below (below_push _ (.cells #[.pointer (some ⟨w.heap.size + 1, 0, none⟩)] 60))
  have h2 := ptrs_alloc ((w.alloc (.cells #[.int .i64 c0, .int .i64 c1, .int .i64 c2, .int .i64 c3, .int .i64 c4] 28)).alloc (.cells #[.pointer none, .slice none 0 0, .bool false] 65)) 0 60 [.pointer (some ⟨w.heap.size + 1, 0, none⟩)]
  simp only [World.size_alloc] at h2
  exact ⟨h2.cell 0 (by simp), h0.cell 0 (by simp), h0.cell 1 (by simp), h0.cell 2 (by simp), h0.cell 3 (by simp), h0.cell 4 (by simp)⟩
set_option maxHeartbeats 8000000 in
set_option maxRecDepth 100000 in
theorem print_in (c0 c1 c2 c3 c4 : Int) (A : Option Addr) (cap : Nat) (es : List S47) (w : World) (hC : Kd.C k47 w A es.length es) (hcap : es.length ≤ cap) (hlim : es.length ≤ 1000000) (hok : ∀ e ∈ es, EvOk e)
    (hcs : ∀ n ∈ [c0, c1, c2, c3, c4], i64 n) (he : Env w) :
    CallsIn Fence.wide 20 Tryd.prog 20 #[.agg #[.int .i64 c0, .int .i64 c1, .int .i64 c2, .int .i64 c3, .int .i64 c4], .slice A es.length cap] w fun e w' => e = .returned (.tuple #[.string (printP [c0, c1, c2, c3, c4] es).1, .int .i64 (printP [c0, c1, c2, c3, c4] es).2]) ∧ Below w.heap.size w w' := by
  have HC := Lib.hid hC
  have HE := Lib.hid he
  have HOK := Lib.hid hok
  have HCS := Lib.hid hcs
  clear hC he hok hcs
  refine callsIn_of_wp_marks Tryd.func20 rfl trivial ?_ rfl
  simp only [Tryd.ntmps20, List.size_toArray, List.length_cons, List.length_nil, Nat.reduceAdd, Nat.reduceSub, Array.replicate_succ, Array.replicate_zero, List.push_toArray, List.append_toArray, List.nil_append, List.cons_append]
  refine wpIn_wide.2 ?_
  go_wp2_with fail
  have hp0 := new_pr w (.cells #[.int .i64 c0, .int .i64 c1, .int .i64 c2, .int .i64 c3, .int .i64 c4] 28) (.cells #[.pointer (some ⟨w.heap.size + 1, 0, none⟩)] 60)
  have hs0 := new_ps w c0 c1 c2 c3 c4
  have hb0 : Below w.heap.size w (((w.alloc (.cells #[.int .i64 c0, .int .i64 c1, .int .i64 c2, .int .i64 c3, .int .i64 c4] 28)).alloc (.cells #[.pointer none, .slice none 0 0, .bool false] 65)).alloc (.cells #[.pointer (some ⟨w.heap.size + 1, 0, none⟩)] 60)) := (push2 w _ _).trans ((below_push _ _).mono (by simp; omega))
  have hz0 : (((w.alloc (.cells #[.int .i64 c0, .int .i64 c1, .int .i64 c2, .int .i64 c3, .int .i64 c4] 28)).alloc (.cells #[.pointer none, .slice none 0 0, .bool false] 65)).alloc (.cells #[.pointer (some ⟨w.heap.size + 1, 0, none⟩)] 60)).heap.size = w.heap.size + 3 := by simp
  generalize (((w.alloc (.cells #[.int .i64 c0, .int .i64 c1, .int .i64 c2, .int .i64 c3, .int .i64 c4] 28)).alloc (.cells #[.pointer none, .slice none 0 0, .bool false] 65)).alloc (.cells #[.pointer (some ⟨w.heap.size + 1, 0, none⟩)] 60)) = W0 at hp0 hs0 hb0 hz0 ⊢
  have h6 := HE.out.size
  have HP0 := Lib.hid hp0
  have HS0 := Lib.hid hs0
  have HB0 := Lib.hid hb0
  obtain ⟨k6, k0, k1, k2, k3, k4⟩ := hs0
  clear hp0 hb0
  have hta : TurnM (PrM (w.heap.size + 1) (.slice none 0 0)) W0 (W0.alloc (.cells ([c0, c1, c2, c3, c4].map (Value.int .i64)).toArray 3)).drew := (TurnM.alloc _ _ _).trans (TurnM.drew _ _)
  have hba : Below W0.heap.size W0 (W0.alloc (.cells ([c0, c1, c2, c3, c4].map (Value.int .i64)).toArray 3)).drew := (below_push W0 _).trans ((drewB _).mono (by simp))
  have HPa := Lib.hid (HP0.out.below hba)
  have HSa := Lib.hid (HS0.out.turn (TurnM.of_below (M := fun _ => False) hba) (fun h => h) (fun h => h))
  have HNa := Lib.hid ((nx_alloc W0 [c0, c1, c2, c3, c4] (by simp)).keep (W' := (W0.alloc (.cells ([c0, c1, c2, c3, c4].map (Value.int .i64)).toArray 3)).drew) (fun ad e _ => rfl))
  have HEa := Lib.hid ((HE.out.below HB0.out).below hba)
  have hza : w.heap.size + 3 < (W0.alloc (.cells ([c0, c1, c2, c3, c4].map (Value.int .i64)).toArray 3)).drew.heap.size := by show _ < (W0.alloc (.cells ([c0, c1, c2, c3, c4].map (Value.int .i64)).toArray 3)).heap.size; simp; omega
  have HTa := Lib.hid hta
  rw [hz0] at HNa
  clear hta hba
  have HLW : Hid (([] : List UInt8).length + setB.size + (wordsT ([c0, c1, c2, c3, c4].map itoaB)).length + 1 ≤ 140737488355328) := Lib.hid (by
    have h0 := itoa_size c0 (HCS.out c0 (by simp))
    have h1 := itoa_size c1 (HCS.out c1 (by simp))
    have h2 := itoa_size c2 (HCS.out c2 (by simp))
    have h3 := itoa_size c3 (HCS.out c3 (by simp))
    have h4 := itoa_size c4 (HCS.out c4 (by simp))
    simp only [wordsT, List.map_cons, List.map_nil, List.flatten_cons, List.flatten_nil, List.length_append, List.length_cons, List.length_nil, size_toList]
    show 0 + 3 + _ + 1 ≤ _
    omega)
  go_region_held3 (fun W' => W'.cell? ⟨w.heap.size + 1 + 1, 0, none⟩ = some (.pointer (some ⟨w.heap.size + 1, 0, none⟩)) ∧ W'.cell? ⟨w.heap.size, 0, none⟩ = some (.int .i64 c0) ∧ W'.cell? ⟨w.heap.size, 1, none⟩ = some (.int .i64 c1) ∧ W'.cell? ⟨w.heap.size, 2, none⟩ = some (.int .i64 c2) ∧ W'.cell? ⟨w.heap.size, 3, none⟩ = some (.int .i64 c3) ∧ W'.cell? ⟨w.heap.size, 4, none⟩ = some (.int .i64 c4)) (first | exact ⟨k6, k0, k1, k2, k3, k4⟩ | exact HSa.out | exact HSb.out | exact HSc.out)
    (first
      | (go_at_call 29; refine (pnumbers_calls (w.heap.size + 1) _ _ [] false (some ⟨w.heap.size + 3, 0, none⟩) 5 [c0, c1, c2, c3, c4] _ HPa.out HNa.out (fun ad e => by cases e; simp) (by simp) HCS.out (by omega) HEa.out).mono ?_; rintro e w1 ⟨sv, rfl, hr1, hp1, ht1⟩; obtain ⟨A1, cp1, rfl, htx⟩ := tx_of hr1; have HSb := Lib.hid (HSa.out.turn ht1 (by simp) (by simp)); have HFR := Lib.hid (far_row (b := w.heap.size + 1) (v := .slice none 0 0) hr1 (fun k hk => by rcases hk with e | e; omega; simp [Value.ownBlock] at e)); have HTX := Lib.hid htx; have HP1 := Lib.hid hp1; have HT1 := Lib.hid (HTa.out.trans (ht1.mono (fun k _ e => .inl e))); clear hr1 hp1 ht1 htx HPa HTa HSa HNa HEa)
      | (go_at_call 28; refine (pline_calls (w.heap.size + 1) _ _ [] _ setB A1 cp1 ([c0, c1, c2, c3, c4].map itoaB) w1 HP1.out HTX.out HFR.out (by simp) HLW.out).mono ?_; rintro e w2 ⟨⟨r, rfl⟩, v1, hw1⟩; have HW1 := Lib.hid (ev_wr HT1.out hw1); have HSc := Lib.hid (HSb.out.turn hw1.turn (by simp [Value.ownBlock]) (by simp [Value.ownBlock])); clear hw1 HT1 HTX HFR HP1 HSb))
  have HB2 : Hid (Below w.heap.size w w2) := Lib.hid (HB0.out.trans (HW1.out.below w.heap.size HB0.out.size (by omega) (fun g e => by simp [Value.ownBlock] at e)))
  have HC2 := Lib.hid (Kd.C_below HC.out HB2.out)
  have hlw2 : w.heap.size + 3 ≤ w2.heap.size := by have := HW1.out.turn.size; omega
  clear k6 k0 k1 k2 k3 k4 HS0 HP0 hza HLW HC
  go_wp2_with fail
  refine (eof_calls A cap es w2 HC2.out hcap hlim).mono ?_
  rintro e w3 ⟨bs, R, rfl, hrun, hR, hb3⟩
  have HRun := Lib.hid hrun
  have HR := Lib.hid hR
  have HB3 := Lib.hid hb3
  clear hrun hR hb3 HC2
  have HPr := Lib.hid (HW1.out.pr.below HB3.out)
  have HPS := Lib.hid (HSc.out.turn (TurnM.of_below (M := fun _ => False) HB3.out) (fun h => h) (fun h => h))
  go_wp2_with fail
  have HVI : Hid (∀ k, PrM (w.heap.size + 1) v1 k → ¬ R k) := Lib.hid (fun k hk hR => by
    have h1 := (HR.out k hR).1
    have h2 := HW1.out.pr.lt k hk
    omega)
  have HV6 : Hid (∀ k, PrM (w.heap.size + 1) v1 k → k ≠ w.heap.size + 1 + 1) := Lib.hid (fun k hk => by
    rcases hk with e | e
    · omega
    · rcases HW1.out.own with e1 | ⟨g, e1, hg⟩
      · rw [e1] at e; simp [Value.ownBlock] at e
      · rw [e1] at e; cases e; omega)
  refine (wpIn_wide (n := 20)).1 ?_
  refine wpIn_rangeM (xs := es) (R0 := R) (M0 := fun _ => False) (encs := eE) rfl enters_values (fun W2 h2 => HRun.out W2 ⟨h2.size, fun k hk _ => h2.block k hk⟩) (fun k hk => (HR.out k hk).2) (fun _ h => h.elim) (fun _ => rfl)
    (PrI (w.heap.size + 1) (lineW setB ([c0, c1, c2, c3, c4].map itoaB)) (false || [c0, c1, c2, c3, c4].any badN) R w w3.heap.size) (fun _ _ _ _ => False) (prI_stable _ _ _ _ _ _) (fun _ => stable_false) ?_
    (fun x a' W => ∃ Bx, Blk W Bx 47 [.int .i64 x.f0, .int .i64 x.f1, .string x.f2] ∧ a' = { tmps := #[.agg #[.int .i64 c0, .int .i64 c1, .int .i64 c2, .int .i64 c3, .int .i64 c4], .slice A es.length cap, .pointer (some ⟨w.heap.size, 0, none⟩), undef, .string ⟨#[]⟩, .int .i64 0, .pointer (some ⟨w.heap.size + 1 + 1, 0, none⟩), .pointer (some ⟨Bx, 0, none⟩), .agg #[.pointer none, .slice none 0 0, .bool false], .pointer (some ⟨w.heap.size + 1, 0, none⟩), .pointer (some ⟨w.heap.size + 1, 0, none⟩), .pointer (some ⟨w.heap.size + 1, 0, none⟩), .pointer (some ⟨w.heap.size, 0, none⟩), .int .i64 c0, .pointer (some ⟨w.heap.size, 1, none⟩), .int .i64 c1, .pointer (some ⟨w.heap.size, 2, none⟩), .int .i64 c2, .pointer (some ⟨w.heap.size, 3, none⟩), .int .i64 c3, .pointer (some ⟨w.heap.size, 4, none⟩), .int .i64 c4, .slice (some ⟨w.heap.size + 3, 0, none⟩) 5 5, .slice A1 5 cp1, r, .slice A es.length cap, .func (.func 57) #[] #[.pointer (some ⟨bs, 0, none⟩)], .agg #[.int .i64 x.f0, .int .i64 x.f1, .string x.f2], undef, undef, undef, undef, undef, undef, undef, undef, undef, undef, undef, undef, undef, undef, undef, undef, undef, undef], defers := [] }) ?hax ?assign ?body ?done ?stop
  · refine ⟨⟨v1, ?_, fun k e => ⟨fun h => h, HVI.out k e, HV6.out k e⟩⟩, ⟨HPS.out.1, fun h => h⟩, ⟨HB2.out.trans (HB3.out.mono (by omega)), fun _ h => h.elim⟩, Nat.le_refl _⟩
    have := HPr.out
    rw [List.nil_append] at this
    simpa [lineW] using this
  case hax =>
    rintro x a' W o' ⟨Bx, h1, h3⟩ ⟨rr, hr⟩
    exact ⟨Bx, (World.putObj_heap_other (fun e => by subst e; unfold Blk at h1; rw [hr] at h1; cases h1)).trans h1, h3⟩
  case assign =>
    rintro m l pre x M W K hi hin hK
    have HK := Lib.hid hK
    have HI := Lib.hid hi
    clear hK hi
    gi_wp2
    exact HK.out _ _ (KeepM.of_turn (TurnM.alloc (fun _ => False) W _) (fun _ _ _ h => h)) ((prI_stable _ _ _ _ _ _).turn HI.out (TurnM.alloc _ W _)) ⟨W.heap.size, ptrs_alloc W 0 47 [.int .i64 x.f0, .int .i64 x.f1, .string x.f2], rfl⟩
  case body =>
    rintro m l pre x M a' W ⟨⟨v, hpr, hd⟩, ⟨hc6, hn6⟩, ⟨hbl, hMl⟩, hsz⟩ hin ⟨Bx, hbx, rfl⟩ ⟨rest, hx⟩
    have hxm : x ∈ es := by rw [hx]; simp
    have hpl : pre.length + 1 ≤ es.length := by rw [hx]; simp
    have hok := HOK.out x hxm
    have hpo : ∀ e ∈ pre, EvOk e := fun e he => HOK.out e (by rw [hx]; simp [he])
    have y0 := hbx.cell 0 (by simp)
    have y1 := hbx.cell 1 (by simp)
    have y2 := hbx.cell 2 (by simp)
    simp only [List.getElem_cons_zero, List.getElem_cons_succ] at y0 y1 y2
    have hle := lineE_len x hok
    have hll := linesE_len pre hpo
    have hsl := setline_len [c0, c1, c2, c3, c4] HCS.out
    have HPV := Lib.hid hpr
    have HD := Lib.hid hd
    have HBL := Lib.hid hbl
    have HML := Lib.hid hMl
    have HIN := Lib.hid hin
    have hno : ¬ v.ownBlock = some (w.heap.size + 1 + 1) := fun e => (hd _ (.inr e)).2.2 rfl
    have hvb : ∀ k, v.ownBlock = some k → w.heap.size ≤ k := fun k e => by have := (hpr.row.lt k e).1; omega
    have hfc : Fence.wide.fn 31 := trivial
    have hdep : Fence.wide.depth = none := rfl
    have hq : (lineW setB ([c0, c1, c2, c3, c4].map itoaB) ++ (pre.map lineE).flatten).length + (lineE x).length ≤ 140737488355328 := by
      rw [List.length_append]
      have : [c0, c1, c2, c3, c4].length = 5 := rfl
      omega
    have X := pevent_calls (w.heap.size + 1) _ v _ _ x W hpr hok.1 hq hok.2.1 hok.2.2 (by omega) (HE.out.below hbl)
    have HX := Lib.hid X
    clear X hpr hd hbl hMl hin hx hbx hpo hq
    gi_wp2_with (gi_at_call 31; refine (CallsIn.inRound l (callsIn_wide.2 HX.out)).mono ?_; rintro e w5 ⟨⟨r5, rfl⟩, v', hw5⟩)
    have hT := hw5.turn
    refine ⟨KeepM.of_turn hT ?_, ⟨v', ?_, fun k e => ?_⟩, ⟨?_, hn6⟩, ⟨HBL.out.trans (hT.below HBL.out.size (fun k _ hm => ?_)), HML.out⟩, Nat.le_trans hsz hT.size⟩
    · rintro k hk (h | h) hm
      · exact (HD.out k hm).2.1 h
      · exact (HD.out k hm).1 h
    · have e1 : ((pre ++ [x]).map lineE).flatten = (pre.map lineE).flatten ++ lineE x := by simp
      have e2 : (pre ++ [x]).any badE = (pre.any badE || badE x) := by simp
      rw [e1, e2, ← List.append_assoc, ← Bool.or_assoc]
      exact hw5.pr
    · rcases hw5.own with e1 | ⟨g, e1, hg⟩
      · exact HD.out k (e.imp id fun e => by rw [← e1]; exact e)
      · rcases e with e | e
        · exact HD.out k (.inl e)
        · rw [e1] at e
          cases e
          exact ⟨fun hm => by have := HIN.out.lt _ hm; omega, fun hm => by have := (HR.out _ hm).2; omega, by have := World.block_lt_of_cell? W _ hc6; simp at this; omega⟩
    · rw [← hc6]
      have h2 := World.block_lt_of_cell? W _ hc6
      have hnm : ¬ PrM (w.heap.size + 1) v (w.heap.size + 1 + 1) := by
        rintro (e | e)
        · exact absurd e (by omega)
        · exact hno e
      have h5 := hT.block _ h2 hnm
      simp only [World.cell?] at h5 ⊢
      rw [h5]
    · rcases hm with e | e
      · omega
      · exact hvb k e
  case done =>
    rintro M W ⟨⟨v, hpr, hd⟩, ⟨hc6, hn6⟩, ⟨hbl, hMl⟩, hsz⟩ hin hK
    have c2' := hpr.c2
    have HPV := Lib.hid hpr
    have HD := Lib.hid hd
    have HBL := Lib.hid hbl
    have HML := Lib.hid hMl
    have HIN := Lib.hid hin
    have HK := Lib.hid hK
    have htx : Hid (textP [c0, c1, c2, c3, c4] es = lineW setB ([c0, c1, c2, c3, c4].map itoaB) ++ (es.map lineE).flatten) := Lib.hid rfl
    have hbd : Hid (badP [c0, c1, c2, c3, c4] es = (false || [c0, c1, c2, c3, c4].any badN || es.any badE)) := Lib.hid (by rw [Bool.false_or]; rfl)
    have hne : lineW setB ([c0, c1, c2, c3, c4].map itoaB) ++ (es.map lineE).flatten ≠ [] := by
      unfold lineW
      simp
    have HNE := Lib.hid hne
    generalize lineW setB ([c0, c1, c2, c3, c4].map itoaB) ++ (es.map lineE).flatten = tx at HPV htx HNE
    generalize (false || [c0, c1, c2, c3, c4].any badN || es.any badE) = fb at HPV hbd c2'
    have HPP : Hid (printP [c0, c1, c2, c3, c4] es = if fb = true then (⟨#[]⟩, 2) else if 131072 < tx.length then (⟨#[]⟩, 3) else (⟨tx.toArray⟩, 0)) := Lib.hid (by unfold printP; rw [hbd.out, htx.out])
    have hD3 : w.heap.size ≤ w3.heap.size := by have := HB3.out.size; omega
    clear hpr hd hbl hMl hin hK hne htx hbd
    cases fb with
    | true =>
      rw [if_pos rfl] at HPP
      go_wp2_with fail
      refine ⟨by simp, .inl ⟨_, _, rfl, run_takeDeferred HK.out, ?_⟩⟩
      refine ⟨_, results_tmp2 rfl _ _ _, ?_, ?_⟩
      · show _ = Ending.returned (Value.tuple #[.string (printP [c0, c1, c2, c3, c4] es).1, .int .i64 (printP [c0, c1, c2, c3, c4] es).2])
        rw [HPP.out]
        rfl
      exact ( HBL.out.trans ((TurnM.putObj (M := fun k => k = w3.heap.size) W rfl _).below HBL.out.size (fun k _ e => by subst e; exact hD3)))
    | false =>
      rw [if_neg (by decide)] at HPP
      go_wp2_with fail
      refine (len_calls _ _ v tx false W HPV.out).mono ?_
      rintro e w6 ⟨rfl, rfl⟩
      by_cases hbig : 131072 < tx.length
      · have d1 : decide ((131072 : Int) < (tx.length : Int)) = true := decide_eq_true (by omega)
        rw [if_pos hbig] at HPP
        go_wp2_with fail
        refine ⟨by simp, .inl ⟨_, _, rfl, run_takeDeferred HK.out, ?_⟩⟩
        refine ⟨_, results_tmp2 rfl _ _ _, ?_, ?_⟩
        · show _ = Ending.returned (Value.tuple #[.string (printP [c0, c1, c2, c3, c4] es).1, .int .i64 (printP [c0, c1, c2, c3, c4] es).2])
          rw [HPP.out]
          rfl
        exact ( HBL.out.trans ((TurnM.putObj (M := fun k => k = w3.heap.size) w6 rfl _).below HBL.out.size (fun k _ e => by subst e; exact hD3)))
      · have d1 : decide ((131072 : Int) < (tx.length : Int)) = false := decide_eq_false (by omega)
        rw [if_neg hbig] at HPP
        go_wp2_with fail
        refine (string_calls _ _ v tx false w6 HPV.out HNE.out).mono ?_
        rintro e w7 ⟨rfl, ht7⟩
        have HT7 := Lib.hid ht7
        have hD7 : w7.heap[w3.heap.size]? = some (.deferred (some [])) := (ht7.block _ (Array.getElem?_eq_some_iff.1 HK.out).1 (fun e => (HD.out _ e).1 HIN.out.d)).trans HK.out
        have HK7 := Lib.hid hD7
        clear ht7 hD7
        go_wp2_with fail
        refine ⟨by simp, .inl ⟨_, _, rfl, run_takeDeferred HK7.out, ?_⟩⟩
        have hb7 : Below w.heap.size w w7 := HBL.out.trans (HT7.out.below HBL.out.size (fun k _ e => by
          rcases e with e | e
          · omega
          · have := (HPV.out.row.lt k e).1; omega))
        refine ⟨_, results_tmp2 rfl _ _ _, ?_, ?_⟩
        · show _ = Ending.returned (Value.tuple #[.string (printP [c0, c1, c2, c3, c4] es).1, .int .i64 (printP [c0, c1, c2, c3, c4] es).2])
          rw [HPP.out]
          rfl
        exact (hb7.trans ((TurnM.putObj (M := fun k => k = w3.heap.size) w7 rfl _).below hb7.size (fun k _ e => by subst e; exact hD3)))
  case stop => exact fun _ _ _ _ _ h _ _ => h.elim
theorem print_calls (c0 c1 c2 c3 c4 : Int) (A : Option Addr) (cap : Nat) (es : List S47) (w : World) (hC : Kd.C k47 w A es.length es) (hcap : es.length ≤ cap) (hlim : es.length ≤ 1000000) (hok : ∀ e ∈ es, EvOk e)
    (hcs : ∀ n ∈ [c0, c1, c2, c3, c4], i64 n) (he : Env w) :
    Calls Tryd.prog 20 #[.agg #[.int .i64 c0, .int .i64 c1, .int .i64 c2, .int .i64 c3, .int .i64 c4], .slice A es.length cap] w fun e w' => e = .returned (.tuple #[.string (printP [c0, c1, c2, c3, c4] es).1, .int .i64 (printP [c0, c1, c2, c3, c4] es).2]) ∧ Below w.heap.size w w' :=
  callsIn_wide.1 (print_in c0 c1 c2 c3 c4 A cap es w hC hcap hlim hok hcs he)
end Go.Proofs.YtipccndoffcfiaaDoor.Script
