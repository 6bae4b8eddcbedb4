/- seq.Of over events: a sequence of a list tells just that list, in each world that keeps what it asks to be kept. -/
import Derived.Test.YtipccndoffcfiaaDoorSeqM
import Derived.Test.YtipccndoffcfiaaDoorScriptD
import Derived.WalkSpells
import Derived.Maps.AppendAt
namespace Go.Proofs.YtipccndoffcfiaaDoor.Script
open Go.RowKit Go.Shelf Go.Proofs.YtipccndoffcfiaaDoor.PRef Go.Proofs.YtipccndoffcfiaaDoorW.PrintWords Go.Proofs.YtipccndoffcfiaaDoorW.PrintLast Go.Proofs.YtipccndoffcfiaaDoor.SeqM
attribute [local go_sem] Oper.semAt_some
set_option linter.unusedVariables false
set_option linter.unusedSimpArgs false
abbrev eE (x : S47) : Array Value := #[.agg #[.int .i64 x.f0, .int .i64 x.f1, .string x.f2]]
/-- Events that are read, in a block. -/
def EvC (W : World) (g : Nat) (zs : List S47) : Prop := g < W.heap.size ∧ ∀ k (h : k < zs.length), W.cell? ⟨g, k * 3, none⟩ = some (.int .i64 zs[k].f0) ∧ W.cell? ⟨g, k * 3 + 1, none⟩ = some (.int .i64 zs[k].f1) ∧ W.cell? ⟨g, k * 3 + 1 + 1, none⟩ = some (.string zs[k].f2)
theorem EvC.keep {W W' : World} {g : Nat} {zs : List S47} (h : EvC W g zs) (hs : W.heap.size ≤ W'.heap.size) (hk : W'.heap[g]? = W.heap[g]?) : EvC W' g zs := by
  refine ⟨Nat.lt_of_lt_of_le h.1 hs, fun k hk2 => ?_⟩
  have e : ∀ o, W'.cell? ⟨g, o, none⟩ = W.cell? ⟨g, o, none⟩ := fun o => by simp only [World.cell?, hk]
  rw [e, e, e]
  exact h.2 k hk2
theorem evc_of_C {W : World} {g : Nat} {zs : List S47} (h : Kd.C k47 W (some ⟨g, 0, none⟩) zs.length zs) (hg : g < W.heap.size) : EvC W g zs := by
  refine ⟨hg, fun k hk => ?_⟩
  obtain ⟨ad, e, hc⟩ := h.2.2 (by omega)
  cases e
  obtain ⟨cs, hl, hK, hat⟩ := hc k zs[k] (by simp [hk])
  have ho := k47_open hK
  subst ho
  have a0 := hat 0 _ rfl
  have a1 := hat 1 _ rfl
  have a2 := hat 2 _ rfl
  rw [Addr.add_lit, Nat.zero_add] at a0 a1 a2
  exact ⟨a0, a1, a2⟩
set_option maxHeartbeats 4000000 in
set_option maxRecDepth 100000 in
theorem eclone_calls (A0 : Option Addr) (c0 : Nat) (l0 : List S47) (w : World) (hr0 : Kd.C k47 w A0 l0.length l0) (hc0 : l0.length ≤ c0) (hlim : l0.length ≤ 1000000) :
    Calls Tryd.prog 48 #[.slice A0 l0.length c0] w fun e w' => ∃ v0_ : Value, e = .returned v0_ ∧ Kd.R k47 47 w' w.heap.size (fun _ => True) v0_ l0 ∧ Below w.heap.size w w' := by
  have HR0 := Lib.hid hr0
  clear hr0
  cases A0 with
  | none =>
    have hz : l0 = [] := by
      rcases Nat.eq_zero_or_pos l0.length with h0 | h0
      · exact List.eq_nil_of_length_eq_zero h0
      · obtain ⟨ad, e, _⟩ := HR0.out.2.2 h0
        cases e
    subst hz
    clear HR0
    have hn := fun (w : World) => Lib.run_eql_slice_nil (P := Tryd.prog) w 29 47 none 0 c0 0 0 Tryd.underlying29
    go_enter Tryd.func48, Tryd.ntmps48
    go_wp2
    go_ret
    exact ⟨_, rfl, Kd.R_nil _ _ _ _ _, Below.refl _ _⟩
  | some ad =>
    have hn := fun (w : World) => Lib.run_eql_slice_nil (P := Tryd.prog) w 29 47 (some ad) l0.length c0 0 0 Tryd.underlying29
    go_enter Tryd.func48, Tryd.ntmps48
    go_wp2_with (first
      | ((with_reducible refine gate_dst (N := 5) rfl ?_); refine Kd.R_lit k47 (w0 := w) w.heap.size 47 ?hg (N := 5) ?hd (xs := ([] : List S47)) (inner := []) (ok := fun _ => True) (okp := fun _ => True) ?hr ?hp (fun _ hk => hk) trivial (Below.refl _ _) (Nat.le_refl _) (by simp) ?_; (case hd => rfl); (case hg => rfl); (case hr => first | (go_simp; done) | (go_simp; rfl)); (case hp => exact Reps.none _ _); intro v1 w1 ho hb hg_ hn_; clear hg_ hn_; have HO := Lib.hid ho; have HB := Lib.hid hb; clear ho hb; obtain ⟨A1, c1, e1⟩ := Kd.R_slice HO.out; subst e1)
      | ((with_reducible refine gate_builtin (b := .append) (xs := #[.tmp 5, .tmp 6]) rfl ?_); at_builtin; refine Kd.R_append_rows k47 (Rr := k47.K w1) (w0 := w) w.heap.size rfl (.tmp 5) (.tmp 6) 29 47 (.agg #[.int .i64 0, .int .i64 0, .string ⟨#[]⟩]) 32 rfl Tryd.underlying29 infoEv rfl (by decide) (by omega) (.slice A1 0 c1) ([] : List S47) l0 _ _ _ (fun _ => True) (fun _ => False) rfl rfl ?aO ?aR ?aK (fun _ h => h.elim) ?aF ?aB ?aS ?aL ?_; (case aR => exact Kd.C_below HR0.out HB.out); (case aK => exact (fun x cs h => by rw [k47_open h]; exact k47_mkM _ _ _ x)); (case aB => exact HB.out); (case aF => exact (fun _ _ => trivial)); (case aO => exact HO.out); (case aS => exact HB.out.size); (case aL => simp only [List.length_nil]; omega); intro v2 w2 ho2 hb2 hg2 hn2; clear hg2 hn2; have HO2 := Lib.hid ho2; have HB2 := Lib.hid hb2; clear ho2 hb2))
    go_ret
    exact ⟨_, rfl, HO2.out, HB2.out⟩
/-- What the iterator asks to be kept. -/
def EvR (bs : Nat) (v : Value) : Fp := fun k => k = bs ∨ v.ownBlock = some k
set_option maxHeartbeats 4000000 in
set_option maxRecDepth 100000 in
theorem evalues1 (bs cap : Nat) (A : Option Addr) (zs : List S47) (hlen : zs.length ≤ 1000000) (W : World) (hbs : W.cell? ⟨bs, 0, none⟩ = some (.slice A zs.length cap)) (hz : zs = [] ∨ ∃ g, A = some ⟨g, 0, none⟩ ∧ EvC W g zs) :
    RunM Tryd.prog 57 #[.pointer (some ⟨bs, 0, none⟩)] eE zs (EvR bs (.slice A zs.length cap)) (fun _ => False) W := by
  intro n l J Jx hJ hJx hY M hM0 hMlt h0
  have HJ := Lib.hid hJ
  have HY := Lib.hid hY
  have H0 := Lib.hid h0
  have HM := Lib.hid hMlt
  have HZ := Lib.hid hz
  clear hJ hY h0 hM0 hMlt hJx hz
  have hd : Fence.wide.depth = none := rfl
  refine callsIn_of_wp Tryd.func57 rfl trivial ?_ rfl
  simp only [Tryd.ntmps57, List.size_toArray, List.length_cons, List.length_nil, Nat.reduceAdd, Nat.reduceSub, Array.replicate_succ, Array.replicate_zero, List.push_toArray, List.append_toArray, List.nil_append, List.cons_append]
  gi_wp2
  gi_loopw [7] (fun i wr => ∃ k : Nat, k ≤ zs.length ∧ i = .int .i64 k ∧ J (zs.take k) M wr ∧ KeepM (fun k => EvR bs (.slice A zs.length cap) k ∨ M k) W wr) (fun i _ => zs.length - (intOf i).toNat)
  case atStart => exact ⟨0, Nat.zero_le _, rfl, H0.out, KeepM.refl _ _⟩
  case round =>
    obtain ⟨k, hk, rfl, hJs, hkp⟩ := hrel
    have HJs := Lib.hid hJs
    have HK := Lib.hid hkp
    clear hJs hkp
    by_cases hlt : k < zs.length
    · obtain ⟨g, rfl, hz⟩ := HZ.out.resolve_left (fun e => by rw [e] at hlt; simp at hlt)
      obtain ⟨c0, c1, c2⟩ := (hz.keep HK.out.size (HK.out.block g hz.1 (.inl (.inr rfl)))).2 k hlt
      clear hz
      have HJ2 : Hid (J (zs.take k) M (wr.alloc (.cells #[.int .i64 zs[k].f0, .int .i64 zs[k].f1, .string zs[k].f2] 47))) := Lib.hid (HJ.out.turn HJs.out (TurnM.alloc _ _ _))
      obtain ⟨fn, tmps, assign, body, hy, hR⟩ := HY.out (zs.take k) zs[k] M _ HJ2.out (fun _ h => h.elim) (fun i hi => Nat.lt_of_lt_of_le (HM.out i hi) (Nat.le_trans HK.out.size (by simp))) ⟨zs.drop (k + 1), by rw [← List.drop_eq_getElem_cons hlt, List.take_append_drop]⟩ (n - 1)
      have HRR := Lib.hid hR
      clear hR
      gi_wp2
      refine HRR.out.mono ?_
      rintro e W3 (⟨rfl, hJ3, hk3⟩ | ⟨rfl, hJ3, hk3⟩)
      · have HJ3 := Lib.hid hJ3
        have HK3 := Lib.hid ((KeepM.of_turn (TurnM.alloc (fun _ => False) wr _) (fun _ _ _ h => h)).trans hk3)
        clear hJ3 hk3
        gi_wp2
        go_roundw
        case rel => exact ⟨k + 1, by omega, by simp, by rw [List.take_succ_eq_append_getElem hlt]; exact HJ3.out, HK.out.trans HK3.out⟩
        case measure => simp [intOf]; omega
      · have HJ3 := Lib.hid hJ3
        have HK3 := Lib.hid ((KeepM.of_turn (TurnM.alloc (fun _ => False) wr _) (fun _ _ _ h => h)).trans hk3)
        clear hJ3 hk3
        gi_wp2
        refine bodyPost_ret (results_none rfl _ _ _) rfl ?_
        exact ⟨⟨_, rfl⟩, M, fun _ h => h, fun i hi => Nat.lt_of_lt_of_le (HM.out i hi) (Nat.le_trans HK.out.size HK3.out.size), .inr ⟨_, by rw [← List.take_succ_eq_append_getElem hlt]; exact List.take_prefix _ _, HJ3.out⟩⟩
    · obtain rfl : k = zs.length := by omega
      gi_wp2
      go_end0
      exact ⟨⟨_, rfl⟩, M, fun _ h => h, fun i hi => Nat.lt_of_lt_of_le (HM.out i hi) HK.out.size, .inl (by simpa using HJs.out)⟩
set_option maxRecDepth 100000 in
theorem evalues_calls (A : Option Addr) (n c : Nat) (w : World) : Calls Tryd.prog 47 #[.slice A n c] w fun e w' => e = .returned (.func (.func 57) #[] #[.pointer (some ⟨w.heap.size, 0, none⟩)]) ∧ w' = w.alloc (.cells #[.slice A n c] 29) := by
  go_enter Tryd.func47, Tryd.ntmps47
  go_wp2
  go_ret
  exact ⟨rfl, rfl⟩
theorem enters_values : ∀ args w, (callFunc 57 args).run Tryd.prog w = .ok (.enter 57 args) w := enters_of Tryd.func57 (by kernel_rfl) rfl
/-- A sequence of events: the block of its box, what it asks to be kept. -/
def OfPost (w : World) (zs : List S47) (e : Ending) (w' : World) : Prop :=
  ∃ (bs : Nat) (R : Fp), e = .returned (.func (.func 57) #[] #[.pointer (some ⟨bs, 0, none⟩)]) ∧ (∀ W2, KeepM R w' W2 → RunM Tryd.prog 57 #[.pointer (some ⟨bs, 0, none⟩)] eE zs R (fun _ => False) W2) ∧ (∀ k, R k → w.heap.size ≤ k ∧ k < w'.heap.size) ∧ Below w.heap.size w w'
set_option maxHeartbeats 2000000 in
set_option maxRecDepth 100000 in
theorem eof_calls (A0 : Option Addr) (c0 : Nat) (zs : List S47) (w : World) (hr0 : Kd.C k47 w A0 zs.length zs) (hc0 : zs.length ≤ c0) (hlim : zs.length ≤ 1000000) :
    Calls Tryd.prog 30 #[.slice A0 zs.length c0] w (OfPost w zs) := by
  go_enter Tryd.func30, Tryd.ntmps30
  go_wp2_with fail
  refine (eclone_calls A0 c0 zs w hr0 hc0 hlim).mono ?_
  rintro e w1 ⟨v, rfl, hr, hb⟩
  obtain ⟨A, cap, rfl⟩ := Kd.R_slice hr
  have HR := Lib.hid hr
  have HB := Lib.hid hb
  clear hr hb
  go_wp2_with fail
  refine (evalues_calls _ _ _ _).mono ?_
  rintro e w2 ⟨rfl, rfl⟩
  go_wp2_with fail
  go_ret
  have hb2 := below_push w1 (.cells #[.slice A zs.length cap] 29)
  have hs := HB.out.size
  have hlt := Kd.R_lt HR.out
  have hbase := Kd.R_base HR.out
  have hrd := (Kd.R_reads' HR.out).2.2
  refine ⟨w1.heap.size, EvR w1.heap.size (.slice A zs.length cap), rfl, fun W2 hk => ?_, fun k hk => ?_, HB.out.trans (hb2.mono hs)⟩
  · refine evalues1 w1.heap.size cap A zs hlim W2 ?_ ?_
    · have e0 := hk.block w1.heap.size (by simp) (.inl rfl)
      have := (ptrs_alloc w1 0 29 [.slice A zs.length cap]).cell 0 (by simp)
      rw [List.getElem_cons_zero] at this
      rw [← this]
      simp only [World.cell?, e0]
    · rcases Nat.eq_zero_or_pos zs.length with h0 | h0
      · exact .inl (List.eq_nil_of_length_eq_zero h0)
      · refine .inr ?_
        obtain ⟨inner, ho⟩ := Kd.R_own HR.out
        rcases ho.2 with ⟨_, hz⟩ | ⟨g, cap', cur, e, hg, hh, _⟩
        · omega
        · cases e
          have hgl : g < w1.heap.size := (Array.getElem?_eq_some_iff.1 hh).1
          refine ⟨g, rfl, (evc_of_C hrd hgl).keep (Nat.le_trans hb2.size hk.size) ?_⟩
          exact (hk.block g (by simp; omega) (.inr rfl)).trans (hb2.block g hgl)
  · rcases hk with rfl | e
    · exact ⟨hs, by simp⟩
    · exact ⟨hbase k e, by have := hlt k e; simp; omega⟩
end Go.Proofs.YtipccndoffcfiaaDoor.Script
