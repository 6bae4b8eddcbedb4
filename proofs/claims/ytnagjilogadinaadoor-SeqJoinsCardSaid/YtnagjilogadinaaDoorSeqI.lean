/- Of, List, Ints: a sequence of a list tells just that list, in each world that keeps what it asks to be kept. -/
import Derived.Test.YtnagjilogadinaaDoorSeqM
import Derived.Test.YtnagjilogadinaaDoorProg
import Derived.WalkSpells

import Derived.Maps.AppendAt
namespace Go.Proofs.YtnagjilogadinaaDoor.SeqI
open Go.RowKit Go.Shelf Go.Proofs.YtnagjilogadinaaDoor.SeqM
attribute [local go_sem] Oper.semAt_some
set_option linter.unusedVariables false

abbrev eI (x : Int) : Array Value := #[.int .i64 x]

/-- A sequence: R is what it asks to be kept, M0 what it may turn. -/
def SeqG (fv : Value) (xs : List Int) (R M0 : Fp) (W : World) : Prop :=
  (∀ k, R k → k < W.heap.size) ∧ (∀ k, M0 k → k < W.heap.size) ∧ ∃ g lb, fv = .func (.func g) #[] lb ∧ (∀ args w, (callFunc g args).run Tryd.prog w = .ok (.enter g args) w) ∧
    ∀ W2, KeepM (fun k => R k ∨ M0 k) W W2 → RunM Tryd.prog g lb eI xs R M0 W2
/-- A sequence that may be gone through again and again. -/
def SeqV (fv : Value) (xs : List Int) (R : Fp) (W : World) : Prop :=
  (∀ k, R k → k < W.heap.size) ∧ ∃ g lb, fv = .func (.func g) #[] lb ∧ (∀ args w, (callFunc g args).run Tryd.prog w = .ok (.enter g args) w) ∧
    ∀ W2, KeepM R W W2 → RunM Tryd.prog g lb eI xs R (fun _ => False) W2
theorem SeqV.g {fv : Value} {xs : List Int} {R : Fp} {W : World} (h : SeqV fv xs R W) : SeqG fv xs R (fun _ => False) W := by
  obtain ⟨h1, g, lb, h2, h3, h4⟩ := h
  exact ⟨h1, fun _ h => h.elim, g, lb, h2, h3, fun W2 h5 => h4 W2 (h5.mono fun k _ hk => .inl hk)⟩
theorem SeqV.keep {fv : Value} {xs : List Int} {R : Fp} {W W' : World} (h : SeqV fv xs R W) (hk : KeepM R W W') : SeqV fv xs R W' := by
  obtain ⟨h1, g, lb, h2, h3, h4⟩ := h
  exact ⟨fun k hR => Nat.lt_of_lt_of_le (h1 k hR) hk.size, g, lb, h2, h3, fun W2 h5 => h4 W2 (hk.trans h5)⟩
theorem SeqV.below {fv : Value} {xs : List Int} {R : Fp} {W W' : World} (h : SeqV fv xs R W) (hb : Below W.heap.size W W') : SeqV fv xs R W' :=
  h.keep ⟨hb.size, fun k hk _ => hb.block k hk⟩

/-- The values of a slice lie in W: n of them. -/
def Cells (W : World) (A : Option Addr) (zs : List Int) : Prop :=
  zs = [] ∨ ∃ b off, A = some ⟨b, off, none⟩ ∧ b < W.heap.size ∧ ∀ j (h : j < zs.length), W.cell? ⟨b, off + j, none⟩ = some (.int .i64 zs[j])

set_option maxHeartbeats 2000000 in
set_option maxRecDepth 100000 in
theorem values1 (bs : Nat) (A : Option Addr) (cap : Nat) (zs : List Int) (hlen : zs.length ≤ 1000000) (W : World) (hbs : W.cell? ⟨bs, 0, none⟩ = some (.slice A zs.length cap)) (hz : Cells W A zs) :
    RunM Tryd.prog 37 #[.pointer (some ⟨bs, 0, none⟩)] eI zs (fun k => k = bs ∨ ∃ b off, A = some ⟨b, off, none⟩ ∧ k = b) (fun _ => False) W := by
  intro n l J Jx hJ hJx hY M hM0 hMlt h0
  have HJ := Lib.hid hJ
  have HY := Lib.hid hY
  have H0 := Lib.hid h0
  have HM := Lib.hid hMlt
  clear hJ hY h0 hM0 hMlt hJx
  have hd : Fence.wide.depth = none := rfl
  refine callsIn_of_wp Tryd.func37 rfl trivial ?_ rfl
  simp only [Tryd.ntmps37, List.size_toArray, List.length_cons, List.length_nil, Nat.reduceAdd, Nat.reduceSub, Array.replicate_succ, Array.replicate_zero, List.push_toArray, List.append_toArray, List.nil_append, List.cons_append]
  gi_wp2
  gi_loopw [7] (fun i wr => ∃ k : Nat, k ≤ zs.length ∧ i = .int .i64 k ∧ J (zs.take k) M wr ∧ KeepM (fun k => (k = bs ∨ ∃ b off, A = some ⟨b, off, none⟩ ∧ k = b) ∨ M k) W wr) (fun i _ => zs.length - (intOf i).toNat)
  case atStart => exact ⟨0, Nat.zero_le _, rfl, H0.out, KeepM.refl _ _⟩
  case round =>
    obtain ⟨k, hk, rfl, hJs, hkp⟩ := hrel
    have HJs := Lib.hid hJs
    have HK := Lib.hid hkp
    clear hJs hkp
    by_cases hlt : k < zs.length
    · have hz' := hz
      rcases hz' with rfl | ⟨b, off, rfl, hb, hc⟩
      · simp at hlt
      · have hck : wr.cell? ⟨b, off + k, none⟩ = some (.int .i64 zs[k]) := (World.cell?_of_block (w := W) (HK.out.block b hb (.inl (.inr ⟨b, off, rfl, rfl⟩)))).trans (hc k hlt)
        clear hc
        obtain ⟨fn, tmps, assign, body, hy, hR⟩ := HY.out (zs.take k) zs[k] M wr HJs.out (fun _ h => h.elim) (fun i hi => Nat.lt_of_lt_of_le (HM.out i hi) HK.out.size) ⟨zs.drop (k + 1), by rw [← List.drop_eq_getElem_cons hlt, List.take_append_drop]⟩ (n - 1)
        have HRR := Lib.hid hR
        clear hR
        gi_wp2
        refine HRR.out.mono ?_
        rintro e W3 (⟨rfl, hJ3, hk3⟩ | ⟨rfl, hJ3, hk3⟩)
        · have HJ3 := Lib.hid hJ3
          have HK3 := Lib.hid hk3
          clear hJ3 hk3
          gi_wp2
          go_roundw
          case rel => exact ⟨k + 1, by omega, by simp, by rw [List.take_succ_eq_append_getElem hlt]; exact HJ3.out, HK.out.trans HK3.out⟩
          case measure => simp [intOf]; omega
        · have HJ3 := Lib.hid hJ3
          have HK3 := Lib.hid hk3
          clear hJ3 hk3
          gi_wp2
          refine bodyPost_ret (results_none rfl _ _ _) rfl ?_
          exact ⟨⟨_, rfl⟩, M, fun _ h => h, fun i hi => Nat.lt_of_lt_of_le (HM.out i hi) (Nat.le_trans HK.out.size HK3.out.size), .inr ⟨_, by rw [← List.take_succ_eq_append_getElem hlt]; exact List.take_prefix _ _, HJ3.out⟩⟩
    · obtain rfl : k = zs.length := by omega
      gi_wp2
      go_end0
      exact ⟨⟨_, rfl⟩, M, fun _ h => h, fun i hi => Nat.lt_of_lt_of_le (HM.out i hi) HK.out.size, .inl (by simpa using HJs.out)⟩

theorem Cells.keep {W W' : World} {A : Option Addr} {zs : List Int} (h : Cells W A zs) {M : Fp} (hk : KeepM M W W') (hM : ∀ b off, A = some ⟨b, off, none⟩ → M b) : Cells W' A zs := by
  rcases h with rfl | ⟨b, off, rfl, hb, hc⟩
  · exact .inl rfl
  · exact .inr ⟨b, off, rfl, Nat.lt_of_lt_of_le hb hk.size, fun j hj => (World.cell?_of_block (w := W) (hk.block b hb (hM b off rfl))).trans (hc j hj)⟩
theorem Cells.below {W W' : World} {A : Option Addr} {zs : List Int} (h : Cells W A zs) (hb : Below W.heap.size W W') : Cells W' A zs :=
  h.keep (M := fun _ => True) ⟨hb.size, fun k hk _ => hb.block k hk⟩ (fun _ _ _ => trivial)

theorem info3 : (Tryd.prog.info? 3).map (fun i => (i.zero, i.size, i.bytes)) = some (some (.int .i64 0), 1, 8) := by kernel_rfl

theorem cells_of_row {W : World} {n₀ : Nat} {A : Option Addr} {cap n : Nat} {zs : List Int} (h : W.ownsRow n₀ 3 1 (.slice A n cap) n (zs.map (Value.int .i64))) (hn : n = zs.length) : Cells W A zs ∧ (∀ b off, A = some ⟨b, off, none⟩ → n₀ ≤ b ∧ b < W.heap.size) := by
  rcases h.2 with ⟨e, h0⟩ | ⟨g, cap', cur, e, hg, hh, hc1, hc2, hcs, htk⟩
  · cases e
    exact ⟨.inl (List.eq_nil_of_length_eq_zero (by omega)), fun b off e => by cases e⟩
  · cases e
    have hlt := (Array.getElem?_eq_some_iff.1 hh).1
    refine ⟨.inr ⟨g, 0, rfl, hlt, fun j hj => ?_⟩, fun b off e => by cases e; exact ⟨hg, hlt⟩⟩
    have h1 : (cur.toList.take (n * 1))[j]? = some (.int .i64 zs[j]) := by rw [htk]; simp [hj]
    rw [List.getElem?_take] at h1
    split at h1
    · simp [World.cell?, hh]; simpa using h1
    · cases h1

set_option maxHeartbeats 2000000 in
set_option maxRecDepth 100000 in
theorem clone_calls (w : World) (A : Option Addr) (cap : Nat) (zs : List Int) (hlen : zs.length ≤ 1000000) (hz : Cells w A zs) (hnil : A = none → zs = []) :
    Calls Tryd.prog 25 #[.slice A zs.length cap] w fun e w' => ∃ A' cap', e = .returned (.slice A' zs.length cap') ∧ w'.ownsRow w.heap.size 3 1 (.slice A' zs.length cap') zs.length (zs.map (Value.int .i64)) ∧ Below w.heap.size w w' := by
  obtain ⟨i0, hi, hz0, hz1, hz2⟩ := info_parts info3
  cases A with
  | none =>
    obtain rfl := hnil rfl
    have hn := fun (w : World) => Lib.run_eql_slice_nil (P := Tryd.prog) w 22 3 none 0 cap 0 0 Tryd.underlying22
    go_enter Tryd.func25, Tryd.ntmps25
    go_wp2
    go_ret
    exact ⟨_, _, rfl, World.ownsRow_nil _ _ _ _, Below.refl _ _⟩
  | some ad =>
    have HN : Hid (∀ (j : Nat) u, (zs.map (Value.int .i64))[j]? = some u → (w.alloc (.cells #[] 3)).cell? (ad.add j) = some u) := fun j u hu => by
      rcases hz with rfl | ⟨b, off, e, hb, hc⟩
      · simp at hu
      · cases e
        rw [List.getElem?_map] at hu
        obtain ⟨x, hx, rfl⟩ := Option.map_eq_some_iff.1 hu
        obtain ⟨hj, rfl⟩ := List.getElem?_eq_some_iff.1 hx
        rw [Addr.add_lit]
        exact (World.cell?_of_block (w := w) (Below.heap_alloc w _ _ hb)).trans (hc j hj)
    have hone : Hid (∀ u ∈ zs.map (Value.int .i64), u.oneCell' = true) := fun u hu => by
      obtain ⟨x, _, rfl⟩ := List.mem_map.1 hu
      rfl
    have hl1 : Hid ((zs.map (Value.int .i64)).length = zs.length * 1) := by show _ = _; simp
    clear hz hnil
    have hn := fun (w : World) => Lib.run_eql_slice_nil (P := Tryd.prog) w 22 3 (some ad) zs.length cap 0 0 Tryd.underlying22
    have hown := World.ownsRow_made (base := w.heap.size) (e := 3) (size := 1) w #[] 0 (Nat.le_refl _) (by decide) rfl
    go_enter Tryd.func25, Tryd.ntmps25
    go_wp2_with (at_builtin; refine wpList_append_own _ rfl _ _ 22 rfl w.heap.size 3 i0 (.int .i64 0) 1 8 Tryd.underlying22 hi hz0 hz1 hz2 rfl (by decide) _ _ _ rfl hown ad zs.length cap (zs.map (Value.int .i64)) rfl hl1.out HN.out hone.out (by unfold maxLen; omega) (by omega) (by simp) ?_; intro v' w1 hown' hgrow _; have HO := Lib.hid hown'; have HG := Lib.hid hgrow; clear hown' hgrow)
    go_ret
    have hh := HO.out
    simp only [Nat.zero_add, List.nil_append] at hh
    rcases hh.2 with ⟨rfl, h0⟩ | ⟨g, cap', cur, rfl, _⟩
    · have : zs = [] := List.eq_nil_of_length_eq_zero h0
      subst this
      exact ⟨_, _, rfl, hh, ((Below.refl _ w).alloc (Nat.le_refl _) _).grown HG.out (by simp) (fun k e => by cases e; exact Nat.le_refl _)⟩
    · exact ⟨_, _, rfl, hh, ((Below.refl _ w).alloc (Nat.le_refl _) _).grown HG.out (by simp) (fun k e => by cases e; exact Nat.le_refl _)⟩

set_option maxRecDepth 100000 in
theorem values_calls (A : Option Addr) (n cap : Nat) (w : World) : Calls Tryd.prog 24 #[.slice A n cap] w fun e w' => e = .returned (.func (.func 37) #[] #[.pointer (some ⟨w.heap.size, 0, none⟩)]) ∧ w' = w.alloc (.cells #[.slice A n cap] 22) := by
  go_enter Tryd.func24, Tryd.ntmps24
  go_wp2
  go_ret
  exact ⟨rfl, rfl⟩

theorem enters39 : ∀ args w, (callFunc 37 args).run Tryd.prog w = .ok (.enter 37 args) w := enters_of Tryd.func37 (by kernel_rfl) rfl

def SeqPost (w : World) (xs : List Int) (e : Ending) (w' : World) : Prop := ∃ fv R, e = .returned fv ∧ SeqV fv xs R w' ∧ (∀ k, R k → w.heap.size ≤ k) ∧ Below w.heap.size w w'

set_option maxHeartbeats 2000000 in
set_option maxRecDepth 100000 in
theorem of_calls (w : World) (A : Option Addr) (cap : Nat) (zs : List Int) (hlen : zs.length ≤ 1000000) (hz : Cells w A zs) (hnil : A = none → zs = []) :
    Calls Tryd.prog 9 #[.slice A zs.length cap] w (SeqPost w zs) := by
  go_enter Tryd.func9, Tryd.ntmps9
  go_wp2_with fail
  refine (clone_calls _ A cap zs hlen hz hnil).mono ?_
  rintro e w1 ⟨A', cap', rfl, ho, hb⟩
  have HO := Lib.hid ho
  have HB := Lib.hid hb
  clear ho hb
  go_wp2_with fail
  refine (values_calls _ _ _ _).mono ?_
  rintro e w2 ⟨rfl, rfl⟩
  go_wp2_with fail
  go_ret
  obtain ⟨hc, hA⟩ := cells_of_row HO.out rfl
  have hbx := World.alloc_heap_new w1 (.cells #[.slice A' zs.length cap'] 22)
  have hB2 : Below w1.heap.size w1 (w1.alloc (.cells #[.slice A' zs.length cap'] 22)) := (Below.refl _ w1).alloc (Nat.le_refl _) _
  have hs := HB.out.size
  refine ⟨_, fun k => k = w1.heap.size ∨ ∃ b off, A' = some ⟨b, off, none⟩ ∧ k = b, rfl, ⟨?_, 37, _, rfl, enters39, fun W2 hk => ?_⟩, ?_, HB.out.trans (hB2.mono hs)⟩
  · rintro k (rfl | ⟨b, off, e, rfl⟩)
    · simp
    · have := (hA _ _ e).2; simp; omega
  · refine values1 w1.heap.size A' cap' zs hlen W2 ?_ ?_
    · have := (hk.block w1.heap.size (by simp) (.inl rfl)).trans hbx
      simp [World.cell?, this]
    · exact (hc.below hB2).keep hk (fun b off e => .inr ⟨b, off, e, rfl⟩)
  · rintro k (rfl | ⟨b, off, e, rfl⟩)
    · exact hs
    · exact (hA _ _ e).1

def ColI (n₀ : Nat) (M0 : Fp) (w : World) (pre : List Int) (M : Fp) (W : World) : Prop :=
  (∃ v, Boxed W n₀ 22 v ∧ W.ownsRow n₀ 3 1 v pre.length (pre.map (Value.int .i64)) ∧ True ∧ ¬ M n₀ ∧ ∀ g, v.ownBlock = some g → ¬ M g) ∧ (TurnM M0 w W ∧ ∀ k, M k → M0 k ∨ w.heap.size ≤ k)
theorem colI_stable (n₀ : Nat) (M0 : Fp) (w : World) : Stable (ColI n₀ M0 w) :=
  (stable_row n₀ n₀ 22 3 1 (fun pre : List Int => pre.length) (fun pre => pre.map (Value.int .i64)) (fun _ _ => True)).and (stable_frame M0 w)

def ColPost (w : World) (xs : List Int) (M0 : Fp) (e : Ending) (w' : World) : Prop :=
  ∃ v, e = .returned v ∧ w'.ownsRow w.heap.size 3 1 v xs.length (xs.map (Value.int .i64)) ∧ TurnM M0 w w'

set_option maxHeartbeats 2000000 in
set_option maxRecDepth 100000 in
theorem appendSeq_in (n : Nat) (fv : Value) (xs : List Int) (R M0 : Fp) (w : World) (hlen : xs.length ≤ 1000000) (hs : SeqG fv xs R M0 w) :
    CallsIn Fence.wide n Tryd.prog 39 #[.slice none 0 0, fv] w (ColPost w xs M0) := by
  obtain ⟨hR, hM0, gf, lb, rfl, eg, hrun⟩ := hs
  obtain ⟨i0, hi, hz0, hz1, hz2⟩ := info_parts info3
  have HRun := Lib.hid hrun
  have HR := Lib.hid hR
  have HM0 := Lib.hid hM0
  have EG := Lib.hid eg
  clear hrun hR hM0 eg
  have hd : Fence.wide.depth = none := rfl
  refine callsIn_of_wp_marks Tryd.func39 rfl trivial ?_ rfl
  simp only [Tryd.ntmps39, List.size_toArray, List.length_cons, List.length_nil, Nat.reduceAdd, Nat.reduceSub, Array.replicate_succ, Array.replicate_zero, List.push_toArray, List.append_toArray, List.nil_append, List.cons_append]
  gi_wp2
  have bO := Boxed.new w 22 (.slice none 0 0)
  have hsz : (w.alloc (.cells #[.slice none 0 0] 22)).heap.size = w.heap.size + 1 := by simp
  have hB0 : Below w.heap.size w (w.alloc (.cells #[.slice none 0 0] 22)) := (Below.refl _ w).alloc (Nat.le_refl _) _
  obtain ⟨W0, hW0⟩ : ∃ W0, w.alloc (.cells #[.slice none 0 0] 22) = W0 := ⟨_, rfl⟩
  rw [hW0] at bO hsz hB0 ⊢
  clear hW0
  refine wpIn_rangeM (xs := xs) (R0 := R) (M0 := M0) rfl EG.out (fun W2 h2 => HRun.out W2 ⟨Nat.le_trans hB0.size h2.size, fun k hk _ => (h2.block k (by omega)).trans (hB0.block k hk)⟩) (fun k hk => by have := HR.out k hk; omega) (fun k hk => by have := HM0.out k hk; omega) (fun _ => rfl)
    (ColI w.heap.size M0 w) (fun _ _ _ _ => False) (colI_stable _ _ _) (fun _ => stable_false) ?_
    (fun x a' _ => a' = { tmps := #[.slice none 0 0, .func (.func gf) #[] lb, .pointer (some ⟨w.heap.size, 0, none⟩), undef, .slice none 0 0, .int .i64 x, .func (.func gf) #[] lb, .int .i64 x, undef, undef, undef, undef, undef], defers := [] }) (fun _ _ _ _ h _ => h) ?assign ?body ?done ?stop
  · exact ⟨⟨_, bO, World.ownsRow_nil _ _ _ _, trivial, fun h => by have := HM0.out _ h; omega, fun g hg => by simp [Value.ownBlock] at hg⟩, TurnM.of_below hB0, fun k hk => .inl hk⟩
  case assign =>
    intro m l pre x M W K hi hin hK
    have HK := Lib.hid hK
    have HI := Lib.hid hi
    clear hK hi
    gi_wp2
    exact HK.out _ _ (KeepM.refl _ _) HI.out rfl
  case body =>
    rintro m l pre x M a' W ⟨⟨v, hv, hrow, _, hnb, hng⟩, hfr⟩ hin rfl ⟨rest, hx⟩
    have HX := Lib.hid hx
    have HRow := Lib.hid hrow
    have HNG := Lib.hid hng
    have HFr := Lib.hid hfr
    have HIn := Lib.hid hin
    have hc := hv.cell
    have hpl : pre.length + 1 ≤ 1000000 := by have := congrArg List.length hx; simp at this; omega
    have hle := hv.lt
    clear hx hrow hng hfr hin
    gi_wp2_with (gi_at_builtin; refine wpListIn_append_lies _ rfl _ _ 22 rfl w.heap.size 3 i0 (.int .i64 0) 1 8 Tryd.underlying22 hi hz0 hz1 hz2 rfl (by decide) _ _ _ rfl (HRow.out.alloc _) ⟨W.heap.size, 0, none⟩ 1 1 [.int .i64 x] rfl rfl (cell_one_new _ _ _) (by simp [Value.oneCell']) (by omega) (by unfold maxLen; omega) (by omega) (by simp; omega) (W.heap.size + 1) (by simp) ?_; intro g' cap' w1 hown' hgrow hor hlt; obtain ⟨hv1, hv2, hr2, hk2, hb2⟩ := hv.appended (by decide) HRow.out (Nat.le_of_lt hle) (Nat.le_refl _) hown' hgrow; have hc1 := hv1.cell; have hf1 := hv1.frozen; have HO := Lib.hid hown'; have HG := Lib.hid hgrow; have HOr := Lib.hid hor; have HV2 := Lib.hid hv2; have HR2 := Lib.hid hr2; clear hown' hgrow hor hv2 hr2 hk2 hb2 hv1)
    have hT : TurnM (fun k => k = w.heap.size ∨ v.ownBlock = some k) W (w1.setCell ⟨w.heap.size, 0, none⟩ (.slice (some ⟨g', 0, none⟩) (pre.length + 1) cap')) :=
      ((TurnM.alloc _ W _).trans (TurnM.grown HG.out fun k e => .inr e)).trans (TurnM.setCell w1 (.inl rfl) _)
    have hge : ∀ k, v.ownBlock = some k → w.heap.size ≤ k := fun k e => (HRow.out.lt k e).1
    refine ⟨KeepM.of_turn hT ?_, ⟨_, HV2.out, ?_, trivial, hnb, ?_⟩, HFr.out.1.on hT ?_, HFr.out.2⟩
    · rintro k hk (hR | hM) (rfl | e)
      · have := HR.out _ hR; omega
      · have := HR.out _ hR; have := hge k e; omega
      · exact hnb hM
      · exact HNG.out k e hM
    · simpa using HR2.out
    · rintro g hg hM
      simp [Value.ownBlock] at hg
      subst hg
      rcases HOr.out with e | e
      · exact HNG.out _ e hM
      · have := HIn.out.lt _ hM; omega
    · rintro k hk (rfl | e)
      · omega
      · have := hge k e; omega
  case done =>
    rintro M W ⟨⟨v, hv, hrow, _, hnb, hng⟩, hfr⟩ hin hK
    have HRow := Lib.hid hrow
    have HFr := Lib.hid hfr
    have HIn := Lib.hid hin
    have HK := Lib.hid hK
    have hc := hv.cell
    clear hrow hng hfr hin hK
    gi_wp2
    refine ⟨by simp, .inl ⟨_, _, rfl, run_takeDeferred HK.out, ?_⟩⟩
    refine ⟨_, results_tmp rfl _ _ _, v, rfl, ownsRow_putObj HRow.out _ HK.out rfl, HFr.out.1.on (TurnM.putObj (M := fun k => k = W0.heap.size) W rfl _) (fun k hk e => by omega)⟩
  case stop =>
    intro c pre M W _ h _ _
    exact h.elim

set_option maxRecDepth 100000 in
theorem collect_calls (fv : Value) (xs : List Int) (R M0 : Fp) (w : World) (hlen : xs.length ≤ 1000000) (hs : SeqG fv xs R M0 w) :
    Calls Tryd.prog 28 #[fv] w (ColPost w xs M0) := by
  have HS := Lib.hid hs
  obtain ⟨_, _, gf, lb, rfl, _⟩ := hs
  go_enter Tryd.func28, Tryd.ntmps28
  go_wp2_with fail
  refine (callsIn_wide.1 (appendSeq_in 9 _ xs R M0 w hlen HS.out)).mono ?_
  rintro e w1 ⟨v, rfl, ho, ht⟩
  have HO := Lib.hid ho
  have HT := Lib.hid ht
  clear ho ht
  go_wp2
  go_ret
  exact ⟨v, rfl, HO.out, HT.out⟩

theorem fn_nil26 (w : World) : (binOp .eql 29 Value.nilFunc Value.nilFunc).run Tryd.prog w = .ok (.bool true) w := by kernel_rfl
theorem fn_eq26 (w : World) (g : FuncId) (lb : Array Value) : (binOp .eql 29 (.func (.func g) #[] lb) Value.nilFunc).run Tryd.prog w = .ok (.bool false) w := by kernel_rfl
set_option maxRecDepth 100000 in
theorem list_calls (fv : Value) (xs : List Int) (R M0 : Fp) (w : World) (hlen : xs.length ≤ 1000000) (hs : SeqG fv xs R M0 w) :
    Calls Tryd.prog 15 #[fv] w (ColPost w xs M0) := by
  have HS := Lib.hid hs
  obtain ⟨_, _, gf, lb, rfl, _⟩ := hs
  have hq := fn_eq26
  go_enter Tryd.func15, Tryd.ntmps15
  go_wp2_with (go_at_call 28; refine (collect_calls _ xs R M0 w hlen HS.out).mono ?_; rintro e w1 ⟨v, rfl, ho, ht⟩; have HO := Lib.hid ho; have HT := Lib.hid ht; clear ho ht)
  go_ret
  exact ⟨v, rfl, HO.out, HT.out⟩
set_option maxRecDepth 100000 in
theorem list_nil (w : World) : Calls Tryd.prog 15 #[Value.nilFunc] w fun e w' => e = .returned (.slice none 0 0) ∧ w' = w := by
  have hq := fn_nil26
  go_enter Tryd.func15, Tryd.ntmps15
  go_wp2
  go_ret
  exact ⟨rfl, rfl⟩

theorem ownsRow_base {W : World} {b b' : Nat} {e : TypeId} {s : Nat} {v : Value} {n : Nat} {xs : List Value} (h : W.ownsRow b e s v n xs) (hb : b' ≤ b) : W.ownsRow b' e s v n xs := by
  refine ⟨h.1, h.2.imp id ?_⟩
  rintro ⟨g, cap, cur, h1, h2, r⟩
  exact ⟨g, cap, cur, h1, Nat.le_trans hb h2, r⟩

def IntsI (n₀ : Nat) (most : Int) (M0 : Fp) (w : World) (pre : List Int) (M : Fp) (W : World) : Prop :=
  ((W.heap[n₀]? = some (.cells #[.int .i64 most] 3 (0, 0)) ∧ ¬ M n₀) ∧
  (∃ v, Boxed W (n₀ + 1) 22 v ∧ W.ownsRow (n₀ + 1) 3 1 v pre.length (pre.map (Value.int .i64)) ∧ True ∧ ¬ M (n₀ + 1) ∧ ∀ g, v.ownBlock = some g → ¬ M g)) ∧ (TurnM M0 w W ∧ ∀ k, M k → M0 k ∨ w.heap.size ≤ k)
theorem intsI_stable (n₀ : Nat) (most : Int) (M0 : Fp) (w : World) : Stable (IntsI n₀ most M0 w) :=
  ((stable_block n₀ (fun _ => .cells #[.int .i64 most] 3 (0, 0))).and (stable_row (n₀ + 1) (n₀ + 1) 22 3 1 (fun pre : List Int => pre.length) (fun pre => pre.map (Value.int .i64)) (fun _ _ => True))).and (stable_frame M0 w)
def IntsX (n₀ : Nat) (most : Int) (M0 : Fp) (w : World) (c : Code) (pre : List Int) (M : Fp) (W : World) : Prop :=
  (c = .exit 0 ∧ (pre.length : Int) = most) ∧ IntsI n₀ most M0 w pre M W

set_option maxHeartbeats 2000000 in
set_option maxRecDepth 100000 in
theorem ints_in (n : Nat) (fv : Value) (xs : List Int) (most : Int) (R M0 : Fp) (w : World) (hlen : xs.length ≤ 1000000) (hm : 1 ≤ most) (hs : SeqG fv xs R M0 w) :
    CallsIn Fence.wide n Tryd.prog 22 #[fv, .int .i64 most] w (ColPost w (xs.take most.toNat) M0) := by
  obtain ⟨hR, hM0, gf, lb, rfl, eg, hrun⟩ := hs
  obtain ⟨i0, hi, hz0, hz1, hz2⟩ := info_parts info3
  have HRun := Lib.hid hrun
  have HR := Lib.hid hR
  have HM0 := Lib.hid hM0
  have EG := Lib.hid eg
  clear hrun hR hM0 eg
  have hd : Fence.wide.depth = none := rfl
  have hq := fn_eq26
  have hm0 : decide (most < 1) = false := by simpa using hm
  refine callsIn_of_wp_marks Tryd.func22 rfl trivial ?_ rfl
  simp only [Tryd.ntmps22, List.size_toArray, List.length_cons, List.length_nil, Nat.reduceAdd, Nat.reduceSub, Array.replicate_succ, Array.replicate_zero, List.push_toArray, List.append_toArray, List.nil_append, List.cons_append]
  gi_wp2
  have bM : ((w.alloc (.cells #[.int .i64 most] 3)).alloc (.cells #[.slice none 0 0] 22)).heap[w.heap.size]? = some (.cells #[.int .i64 most] 3 (0, 0)) := (Boxed.new w 3 (.int .i64 most)).alloc _
  have bO := Boxed.new (w.alloc (.cells #[.int .i64 most] 3)) 22 (.slice none 0 0)
  simp only [World.size_alloc] at bO
  have hB0 : Below w.heap.size w ((w.alloc (.cells #[.int .i64 most] 3)).alloc (.cells #[.slice none 0 0] 22)) := ((Below.refl _ w).alloc (Nat.le_refl _) _).alloc (by simp) _
  have hsz : ((w.alloc (.cells #[.int .i64 most] 3)).alloc (.cells #[.slice none 0 0] 22)).heap.size = w.heap.size + 2 := by simp
  obtain ⟨W0, hW0⟩ : ∃ W0, (w.alloc (.cells #[.int .i64 most] 3)).alloc (.cells #[.slice none 0 0] 22) = W0 := ⟨_, rfl⟩
  rw [hW0] at bM bO hsz hB0 ⊢
  clear hW0
  refine wpIn_rangeM (xs := xs) (R0 := R) (M0 := M0) rfl EG.out (fun W2 h2 => HRun.out W2 ⟨Nat.le_trans hB0.size h2.size, fun k hk _ => (h2.block k (by omega)).trans (hB0.block k hk)⟩) (fun k hk => by have := HR.out k hk; omega) (fun k hk => by have := HM0.out k hk; omega) (fun _ => rfl)
    (fun pre M W => (pre.length : Int) < most ∧ IntsI w.heap.size most M0 w pre M W) (IntsX w.heap.size most M0 w) ((stable_pure _).and (intsI_stable _ _ _ _)) (fun _ => (stable_pure _).and (intsI_stable _ _ _ _)) ?_
    (fun x a' _ => a' = { tmps := #[.func (.func gf) #[] lb, .int .i64 most, undef, .pointer (some ⟨w.heap.size, 0, none⟩), .slice none 0 0, .pointer (some ⟨w.heap.size + 1, 0, none⟩), .int .i64 x, .func (.func gf) #[] lb, .bool false, .bool false, .int .i64 most, .bool false, .bool false, .func (.func gf) #[] lb, .int .i64 x, undef, undef, undef, undef, undef, undef, undef, undef, undef], defers := [] }) (fun _ _ _ _ h _ => h) ?assign ?body ?done ?stop
  · exact ⟨by simp; omega, ⟨⟨bM, fun h => by have := HM0.out _ h; omega⟩, _, bO, World.ownsRow_nil _ _ _ _, trivial, fun h => by have := HM0.out _ h; omega, fun g hg => by simp [Value.ownBlock] at hg⟩, TurnM.of_below hB0, fun k hk => .inl hk⟩
  case assign =>
    intro m l pre x M W K hi hin hK
    have HK := Lib.hid hK
    have HI := Lib.hid hi
    clear hK hi
    gi_wp2
    exact HK.out _ _ (KeepM.refl _ _) HI.out rfl
  case body =>
    rintro m l pre x M a' W ⟨hlm, ⟨⟨hbm, hnm⟩, v, hv, hrow, _, hnb, hng⟩, hfr⟩ hin rfl ⟨rest, hx⟩
    have HX := Lib.hid hx
    have HRow := Lib.hid hrow
    have HNG := Lib.hid hng
    have HFr := Lib.hid hfr
    have HIn := Lib.hid hin
    have HBM := Lib.hid hbm
    have hc := hv.cell
    have hpl : pre.length + 1 ≤ 1000000 := by have := congrArg List.length hx; simp at this; omega
    have hle := hv.lt
    clear hx hrow hng hfr hin hbm
    gi_wp2_with (gi_at_builtin; refine wpListIn_append_lies _ rfl _ _ 22 rfl (w.heap.size + 1) 3 i0 (.int .i64 0) 1 8 Tryd.underlying22 hi hz0 hz1 hz2 rfl (by decide) _ _ _ rfl (HRow.out.alloc _) ⟨W.heap.size, 0, none⟩ 1 1 [.int .i64 x] rfl rfl (cell_one_new _ _ _) (by simp [Value.oneCell']) (by omega) (by unfold maxLen; omega) (by omega) (by simp; omega) (W.heap.size + 1) (by simp) ?_; intro g' cap' w1 hown' hgrow hor hlt; obtain ⟨hv1, hv2, hr2, hk2, hb2⟩ := hv.appended (by decide) HRow.out (by omega) (Nat.le_refl _) hown' hgrow; have hm1 : w1.heap[w.heap.size]? = some (.cells #[.int .i64 most] 3 (0, 0)) := ((hgrow.block _ (by simp; omega) (fun e => by have := (HRow.out.lt _ e.symm).1; omega)).trans ((Below.heap_alloc W _ _ (by omega)).trans HBM.out)); have hcm : w1.cell? ⟨w.heap.size, 0, none⟩ = some (.int .i64 most) := (by simp [World.cell?, hm1]); have hc1 := hv1.cell; have hf1 := hv1.frozen; have HO := Lib.hid hown'; have HG := Lib.hid hgrow; have HOr := Lib.hid hor; have HV2 := Lib.hid hv2; have HR2 := Lib.hid hr2; have HM1 := Lib.hid hm1; clear hown' hgrow hor hv2 hr2 hk2 hb2 hv1 hm1)
    all_goals
      have hT : TurnM (fun k => k = w.heap.size + 1 ∨ v.ownBlock = some k) W (w1.setCell ⟨w.heap.size + 1, 0, none⟩ (.slice (some ⟨g', 0, none⟩) (pre.length + 1) cap')) :=
        ((TurnM.alloc _ W _).trans (TurnM.grown HG.out fun k e => .inr e)).trans (TurnM.setCell w1 (.inl rfl) _)
      have hge : ∀ k, v.ownBlock = some k → w.heap.size + 1 ≤ k := fun k e => (HRow.out.lt k e).1
      have hKK : KeepM (fun k => R k ∨ M k) W (w1.setCell ⟨w.heap.size + 1, 0, none⟩ (.slice (some ⟨g', 0, none⟩) (pre.length + 1) cap')) := by
        refine KeepM.of_turn hT ?_
        rintro k hk (hR | hM) (rfl | e)
        · have := HR.out _ hR; omega
        · have := HR.out _ hR; have := hge k e; omega
        · exact hnb hM
        · exact HNG.out k e hM
      have hII : IntsI w.heap.size most M0 w (pre ++ [x]) M (w1.setCell ⟨w.heap.size + 1, 0, none⟩ (.slice (some ⟨g', 0, none⟩) (pre.length + 1) cap')) := by
        refine ⟨⟨⟨(hT.block _ (by omega) (fun e => ?_)).trans HBM.out, hnm⟩, _, HV2.out, by simpa using HR2.out, trivial, hnb, ?_⟩, HFr.out.1.on hT ?_, HFr.out.2⟩
        · rcases e with e | e
          · omega
          · have := hge _ e; omega
        · rintro g hg hM
          simp [Value.ownBlock] at hg
          subst hg
          rcases HOr.out with e | e
          · exact HNG.out _ e hM
          · have := HIn.out.lt _ hM; omega
        · rintro k hk (rfl | e)
          · omega
          · have := hge k e; omega
      first
        | exact ⟨hKK, by simp; omega, hII⟩
        | exact ⟨hKK, ⟨rfl, by simp; omega⟩, hII⟩
  case done =>
    rintro M W ⟨hlm, ⟨⟨hbm, hnm⟩, v, hv, hrow, _, hnb, hng⟩, hfr⟩ hin hK
    have HRow := Lib.hid hrow
    have HFr := Lib.hid hfr
    have HK := Lib.hid hK
    have hc := hv.cell
    clear hrow hng hfr hin hK hbm
    gi_wp2
    refine ⟨by simp, .inl ⟨_, _, rfl, run_takeDeferred HK.out, ?_⟩⟩
    refine ⟨_, results_tmp rfl _ _ _, v, rfl, ownsRow_base (ownsRow_putObj ?_ _ HK.out rfl) (Nat.le_succ _), HFr.out.1.on (TurnM.putObj (M := fun k => k = W0.heap.size) W rfl _) (fun k hk e => by omega)⟩
    rw [List.take_of_length_le (by omega)]
    exact HRow.out
  case stop =>
    rintro c pre M W hpre ⟨⟨rfl, hlm⟩, ⟨⟨hbm, hnm⟩, v, hv, hrow, _, hnb, hng⟩, hfr⟩ hin hK
    have HRow := Lib.hid hrow
    have HFr := Lib.hid hfr
    have HK := Lib.hid hK
    have HPre := Lib.hid hpre
    have hc := hv.cell
    clear hrow hng hfr hin hK hbm hpre
    gi_wp2
    refine ⟨by simp, .inl ⟨_, _, rfl, run_takeDeferred HK.out, ?_⟩⟩
    have hpt : xs.take most.toNat = pre := by
      rw [List.prefix_iff_eq_take.1 HPre.out, show pre.length = most.toNat by omega]
    refine ⟨_, results_tmp rfl _ _ _, v, rfl, ownsRow_base (ownsRow_putObj ?_ _ HK.out rfl) (Nat.le_succ _), HFr.out.1.on (TurnM.putObj (M := fun k => k = W0.heap.size) W rfl _) (fun k hk e => by omega)⟩
    rw [hpt]
    exact HRow.out

theorem ints_calls (fv : Value) (xs : List Int) (most : Int) (R M0 : Fp) (w : World) (hlen : xs.length ≤ 1000000) (hm : 1 ≤ most) (hs : SeqG fv xs R M0 w) :
    Calls Tryd.prog 22 #[fv, .int .i64 most] w (ColPost w (xs.take most.toNat) M0) := callsIn_wide.1 (ints_in 9 fv xs most R M0 w hlen hm hs)
set_option maxRecDepth 100000 in
theorem ints_no (fv : Value) (xs : List Int) (most : Int) (R M0 : Fp) (w : World) (hm : most < 1) (hs : SeqG fv xs R M0 w) :
    Calls Tryd.prog 22 #[fv, .int .i64 most] w (ColPost w [] M0) := by
  have HS := Lib.hid hs
  obtain ⟨_, _, gf, lb, rfl, _⟩ := hs
  have hq := fn_eq26
  have hm0 : decide (most < 1) = true := by simpa using hm
  go_enter Tryd.func22, Tryd.ntmps22
  go_wp2
  go_ret
  exact ⟨_, rfl, World.ownsRow_nil _ _ _ _, TurnM.of_below (((Below.refl _ w).alloc (Nat.le_refl _) _).alloc (by simp) _)⟩
end Go.Proofs.YtnagjilogadinaaDoor.SeqI
