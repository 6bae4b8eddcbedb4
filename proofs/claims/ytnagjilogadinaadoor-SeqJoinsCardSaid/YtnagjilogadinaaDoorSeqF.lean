/- Count and Filter, as sequences, tell what the plain lists say. -/
import Derived.Test.YtnagjilogadinaaDoorSeqI

namespace Go.Proofs.YtnagjilogadinaaDoor.SeqI
open Go.RowKit Go.Shelf Go.Proofs.YtnagjilogadinaaDoor.SeqM
attribute [local go_sem] Oper.semAt_some
set_option linter.unusedVariables false

/-- The numbers from lo to below hi. -/
def upto (lo : Int) (n : Nat) : List Int := (List.range n).map fun (i : Nat) => lo + (i : Int)
theorem upto_take (lo : Int) (n k : Nat) (h : k ≤ n) : (upto lo n).take k = upto lo k := by
  unfold upto
  rw [← List.map_take, List.take_range, Nat.min_eq_left h]
theorem upto_succ (lo : Int) (k : Nat) : upto lo (k + 1) = upto lo k ++ [lo + (k : Int)] := by simp [upto, List.range_succ]

set_option maxHeartbeats 2000000 in
set_option maxRecDepth 100000 in
theorem count1 (b : Nat) (lo hi : Int) (h1 : -1000000 ≤ lo) (h2 : hi ≤ 1000000) (W : World) (hb1 : W.cell? ⟨b, 0, none⟩ = some (.int .i64 lo)) (hb2 : W.cell? ⟨b + 1, 0, none⟩ = some (.int .i64 hi)) (hlt : b + 1 < W.heap.size) :
    RunM Tryd.prog 35 #[.pointer (some ⟨b, 0, none⟩), .pointer (some ⟨b + 1, 0, none⟩)] eI (upto lo (hi - lo).toNat) (fun k => k = b ∨ k = b + 1) (fun _ => False) W := by
  intro n l J Jx hJ hJx hY M hM0 hMlt h0
  have HJ := Lib.hid hJ
  have HY := Lib.hid hY
  have H0 := Lib.hid h0
  have HM := Lib.hid hMlt
  clear hJ hY h0 hM0 hMlt hJx
  have hd : Fence.wide.depth = none := rfl
  refine callsIn_of_wp Tryd.func35 rfl trivial ?_ rfl
  simp only [Tryd.ntmps35, List.size_toArray, List.length_cons, List.length_nil, Nat.reduceAdd, Nat.reduceSub, Array.replicate_succ, Array.replicate_zero, List.push_toArray, List.append_toArray, List.nil_append, List.cons_append]
  gi_wp2
  gi_loopw [4] (fun i wr => ∃ k : Nat, k ≤ (hi - lo).toNat ∧ i = .int .i64 (lo + (k : Int)) ∧ J (upto lo k) M wr ∧ KeepM (fun k => (k = b ∨ k = b + 1) ∨ M k) W wr) (fun i _ => (hi - intOf i).toNat)
  case atStart => exact ⟨0, Nat.zero_le _, by simp, by simpa [upto] using H0.out, KeepM.refl _ _⟩
  case round =>
    obtain ⟨k, hk, rfl, hJs, hkp⟩ := hrel
    have HJs := Lib.hid hJs
    have HK := Lib.hid hkp
    have hb2' : wr.cell? ⟨b + 1, 0, none⟩ = some (.int .i64 hi) := (World.cell?_of_block (w := W) (hkp.block (b + 1) hlt (.inl (.inr rfl)))).trans hb2
    clear hJs hkp
    by_cases hl : lo + (k : Int) < hi
    · obtain ⟨fn, tmps, assign, body, hy, hR⟩ := HY.out (upto lo k) (lo + (k : Int)) M wr HJs.out (fun _ h => h.elim) (fun i hi => Nat.lt_of_lt_of_le (HM.out i hi) HK.out.size) ⟨(upto lo (hi - lo).toNat).drop (k + 1), by
          have e := List.take_append_drop (k + 1) (upto lo (hi - lo).toNat)
          rw [upto_take lo _ _ (by omega), upto_succ, List.append_assoc] at e
          exact e.symm⟩ (n - 1)
      have HRR := Lib.hid hR
      clear hR
      gi_wp2
      refine HRR.out.mono ?_
      rintro e W3 (⟨rfl, hJ3, hk3⟩ | ⟨rfl, hJ3, hk3⟩)
      · have HJ3 := Lib.hid hJ3
        have HK3 := Lib.hid hk3
        clear hJ3 hk3
        gi_wp2
        go_roundw
        case rel => exact ⟨k + 1, by omega, by simp; omega, by rw [upto_succ]; exact HJ3.out, HK.out.trans HK3.out⟩
        case measure => simp [intOf]; omega
      · have HJ3 := Lib.hid hJ3
        have HK3 := Lib.hid hk3
        clear hJ3 hk3
        gi_wp2
        refine bodyPost_ret (results_none rfl _ _ _) rfl ?_
        exact ⟨⟨_, rfl⟩, M, fun _ h => h, fun i hi => Nat.lt_of_lt_of_le (HM.out i hi) (Nat.le_trans HK.out.size HK3.out.size), .inr ⟨_, by rw [← upto_succ, ← upto_take lo (hi - lo).toNat (k + 1) (by omega)]; exact List.take_prefix _ _, HJ3.out⟩⟩
    · obtain rfl : k = (hi - lo).toNat := by omega
      gi_wp2
      go_end0
      exact ⟨⟨_, rfl⟩, M, fun _ h => h, fun i hi => Nat.lt_of_lt_of_le (HM.out i hi) HK.out.size, .inl HJs.out⟩

theorem enters38 : ∀ args w, (callFunc 35 args).run Tryd.prog w = .ok (.enter 35 args) w := enters_of Tryd.func35 (by kernel_rfl) rfl

set_option maxRecDepth 100000 in
theorem count_calls (lo hi : Int) (h1 : -1000000 ≤ lo) (h2 : hi ≤ 1000000) (w : World) : Calls Tryd.prog 21 #[.int .i64 lo, .int .i64 hi] w (SeqPost w (upto lo (hi - lo).toNat)) := by
  go_enter Tryd.func21, Tryd.ntmps21
  go_wp2
  go_ret
  have hB : Below w.heap.size w ((w.alloc (.cells #[.int .i64 lo] 3)).alloc (.cells #[.int .i64 hi] 3)) := ((Below.refl _ w).alloc (Nat.le_refl _) _).alloc (by simp) _
  have c1 := ((Boxed.new w 3 (.int .i64 lo)).alloc (.cells #[.int .i64 hi] 3))
  have c2 := Boxed.new (w.alloc (.cells #[.int .i64 lo] 3)) 3 (.int .i64 hi)
  simp only [World.size_alloc] at c2
  refine ⟨_, fun k => k = w.heap.size ∨ k = w.heap.size + 1, rfl, ⟨?_, 35, _, rfl, enters38, fun W2 hk => ?_⟩, ?_, hB⟩
  · rintro k (rfl | rfl) <;> simp <;> omega
  · have k1 : Boxed W2 w.heap.size 3 (.int .i64 lo) := (hk.block _ c1.lt (.inl rfl)).trans c1
    have k2 : Boxed W2 (w.heap.size + 1) 3 (.int .i64 hi) := (hk.block _ c2.lt (.inr rfl)).trans c2
    exact count1 w.heap.size lo hi h1 h2 W2 k1.cell k2.cell k2.lt
  · rintro k (rfl | rfl) <;> omega

/-- A function value that answers φ. -/
def FnV (fv : Value) (φ : Int → Value) (R : Fp) (W : World) : Prop :=
  (∀ k, R k → k < W.heap.size) ∧ ∃ g lb, fv = .func (.func g) #[] lb ∧ (∀ args w, (callFunc g args).run Tryd.prog w = .ok (.enter g args) w) ∧
    ∀ W2, KeepM R W W2 → ∀ n x, CallsIn Fence.wide n Tryd.prog g (#[.int .i64 x] ++ lb) W2 fun e w' => e = .returned (φ x) ∧ Below W2.heap.size W2 w'
theorem FnV.keep {fv : Value} {φ : Int → Value} {R : Fp} {W W' : World} (h : FnV fv φ R W) (hk : KeepM R W W') : FnV fv φ R W' := by
  obtain ⟨h1, g, lb, h2, h3, h4⟩ := h
  exact ⟨fun k hR => Nat.lt_of_lt_of_le (h1 k hR) hk.size, g, lb, h2, h3, fun W2 h5 => h4 W2 (hk.trans h5)⟩
theorem FnV.below {fv : Value} {φ : Int → Value} {R : Fp} {W W' : World} (h : FnV fv φ R W) (hb : Below W.heap.size W W') : FnV fv φ R W' :=
  h.keep ⟨hb.size, fun k hk _ => hb.block k hk⟩

/-- What the two boxes and what lies behind them ask to be kept. -/
def R2 (b1 b2 : Nat) (Ra Rb : Fp) : Fp := fun k => (k = b1 ∨ k = b2) ∨ Ra k ∨ Rb k

def FiltI (p : Int → Bool) (l b3 : Nat) (J : List Int → Fp → World → Prop) (Mo R : Fp) (W0 : World) (pre : List Int) (M : Fp) (W : World) : Prop :=
  (J (pre.filter p) (fun k => (Mo k ∨ k = b3) ∨ M k) W) ∧ (W.heap[b3]? = some (.cells #[.func (.yield l) #[] #[]] 26 (0, 0)) ∧ ¬ M b3) ∧ (KeepM R W0 W ∧ ∀ k, R k → ¬ M k)
theorem filtI_stable (p : Int → Bool) (l b3 : Nat) {J : List Int → Fp → World → Prop} (hJ : Stable J) (Mo R : Fp) (W0 : World) (hR : ∀ k, R k → k < W0.heap.size) : Stable (FiltI p l b3 J Mo R W0) :=
  (hJ.map (List.filter p) (fun k => Mo k ∨ k = b3)).and ((stable_block b3 (fun _ => .cells #[.func (.yield l) #[] #[]] 26 (0, 0))).and (stable_keep R W0 hR))
def FiltX (p : Int → Bool) (b3 : Nat) (Jx : List Int → Fp → World → Prop) (Mo : Fp) (c : Code) (pre : List Int) (M : Fp) (W : World) : Prop :=
  c = .ret ∧ Jx (pre.filter p) (fun k => (Mo k ∨ k = b3) ∨ M k) W
theorem filtX_stable (p : Int → Bool) (b3 : Nat) {Jx : List Int → Fp → World → Prop} (hJ : Stable Jx) (Mo : Fp) (c : Code) : Stable (FiltX p b3 Jx Mo c) :=
  (stable_pure (fun _ => c = .ret)).and (hJ.map (List.filter p) (fun k => Mo k ∨ k = b3))

theorem fn_eq37 (w : World) (g : FuncId) (lb : Array Value) : (binOp .eql 26 (.func (.func g) #[] lb) Value.nilFunc).run Tryd.prog w = .ok (.bool false) w := by kernel_rfl

set_option maxHeartbeats 2000000 in
set_option maxRecDepth 100000 in
theorem filter1 (bs bf : Nat) (sv fv : Value) (p : Int → Bool) (xs : List Int) (Rs Rf : Fp) (W : World) (hbs : Boxed W bs 29 sv) (hbf : Boxed W bf 26 fv) (hs : SeqV sv xs Rs W) (hf : FnV fv (fun x => .bool (p x)) Rf W) :
    RunM Tryd.prog 29 #[.pointer (some ⟨bs, 0, none⟩), .pointer (some ⟨bf, 0, none⟩)] eI (xs.filter p) (R2 bs bf Rs Rf) (fun _ => False) W := by
  intro n l J Jx hJ hJx hY Mo hM0 hMlt h0
  obtain ⟨hR, gf, lb, rfl, eg, hrun⟩ := hs
  have hf' := hf
  obtain ⟨hRf, g2, lb2, rfl, eg2, hcall⟩ := hf'
  have HRun := Lib.hid hrun
  have HR := Lib.hid hR
  have EG := Lib.hid eg
  have HJ := Lib.hid hJ
  have HJx := Lib.hid hJx
  have HY := Lib.hid hY
  have HM := Lib.hid hMlt
  have HRf := Lib.hid hRf
  have HC := Lib.hid hcall
  have hsc := hbs.cell
  have hfc := hbf.cell
  have hsl := hbs.lt
  have hfl := hbf.lt
  have hb3 := World.alloc_heap_new W (.cells #[.func (.yield l) #[] #[]] 26)
  have hB0 : Below W.heap.size W (W.alloc (.cells #[.func (.yield l) #[] #[]] 26)) := (Below.refl _ W).alloc (Nat.le_refl _) _
  have H0 := Lib.hid (hJ.own (.cells #[.func (.yield l) #[] #[]] 26) h0)
  have hsz : (W.alloc (.cells #[.func (.yield l) #[] #[]] 26)).heap.size = W.heap.size + 1 := by simp
  have HB3 := Lib.hid hb3
  have HB0 := Lib.hid hB0
  clear hrun hR eg hJ hJx hY h0 hMlt hM0 hf hRf hcall hb3 hB0
  have hd : Fence.wide.depth = none := rfl
  have hq := fn_eq26
  have hq2 := fn_eq37
  refine callsIn_of_wp_marks Tryd.func29 rfl trivial ?_ rfl
  simp only [Tryd.ntmps29, List.size_toArray, List.length_cons, List.length_nil, Nat.reduceAdd, Nat.reduceSub, Array.replicate_succ, Array.replicate_zero, List.push_toArray, List.append_toArray, List.nil_append, List.cons_append]
  gi_wp2
  obtain ⟨W0, hW0⟩ : ∃ W0, W.alloc (.cells #[.func (.yield l) #[] #[]] 26) = W0 := ⟨_, rfl⟩
  rw [hW0] at H0 hsz HB3 HB0 ⊢
  clear hW0
  have HRR : Hid (∀ k, R2 bs bf Rs Rf k → k < W.heap.size) := by
    rintro k ((rfl | rfl) | h | h)
    · exact hsl
    · exact hfl
    · exact HR.out k h
    · exact HRf.out k h
  refine wpIn_rangeM (xs := xs) (R0 := Rs) (M0 := fun _ => False) rfl EG.out (fun W2 h2 => HRun.out W2 ⟨Nat.le_trans HB0.out.size h2.size, fun k hk _ => (h2.block k (by omega)).trans (HB0.out.block k hk)⟩) (fun k hk => by have := HR.out k hk; omega) (fun _ h => h.elim) (fun _ => rfl)
    (FiltI p l W.heap.size J Mo (R2 bs bf Rs Rf) W) (FiltX p W.heap.size Jx Mo) (filtI_stable p l _ HJ.out _ _ _ HRR.out) (fun c => filtX_stable p _ HJx.out _ c) ?_
    (fun x a' _ => a' = { tmps := #[.func (.yield l) #[] #[], .pointer (some ⟨bs, 0, none⟩), .pointer (some ⟨bf, 0, none⟩), .pointer (some ⟨W.heap.size, 0, none⟩), .int .i64 x, .func (.func gf) #[] lb, .bool false, .bool false, .func (.func g2) #[] lb2, .bool false, .bool false, .func (.func gf) #[] lb, .int .i64 x, undef, undef, undef, undef, undef, undef, undef, undef, undef], defers := [] }) (fun _ _ _ _ h _ => h) ?assign ?body ?done ?stop
  · exact ⟨HJ.out [] _ _ W0 W0 H0.out (TurnM.refl _ _) (fun k h => .inl h) (fun k h => .inl (h.elim id False.elim)), ⟨HB3.out, fun h => h⟩, KeepM.of_turn (TurnM.of_below (M := fun _ => False) HB0.out) (fun _ _ _ h => h), fun _ _ h => h⟩
  case assign =>
    intro m l2 pre x M Wb K hi hin hK
    have HK := Lib.hid hK
    have HI := Lib.hid hi
    clear hK hi
    gi_wp2
    exact HK.out _ _ (KeepM.refl _ _) HI.out rfl
  case body =>
    rintro m l2 pre x M a' Wb ⟨hj, ⟨hb, hnb⟩, hkp, hkn⟩ hin rfl ⟨rest, hx⟩
    have HX := Lib.hid hx
    have HJb := Lib.hid hj
    have HIn := Lib.hid hin
    have HKP := Lib.hid hkp
    have HKN := Lib.hid hkn
    have HBb := Lib.hid hb
    have hc3 : Wb.cell? ⟨W.heap.size, 0, none⟩ = some (.func (.yield l) #[] #[]) := by simp [World.cell?, hb]
    have hcf : Wb.cell? ⟨bf, 0, none⟩ = some (.func (.func g2) #[] lb2) := (World.cell?_of_block (w := W) (hkp.block bf hfl (.inl (.inr rfl)))).trans hfc
    clear hx hj hin hkp hkn hb
    have hcall := HC.out Wb (HKP.out.mono fun k _ h => .inr (.inr h))
    gi_wp2_with fail
    refine ⟨trivial, (CallsIn.inRound l2 (hcall (m - 1) x)).mono ?_⟩
    rintro e W2 ⟨rfl, hB2⟩
    clear hcall
    have hs2 := hB2.size
    have hfw : (pre ++ [x]).filter p = pre.filter p ++ [x].filter p := List.filter_append ..
    have hT2 : TurnM (fun _ => False) Wb W2 := TurnM.of_below hB2
    have hJ2 := HJ.out.turn HJb.out (hT2.mono (fun _ _ h => h.elim))
    have hb2 : W2.heap[W.heap.size]? = some (.cells #[.func (.yield l) #[] #[]] 26 (0, 0)) := (hB2.block _ (Array.getElem?_eq_some_iff.1 HBb.out).1).trans HBb.out
    have hK2 : KeepM (fun k => Rs k ∨ M k) Wb W2 := KeepM.of_turn hT2 (fun _ _ _ h => h)
    have hKP2 : KeepM (R2 bs bf Rs Rf) W W2 := HKP.out.trans (KeepM.of_turn hT2 (fun _ _ _ h => h))
    have hc32 : W2.cell? ⟨W.heap.size, 0, none⟩ = some (.func (.yield l) #[] #[]) := by simp [World.cell?, hb2]
    have HJ2 := Lib.hid hJ2
    have Hb2 := Lib.hid hb2
    have HK2 := Lib.hid hK2
    have HKP2 := Lib.hid hKP2
    have HFW := Lib.hid hfw
    have HBB := Lib.hid hB2
    clear hJ2 hb2 hK2 hKP2 hfw hT2 hB2
    by_cases hp : p x = true
    · have hlt : ∀ k, (Mo k ∨ k = W.heap.size) ∨ M k → k < W2.heap.size := by
        have := HKP2.out.size
        rintro k ((h | rfl) | h)
        · have := HM.out k h; omega
        · exact (Array.getElem?_eq_some_iff.1 Hb2.out).1
        · have := HIn.out.lt k h; omega
      obtain ⟨fn, tmps, assign, body, hy, hR⟩ := HY.out (pre.filter p) x (fun k => (Mo k ∨ k = W.heap.size) ∨ M k) W2 HJ2.out (fun _ h => h.elim) hlt ⟨rest.filter p, by rw [HX.out]; simp [hp]⟩ (m - 1)
      have HRd := Lib.hid (roundIn_in (l2 := l2) hR)
      clear hR hlt
      gi_wp2
      refine HRd.out.mono ?_
      have hfw1 : (pre ++ [x]).filter p = pre.filter p ++ [x] := by rw [HFW.out]; simp [hp]
      have HFW1 := Lib.hid hfw1
      clear hfw1
      rintro e W3 (⟨rfl, hJ3, hk3⟩ | ⟨rfl, hJ3, hk3⟩)
      · have HJ3 := Lib.hid hJ3
        have HK3 := Lib.hid hk3
        clear hJ3 hk3
        gi_wp2
        refine ⟨HK2.out.trans (HK3.out.mono ?_), ⟨by rw [HFW1.out]; exact HJ3.out, ⟨(HK3.out.block _ (Array.getElem?_eq_some_iff.1 Hb2.out).1 (.inr (.inl (.inr rfl)))).trans Hb2.out, hnb⟩, HKP2.out.trans (HK3.out.mono fun k _ h => .inl h), HKN.out⟩⟩
        rintro k _ (h | h)
        · exact .inl (.inr (.inl h))
        · exact .inr (.inr h)
      · have HJ3 := Lib.hid hJ3
        have HK3 := Lib.hid hk3
        clear hJ3 hk3
        gi_wp2
        refine ⟨HK2.out.trans (HK3.out.mono ?_), rfl, by rw [HFW1.out]; exact HJ3.out⟩
        rintro k _ (h | h)
        · exact .inl (.inr (.inl h))
        · exact .inr (.inr h)
    · have hp' : p x = false := by simpa using hp
      have hfw1 : (pre ++ [x]).filter p = pre.filter p := by rw [HFW.out]; simp [hp']
      have HFW1 := Lib.hid hfw1
      clear hfw1 hp
      gi_wp2
      refine ⟨fun _ h => (by cases h), ?_⟩
      gi_wp2
      exact ⟨HK2.out, by rw [HFW1.out]; exact HJ2.out, ⟨Hb2.out, hnb⟩, HKP2.out, HKN.out⟩
  case done =>
    rintro M Wb ⟨hj, ⟨hb, hnb⟩, hkp, hkn⟩ hin hK
    have HJb := Lib.hid hj
    have HIn := Lib.hid hin
    have HK := Lib.hid hK
    have HKP := Lib.hid hkp
    have HB := Lib.hid hb
    clear hj hin hK hkp hkn hb
    gi_wp2
    refine ⟨by simp, .inl ⟨_, _, rfl, run_takeDeferred HK.out, ?_⟩⟩
    refine ⟨_, results_none rfl _ _ _, ⟨_, rfl⟩, fun k => (Mo k ∨ k = W.heap.size) ∨ M k, fun k h => .inl (.inl h), ?_, .inl (HJ.out.turn HJb.out (TurnM.putObj Wb (.inr HIn.out.d) _))⟩
    rintro k ((h | rfl) | h)
    · have := HM.out k h; simp; have := (Array.getElem?_eq_some_iff.1 HK.out).1; omega
    · simp; have := (Array.getElem?_eq_some_iff.1 HK.out).1; omega
    · simpa using HIn.out.lt k h
  case stop =>
    rintro c pre M Wb hpre ⟨rfl, hj⟩ hin hK
    have HJb := Lib.hid hj
    have HIn := Lib.hid hin
    have HK := Lib.hid hK
    have HPre := Lib.hid hpre
    clear hj hin hK hpre
    gi_wp2
    refine ⟨by simp, .inl ⟨_, _, rfl, run_takeDeferred HK.out, ?_⟩⟩
    refine ⟨_, results_none rfl _ _ _, ⟨_, rfl⟩, fun k => (Mo k ∨ k = W.heap.size) ∨ M k, fun k h => .inl (.inl h), ?_, .inr ⟨_, HPre.out.filter p, HJx.out.turn HJb.out (TurnM.putObj Wb (.inr HIn.out.d) _)⟩⟩
    rintro k ((h | rfl) | h)
    · have := HM.out k h; simp; have := (Array.getElem?_eq_some_iff.1 HK.out).1; omega
    · simp; have := (Array.getElem?_eq_some_iff.1 HK.out).1; omega
    · simpa using HIn.out.lt k h
end Go.Proofs.YtnagjilogadinaaDoor.SeqI
