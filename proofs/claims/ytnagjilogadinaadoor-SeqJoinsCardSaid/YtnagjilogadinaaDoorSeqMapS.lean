/- Map from numbers to texts, as a sequence, tells each element's image, in order. -/
import Derived.Test.YtnagjilogadinaaDoorSeqF
import Derived.Test.YtnagjilogadinaaDoorSeqS
import Derived.Shelf.RegionOpen

namespace Go.Proofs.YtnagjilogadinaaDoor.SeqK
open Go.RowKit Go.Shelf Go.Proofs.YtnagjilogadinaaDoor.SeqM Go.Proofs.YtnagjilogadinaaDoor.SeqI
attribute [local go_sem] Oper.semAt_some
set_option linter.unusedVariables false
open Go.Proofs.YtnagjilogadinaaDoor.SeqS (eS)

/-- A sequence of texts that may be gone through again and again. -/
def SeqVS (fv : Value) (xs : List ByteArray) (R : Fp) (W : World) : Prop :=
  (∀ k, R k → k < W.heap.size) ∧ ∃ g lb, fv = .func (.func g) #[] lb ∧ (∀ args w, (callFunc g args).run Tryd.prog w = .ok (.enter g args) w) ∧
    ∀ W2, KeepM R W W2 → RunM Tryd.prog g lb eS xs R (fun _ => False) W2
theorem SeqVS.g {fv : Value} {xs : List ByteArray} {R : Fp} {W : World} (h : SeqVS fv xs R W) : SeqS.SeqG fv xs R (fun _ => False) W := by
  obtain ⟨h1, g, lb, h2, h3, h4⟩ := h
  exact ⟨h1, fun _ h => h.elim, g, lb, h2, h3, fun W2 h5 => h4 W2 (h5.mono fun k _ hk => .inl hk)⟩
theorem SeqVS.keep {fv : Value} {xs : List ByteArray} {R : Fp} {W W' : World} (h : SeqVS fv xs R W) (hk : KeepM R W W') : SeqVS fv xs R W' := by
  obtain ⟨h1, g, lb, h2, h3, h4⟩ := h
  exact ⟨fun k hR => Nat.lt_of_lt_of_le (h1 k hR) hk.size, g, lb, h2, h3, fun W2 h5 => h4 W2 (hk.trans h5)⟩
theorem SeqVS.below {fv : Value} {xs : List ByteArray} {R : Fp} {W W' : World} (h : SeqVS fv xs R W) (hb : Below W.heap.size W W') : SeqVS fv xs R W' :=
  h.keep ⟨hb.size, fun k hk _ => hb.block k hk⟩

def MapI (φ : Int → ByteArray) (l b3 : Nat) (J : List ByteArray → Fp → World → Prop) (Mo R : Fp) (W0 : World) (pre : List Int) (M : Fp) (W : World) : Prop :=
  (J (pre.map φ) (fun k => (Mo k ∨ k = b3) ∨ M k) W) ∧ (W.heap[b3]? = some (.cells #[.func (.yield l) #[] #[]] 50 (0, 0)) ∧ ¬ M b3) ∧ (KeepM R W0 W ∧ ∀ k, R k → ¬ M k)
theorem mapI_stable (φ : Int → ByteArray) (l b3 : Nat) {J : List ByteArray → Fp → World → Prop} (hJ : Stable J) (Mo R : Fp) (W0 : World) (hR : ∀ k, R k → k < W0.heap.size) : Stable (MapI φ l b3 J Mo R W0) :=
  (hJ.map (List.map φ) (fun k => Mo k ∨ k = b3)).and ((stable_block b3 (fun _ => .cells #[.func (.yield l) #[] #[]] 50 (0, 0))).and (stable_keep R W0 hR))
def MapX (φ : Int → ByteArray) (b3 : Nat) (Jx : List ByteArray → Fp → World → Prop) (Mo : Fp) (c : Code) (pre : List Int) (M : Fp) (W : World) : Prop :=
  c = .ret ∧ Jx (pre.map φ) (fun k => (Mo k ∨ k = b3) ∨ M k) W
theorem mapX_stable (φ : Int → ByteArray) (b3 : Nat) {Jx : List ByteArray → Fp → World → Prop} (hJ : Stable Jx) (Mo : Fp) (c : Code) : Stable (MapX φ b3 Jx Mo c) :=
  (stable_pure (fun _ => c = .ret)).and (hJ.map (List.map φ) (fun k => Mo k ∨ k = b3))
/-- A function value that answers φ at each of xs. -/
def FnX (fv : Value) (xs : List Int) (φ : Int → Value) (R : Fp) (W : World) : Prop :=
  (∀ k, R k → k < W.heap.size) ∧ ∃ g lb, fv = .func (.func g) #[] lb ∧ (∀ args w, (callFunc g args).run Tryd.prog w = .ok (.enter g args) w) ∧
    ∀ W2, KeepM R W W2 → ∀ n x, x ∈ xs → CallsIn Fence.wide n Tryd.prog g (#[.int .i64 x] ++ lb) W2 fun e w' => e = .returned (φ x) ∧ Below W2.heap.size W2 w'
theorem FnX.keep {fv : Value} {xs : List Int} {φ : Int → Value} {R : Fp} {W W' : World} (h : FnX fv xs φ R W) (hk : KeepM R W W') : FnX fv xs φ R W' := by
  obtain ⟨h1, g, lb, h2, h3, h4⟩ := h
  exact ⟨fun k hR => Nat.lt_of_lt_of_le (h1 k hR) hk.size, g, lb, h2, h3, fun W2 h5 => h4 W2 (hk.trans h5)⟩
theorem FnX.below {fv : Value} {xs : List Int} {φ : Int → Value} {R : Fp} {W W' : World} (h : FnX fv xs φ R W) (hb : Below W.heap.size W W') : FnX fv xs φ R W' :=
  h.keep ⟨hb.size, fun k hk _ => hb.block k hk⟩
theorem fn_eq35 (w : World) (g : FuncId) (lb : Array Value) : (binOp .eql 25 (.func (.func g) #[] lb) Value.nilFunc).run Tryd.prog w = .ok (.bool false) w := by kernel_rfl

set_option maxHeartbeats 2000000 in
set_option maxRecDepth 100000 in
theorem map1 (bs bf : Nat) (sv fv : Value) (φ : Int → ByteArray) (xs : List Int) (Rs Rf : Fp) (W : World) (hbs : Boxed W bs 29 sv) (hbf : Boxed W bf 25 fv) (hs : SeqV sv xs Rs W) (hf : FnX fv xs (fun x => .string (φ x)) Rf W) :
    RunM Tryd.prog 26 #[.pointer (some ⟨bs, 0, none⟩), .pointer (some ⟨bf, 0, none⟩)] eS (xs.map φ) (R2 bs bf Rs Rf) (fun _ => False) W := by
  intro n l J Jx hJ hJx hY Mo hM0 hMlt h0
  obtain ⟨hR, gf, lb, rfl, eg, hrun⟩ := hs
  have hf' := hf
  obtain ⟨hRf, g2, lb2, rfl, eg2, hcall⟩ := hf'
  have HRun := Lib.hid hrun
  have HR := Lib.hid hR
  have EG := Lib.hid eg
  have HJ := Lib.hid hJ
  have HJx := Lib.hid hJx
  have HY := Lib.hid hY
  have HM := Lib.hid hMlt
  have HRf := Lib.hid hRf
  have HC := Lib.hid hcall
  have hsc := hbs.cell
  have hfc := hbf.cell
  have hsl := hbs.lt
  have hfl := hbf.lt
  have hb3 := World.alloc_heap_new W (.cells #[.func (.yield l) #[] #[]] 50)
  have hB0 : Below W.heap.size W (W.alloc (.cells #[.func (.yield l) #[] #[]] 50)) := (Below.refl _ W).alloc (Nat.le_refl _) _
  have H0 := Lib.hid (hJ.own (.cells #[.func (.yield l) #[] #[]] 50) h0)
  have hsz : (W.alloc (.cells #[.func (.yield l) #[] #[]] 50)).heap.size = W.heap.size + 1 := by simp
  have HB3 := Lib.hid hb3
  have HB0 := Lib.hid hB0
  clear hrun hR eg hJ hJx hY h0 hMlt hM0 hf hRf hcall hb3 hB0
  have hd : Fence.wide.depth = none := rfl
  have hq := fn_eq26
  have hq2 := fn_eq35
  refine callsIn_of_wp_marks Tryd.func26 rfl trivial ?_ rfl
  simp only [Tryd.ntmps26, List.size_toArray, List.length_cons, List.length_nil, Nat.reduceAdd, Nat.reduceSub, Array.replicate_succ, Array.replicate_zero, List.push_toArray, List.append_toArray, List.nil_append, List.cons_append]
  gi_wp2
  obtain ⟨W0, hW0⟩ : ∃ W0, W.alloc (.cells #[.func (.yield l) #[] #[]] 50) = W0 := ⟨_, rfl⟩
  rw [hW0] at H0 hsz HB3 HB0 ⊢
  clear hW0
  have HRR : Hid (∀ k, R2 bs bf Rs Rf k → k < W.heap.size) := by
    rintro k ((rfl | rfl) | h | h)
    · exact hsl
    · exact hfl
    · exact HR.out k h
    · exact HRf.out k h
  refine wpIn_rangeM (xs := xs) (R0 := Rs) (M0 := fun _ => False) rfl EG.out (fun W2 h2 => HRun.out W2 ⟨Nat.le_trans HB0.out.size h2.size, fun k hk _ => (h2.block k (by omega)).trans (HB0.out.block k hk)⟩) (fun k hk => by have := HR.out k hk; omega) (fun _ h => h.elim) (fun _ => rfl)
    (MapI φ l W.heap.size J Mo (R2 bs bf Rs Rf) W) (MapX φ W.heap.size Jx Mo) (mapI_stable φ l _ HJ.out _ _ _ HRR.out) (fun c => mapX_stable φ _ HJx.out _ c) ?_
    (fun x a' _ => a' = { tmps := #[.func (.yield l) #[] #[], .pointer (some ⟨bs, 0, none⟩), .pointer (some ⟨bf, 0, none⟩), .pointer (some ⟨W.heap.size, 0, none⟩), .int .i64 x, .func (.func gf) #[] lb, .bool false, .bool false, .func (.func g2) #[] lb2, .bool false, .bool false, .func (.func gf) #[] lb, .int .i64 x, undef, undef, undef, undef, undef, undef], defers := [] }) (fun _ _ _ _ h _ => h) ?assign ?body ?done ?stop
  · exact ⟨HJ.out [] _ _ W0 W0 H0.out (TurnM.refl _ _) (fun k h => .inl h) (fun k h => .inl (h.elim id False.elim)), ⟨HB3.out, fun h => h⟩, KeepM.of_turn (TurnM.of_below (M := fun _ => False) HB0.out) (fun _ _ _ h => h), fun _ _ h => h⟩
  case assign =>
    intro m l2 pre x M Wb K hi hin hK
    have HK := Lib.hid hK
    have HI := Lib.hid hi
    clear hK hi
    gi_wp2
    exact HK.out _ _ (KeepM.refl _ _) HI.out rfl
  case body =>
    rintro m l2 pre x M a' Wb ⟨hj, ⟨hb, hnb⟩, hkp, hkn⟩ hin rfl ⟨rest, hx⟩
    have HX := Lib.hid hx
    have HJb := Lib.hid hj
    have HIn := Lib.hid hin
    have HKP := Lib.hid hkp
    have HKN := Lib.hid hkn
    have HBb := Lib.hid hb
    have hc3 : Wb.cell? ⟨W.heap.size, 0, none⟩ = some (.func (.yield l) #[] #[]) := by simp [World.cell?, hb]
    have hcf : Wb.cell? ⟨bf, 0, none⟩ = some (.func (.func g2) #[] lb2) := (World.cell?_of_block (w := W) (hkp.block bf hfl (.inl (.inr rfl)))).trans hfc
    clear hx hj hin hkp hkn hb
    have hKd : KeepM (R2 bs bf Rs Rf) W Wb.drew := ⟨HKP.out.size, HKP.out.block⟩
    have hcall := fun n => HC.out Wb.drew (hKd.mono fun k _ h => .inr (.inr h)) n x (by rw [HX.out]; simp)
    have hfw1 : (pre ++ [x]).map φ = pre.map φ ++ [φ x] := by simp
    have HFW1 := Lib.hid hfw1
    have mixed : Tryd.prog.follows Departure.mixedOrders = true := by kernel_rfl
    have HAll : Hid (∀ W2, Below Wb.drew.heap.size Wb.drew W2 → W2.heap[W.heap.size]? = some (.cells #[.func (.yield l) #[] #[]] 50 (0, 0)) ∧ KeepM (fun k => Rs k ∨ M k) Wb W2 ∧ KeepM (R2 bs bf Rs Rf) W W2 ∧
        YieldAt Fence.wide (m - 1) Tryd.prog l (eS (φ x)) W2 fun e W' => ∃ b, e = .returned (.bool b) ∧ ((b = true ∧ J (pre.map φ ++ [φ x]) (fun k => (Mo k ∨ k = W.heap.size) ∨ M k) W' ∧ KeepM (fun k => R2 bs bf Rs Rf k ∨ ((Mo k ∨ k = W.heap.size) ∨ M k)) W2 W') ∨ (b = false ∧ Jx (pre.map φ ++ [φ x]) (fun k => (Mo k ∨ k = W.heap.size) ∨ M k) W' ∧ KeepM (fun k => R2 bs bf Rs Rf k ∨ ((Mo k ∨ k = W.heap.size) ∨ M k)) W2 W'))) := by
      intro W2 hB2'
      have hB2 : Below Wb.heap.size Wb W2 := ⟨hB2'.os, hB2'.tape, hB2'.output, hB2'.size, hB2'.block⟩
      have hT2 : TurnM (fun _ => False) Wb W2 := TurnM.of_below hB2
      have hJ2 := HJ.out.turn HJb.out (hT2.mono (fun _ _ h => h.elim))
      have hb2 : W2.heap[W.heap.size]? = some (.cells #[.func (.yield l) #[] #[]] 50 (0, 0)) := (hB2.block _ (Array.getElem?_eq_some_iff.1 HBb.out).1).trans HBb.out
      have hKP2 : KeepM (R2 bs bf Rs Rf) W W2 := HKP.out.trans (KeepM.of_turn hT2 (fun _ _ _ h => h))
      have hlt : ∀ k, (Mo k ∨ k = W.heap.size) ∨ M k → k < W2.heap.size := by
        have := hKP2.size
        have := hB2.size
        rintro k ((h | rfl) | h)
        · have := HM.out k h; omega
        · exact (Array.getElem?_eq_some_iff.1 hb2).1
        · have := HIn.out.lt k h; omega
      refine ⟨hb2, KeepM.of_turn hT2 (fun _ _ _ h => h), hKP2, (HY.out (pre.map φ) (φ x) (fun k => (Mo k ∨ k = W.heap.size) ∨ M k) W2 hJ2 (fun _ h => h.elim) hlt ⟨rest.map φ, by rw [HX.out]; simp⟩ (m - 1)).mono ?_⟩
      rintro e W' (⟨rfl, h⟩ | ⟨rfl, h⟩)
      · exact ⟨true, rfl, .inl ⟨rfl, h⟩⟩
      · exact ⟨false, rfl, .inr ⟨rfl, h⟩⟩
    clear hfw1
    gi_wp2
    gi_region_with_o (first
      | (refine ⟨trivial, (CallsIn.inRound l2 (hcall (m - 1))).mono ?_⟩; rintro e W2 ⟨rfl, hB2⟩; obtain ⟨hb2, hK2, hKP2, fn, tmps, assign, body, hy, hR⟩ := HAll.out W2 hB2; have hc32 : W2.cell? ⟨W.heap.size, 0, none⟩ = some (.func (.yield l) #[] #[]) := (by simp [World.cell?, hb2]); have Hb2 := Lib.hid hb2; have HK2 := Lib.hid hK2; have HKP2 := Lib.hid hKP2; have HRd := Lib.hid (roundIn_in (l2 := l2) hR); clear hb2 hK2 hKP2 hR hB2)
      | (refine HRd.out.mono ?_; rintro e W3 ⟨b, rfl, hB3⟩; have HB3' := Lib.hid hB3; clear hB3))
    all_goals
      have hmo : ∀ k, k < W2.heap.size → (Rs k ∨ M k) → (R2 bs bf Rs Rf k ∨ ((Mo k ∨ k = W.heap.size) ∨ M k)) := fun k _ h => h.elim (fun h => .inl (.inr (.inl h))) (fun h => .inr (.inr h))
      have HMo := Lib.hid hmo
      clear hmo
      rcases HB3'.out with ⟨rfl, hJ3, hk3⟩ | ⟨rfl, hJ3, hk3⟩
      · have HJ3 := Lib.hid hJ3
        have HK3 := Lib.hid hk3
        clear hJ3 hk3
        gi_wp2
        exact ⟨HK2.out.trans (HK3.out.mono HMo.out), by rw [HFW1.out]; exact HJ3.out, ⟨(HK3.out.block _ (Array.getElem?_eq_some_iff.1 Hb2.out).1 (.inr (.inl (.inr rfl)))).trans Hb2.out, hnb⟩, HKP2.out.trans (HK3.out.mono fun k _ h => .inl h), HKN.out⟩
      · have HJ3 := Lib.hid hJ3
        have HK3 := Lib.hid hk3
        clear hJ3 hk3
        gi_wp2
        exact ⟨HK2.out.trans (HK3.out.mono HMo.out), rfl, by rw [HFW1.out]; exact HJ3.out⟩
  case done =>
    rintro M Wb ⟨hj, ⟨hb, hnb⟩, hkp, hkn⟩ hin hK
    have HJb := Lib.hid hj
    have HIn := Lib.hid hin
    have HK := Lib.hid hK
    have HKP := Lib.hid hkp
    have HB := Lib.hid hb
    clear hj hin hK hkp hkn hb
    gi_wp2
    refine ⟨by simp, .inl ⟨_, _, rfl, run_takeDeferred HK.out, ?_⟩⟩
    refine ⟨_, results_none rfl _ _ _, ⟨_, rfl⟩, fun k => (Mo k ∨ k = W.heap.size) ∨ M k, fun k h => .inl (.inl h), ?_, .inl (HJ.out.turn HJb.out (TurnM.putObj Wb (.inr HIn.out.d) _))⟩
    rintro k ((h | rfl) | h)
    · have := HM.out k h; simp; have := (Array.getElem?_eq_some_iff.1 HK.out).1; omega
    · simp; have := (Array.getElem?_eq_some_iff.1 HK.out).1; omega
    · simpa using HIn.out.lt k h
  case stop =>
    rintro c pre M Wb hpre ⟨rfl, hj⟩ hin hK
    have HJb := Lib.hid hj
    have HIn := Lib.hid hin
    have HK := Lib.hid hK
    have HPre := Lib.hid hpre
    clear hj hin hK hpre
    gi_wp2
    refine ⟨by simp, .inl ⟨_, _, rfl, run_takeDeferred HK.out, ?_⟩⟩
    refine ⟨_, results_none rfl _ _ _, ⟨_, rfl⟩, fun k => (Mo k ∨ k = W.heap.size) ∨ M k, fun k h => .inl (.inl h), ?_, .inr ⟨_, HPre.out.map φ, HJx.out.turn HJb.out (TurnM.putObj Wb (.inr HIn.out.d) _)⟩⟩
    rintro k ((h | rfl) | h)
    · have := HM.out k h; simp; have := (Array.getElem?_eq_some_iff.1 HK.out).1; omega
    · simp; have := (Array.getElem?_eq_some_iff.1 HK.out).1; omega
    · simpa using HIn.out.lt k h

theorem enters33 : ∀ args w, (callFunc 26 args).run Tryd.prog w = .ok (.enter 26 args) w := enters_of Tryd.func26 (by kernel_rfl) rfl

/-- A maker's post: the sequence xs, what it asks to be kept is R. -/
def MadePost (w : World) (xs : List ByteArray) (e : Ending) (w' : World) : Prop := ∃ fv R, e = .returned fv ∧ SeqVS fv xs R w' ∧ Below w.heap.size w w'

set_option maxRecDepth 100000 in
theorem map_calls (w : World) (sv fv : Value) (φ : Int → ByteArray) (xs : List Int) (Rs Rf : Fp) (hs : SeqV sv xs Rs w) (hf : FnX fv xs (fun x => .string (φ x)) Rf w) :
    Calls Tryd.prog 10 #[sv, fv] w (MadePost w (xs.map φ)) := by
  have HS := Lib.hid hs
  have HF := Lib.hid hf
  obtain ⟨_, gf, lb, rfl, _⟩ := hs
  obtain ⟨_, g2, lb2, rfl, _⟩ := hf
  go_enter Tryd.func10, Tryd.ntmps10
  go_wp2
  go_ret
  have hB : Below w.heap.size w ((w.alloc (.cells #[.func (.func gf) #[] lb] 29)).alloc (.cells #[.func (.func g2) #[] lb2] 25)) := ((Below.refl _ w).alloc (Nat.le_refl _) _).alloc (by simp) _
  have c1 := ((Boxed.new w 29 (.func (.func gf) #[] lb)).alloc (.cells #[.func (.func g2) #[] lb2] 25))
  have c2 := Boxed.new (w.alloc (.cells #[.func (.func gf) #[] lb] 29)) 25 (.func (.func g2) #[] lb2)
  simp only [World.size_alloc] at c2
  have s1 := HS.out.below hB
  have s2 := HF.out.below hB
  refine ⟨_, R2 w.heap.size (w.heap.size + 1) Rs Rf, rfl, ⟨?_, 26, _, rfl, enters33, fun W2 hk => ?_⟩, hB⟩
  · rintro k ((rfl | rfl) | h | h)
    · exact c1.lt
    · exact c2.lt
    · exact s1.1 k h
    · exact s2.1 k h
  · have k1 : Boxed W2 w.heap.size 29 (.func (.func gf) #[] lb) := (hk.block _ c1.lt (.inl (.inl rfl))).trans c1
    have k2 : Boxed W2 (w.heap.size + 1) 25 (.func (.func g2) #[] lb2) := (hk.block _ c2.lt (.inl (.inr rfl))).trans c2
    exact map1 _ _ _ _ φ xs Rs Rf W2 k1 k2 (s1.keep (hk.mono fun k _ h => .inr (.inl h))) (s2.keep (hk.mono fun k _ h => .inr (.inr h)))

end Go.Proofs.YtnagjilogadinaaDoor.SeqK
