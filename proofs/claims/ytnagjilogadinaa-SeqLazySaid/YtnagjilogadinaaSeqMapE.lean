/- Map, given a function that counts: each is asked for once, at its turn. -/
import Derived.Test.YtnagjilogadinaaSeqMap
import Derived.Test.YtnagjilogadinaaSeqE

namespace Go.Proofs.Ytnagjilogadinaa.SeqI
open Go.RowKit Go.Shelf Go.Proofs.Ytnagjilogadinaa.SeqM
attribute [local go_sem] Oper.semAt_some
set_option linter.unusedVariables false

/-- The counter at the block b is c. -/
def Cnt (b : Nat) (c : Int) (W : World) : Prop := W.heap[b]? = some (.cells #[.int .i64 c] 3 (0, 0))
/-- A function value that answers φ and counts at b. -/
def FnE (fv : Value) (φ : Int → Value) (R : Fp) (b : Nat) (W : World) : Prop :=
  (∀ k, R k → k < W.heap.size) ∧ ∃ g lb, fv = .func (.func g) #[] lb ∧ (∀ args w, (callFunc g args).run Try.prog w = .ok (.enter g args) w) ∧
    ∀ W2, KeepM R W W2 → ∀ c, 0 ≤ c → c < 1000000 → Cnt b c W2 → ∀ n x, CallsIn Fence.wide n Try.prog g (#[.int .i64 x] ++ lb) W2 fun e w' => e = .returned (φ x) ∧ TurnM (fun k => k = b) W2 w' ∧ Cnt b (c + 1) w'
def MapIE (φ : Int → Int) (l b3 b : Nat) (c0 : Int) (J : List Int → Fp → World → Prop) (Mo R : Fp) (W0 : World) (pre : List Int) (M : Fp) (W : World) : Prop :=
  MapI φ l b3 J Mo R W0 pre M W ∧ (Cnt b (c0 + pre.length) W ∧ ¬ M b)
theorem mapIE_stable (φ : Int → Int) (l b3 b : Nat) (c0 : Int) {J : List Int → Fp → World → Prop} (hJ : Stable J) (Mo R : Fp) (W0 : World) (hR : ∀ k, R k → k < W0.heap.size) : Stable (MapIE φ l b3 b c0 J Mo R W0) :=
  (mapI_stable φ l b3 hJ Mo R W0 hR).and (stable_block b (fun (pre : List Int) => .cells #[.int .i64 (c0 + pre.length)] 3 (0, 0)))
def MapXE (φ : Int → Int) (b3 b : Nat) (c0 : Int) (Jx : List Int → Fp → World → Prop) (Mo : Fp) (c : Code) (pre : List Int) (M : Fp) (W : World) : Prop :=
  MapX φ b3 Jx Mo c pre M W ∧ (Cnt b (c0 + pre.length) W ∧ ¬ M b)
theorem mapXE_stable (φ : Int → Int) (b3 b : Nat) (c0 : Int) {Jx : List Int → Fp → World → Prop} (hJ : Stable Jx) (Mo : Fp) (c : Code) : Stable (MapXE φ b3 b c0 Jx Mo c) :=
  (mapX_stable φ b3 hJ Mo c).and (stable_block b (fun (pre : List Int) => .cells #[.int .i64 (c0 + pre.length)] 3 (0, 0)))

set_option maxHeartbeats 2000000 in
set_option maxRecDepth 100000 in
theorem map1E (bs bf b : Nat) (c0 : Int) (sv fv : Value) (φ : Int → Int) (xs : List Int) (Rs Rf : Fp) (W : World) (hbs : Boxed W bs 26 sv) (hbf : Boxed W bf 35 fv) (hs : SeqV sv xs Rs W) (hf : FnE fv (fun x => .int .i64 (φ x)) Rf b W) (hc0 : Cnt b c0 W) (h00 : 0 ≤ c0) (h01 : c0 + xs.length ≤ 1000000) (hnb : ¬ R2 bs bf Rs Rf b) :
    RunE Try.prog 33 #[.pointer (some ⟨bs, 0, none⟩), .pointer (some ⟨bf, 0, none⟩)] eI (xs.map φ) (R2 bs bf Rs Rf) (fun k => k = b) (fun pre W => Cnt b (c0 + pre.length) W) W := by
  intro n l J Jx hJ hJx hY Mo hM0 hMlt h0
  obtain ⟨hR, gf, lb, rfl, eg, hrun⟩ := hs
  have hf' := hf
  obtain ⟨hRf, g2, lb2, rfl, eg2, hcall⟩ := hf'
  have HMo0 := Lib.hid hM0
  have HC0 := Lib.hid hc0
  have HNB := Lib.hid hnb
  have HBL : Hid (b < W.heap.size) := Lib.hid (Array.getElem?_eq_some_iff.1 hc0).1
  have H00 := Lib.hid h00
  have H01 := Lib.hid h01
  clear h00 h01
  have HRun := Lib.hid hrun
  have HR := Lib.hid hR
  have EG := Lib.hid eg
  have HJ := Lib.hid hJ
  have HJx := Lib.hid hJx
  have HY := Lib.hid hY
  have HM := Lib.hid hMlt
  have HRf := Lib.hid hRf
  have HC := Lib.hid hcall
  have hsc := hbs.cell
  have hfc := hbf.cell
  have hsl := hbs.lt
  have hfl := hbf.lt
  have hb3 := World.alloc_heap_new W (.cells #[.func (.yield l) #[] #[]] 37)
  have hB0 : Below W.heap.size W (W.alloc (.cells #[.func (.yield l) #[] #[]] 37)) := (Below.refl _ W).alloc (Nat.le_refl _) _
  have H0 := Lib.hid (hJ.own (.cells #[.func (.yield l) #[] #[]] 37) h0)
  have hsz : (W.alloc (.cells #[.func (.yield l) #[] #[]] 37)).heap.size = W.heap.size + 1 := by simp
  have HB3 := Lib.hid hb3
  have HB0 := Lib.hid hB0
  clear hrun hR eg hJ hJx hY h0 hMlt hM0 hf hRf hcall hb3 hB0 hc0 hnb
  have hd : Fence.wide.depth = none := rfl
  have hq := fn_eq26
  have hq2 := fn_eq35
  refine callsIn_of_wp_marks Try.func33 rfl trivial ?_ rfl
  simp only [Try.ntmps33, List.size_toArray, List.length_cons, List.length_nil, Nat.reduceAdd, Nat.reduceSub, Array.replicate_succ, Array.replicate_zero, List.push_toArray, List.append_toArray, List.nil_append, List.cons_append]
  gi_wp2
  obtain ⟨W0, hW0⟩ : ∃ W0, W.alloc (.cells #[.func (.yield l) #[] #[]] 37) = W0 := ⟨_, rfl⟩
  rw [hW0] at H0 hsz HB3 HB0 ⊢
  clear hW0
  have HRR : Hid (∀ k, R2 bs bf Rs Rf k → k < W.heap.size) := by
    rintro k ((rfl | rfl) | h | h)
    · exact hsl
    · exact hfl
    · exact HR.out k h
    · exact HRf.out k h
  refine wpIn_rangeM (xs := xs) (R0 := Rs) (M0 := fun _ => False) rfl EG.out (fun W2 h2 => HRun.out W2 ⟨Nat.le_trans HB0.out.size h2.size, fun k hk _ => (h2.block k (by omega)).trans (HB0.out.block k hk)⟩) (fun k hk => by have := HR.out k hk; omega) (fun _ h => h.elim) (fun _ => rfl)
    (MapIE φ l W.heap.size b c0 J Mo (R2 bs bf Rs Rf) W) (MapXE φ W.heap.size b c0 Jx Mo) (mapIE_stable φ l _ b c0 HJ.out _ _ _ HRR.out) (fun c => mapXE_stable φ _ b c0 HJx.out _ c) ?_
    (fun x a' _ => a' = { tmps := #[.func (.yield l) #[] #[], .pointer (some ⟨bs, 0, none⟩), .pointer (some ⟨bf, 0, none⟩), .pointer (some ⟨W.heap.size, 0, none⟩), .int .i64 x, .func (.func gf) #[] lb, .bool false, .bool false, .func (.func g2) #[] lb2, .bool false, .bool false, .func (.func gf) #[] lb, .int .i64 x, undef, undef, undef, undef, undef, undef], defers := [] }) (fun _ _ _ _ h _ => h) ?assign ?body ?done ?stop
  · exact ⟨⟨HJ.out [] _ _ W0 W0 H0.out (TurnM.refl _ _) (fun k h => .inl h) (fun k h => .inl (h.elim id False.elim)), ⟨HB3.out, fun h => h⟩, KeepM.of_turn (TurnM.of_below (M := fun _ => False) HB0.out) (fun _ _ _ h => h), fun _ _ h => h⟩, by rw [show c0 + (([] : List Int).length : Int) = c0 by simp]; exact (HB0.out.block b HBL.out).trans HC0.out, fun h => h⟩
  case assign =>
    intro m l2 pre x M Wb K hi hin hK
    have HK := Lib.hid hK
    have HI := Lib.hid hi
    clear hK hi
    gi_wp2
    exact HK.out _ _ (KeepM.refl _ _) HI.out rfl
  case body =>
    rintro m l2 pre x M a' Wb ⟨⟨hj, ⟨hb, hnb⟩, hkp, hkn⟩, hcn, hncn⟩ hin rfl ⟨rest, hx⟩
    have HCN := Lib.hid hcn
    have HNC := Lib.hid hncn
    clear hcn hncn
    have hx0 := hx
    have HX := Lib.hid hx
    have HJb := Lib.hid hj
    have HIn := Lib.hid hin
    have HKP := Lib.hid hkp
    have HKN := Lib.hid hkn
    have HBb := Lib.hid hb
    have hc3 : Wb.cell? ⟨W.heap.size, 0, none⟩ = some (.func (.yield l) #[] #[]) := by simp [World.cell?, hb]
    have hcf : Wb.cell? ⟨bf, 0, none⟩ = some (.func (.func g2) #[] lb2) := (World.cell?_of_block (w := W) (hkp.block bf hfl (.inl (.inr rfl)))).trans hfc
    clear hx hj hin hkp hkn hb
    have hKd : KeepM (R2 bs bf Rs Rf) W Wb.drew := ⟨HKP.out.size, HKP.out.block⟩
    have hle : pre.length < xs.length := by rw [hx0]; simp
    have hcall := HC.out Wb.drew (hKd.mono fun k _ h => .inr (.inr h)) (c0 + pre.length) (by have := H00.out; omega) (by have := H01.out; omega) HCN.out
    have hfw1 : (pre ++ [x]).map φ = pre.map φ ++ [φ x] := by simp
    have HFW1 := Lib.hid hfw1
    have mixed : Try.prog.follows Departure.mixedOrders = true := by kernel_rfl
    have HAll : Hid (∀ W2, TurnM (fun k => k = b) Wb.drew W2 → Cnt b (c0 + pre.length + 1) W2 → W2.heap[W.heap.size]? = some (.cells #[.func (.yield l) #[] #[]] 37 (0, 0)) ∧ KeepM (fun k => Rs k ∨ M k) Wb W2 ∧ KeepM (R2 bs bf Rs Rf) W W2 ∧
        YieldAt Fence.wide (m - 1) Try.prog l (eI (φ x)) W2 fun e W' => ∃ b, e = .returned (.bool b) ∧ ((b = true ∧ J (pre.map φ ++ [φ x]) (fun k => (Mo k ∨ k = W.heap.size) ∨ M k) W' ∧ KeepM (fun k => R2 bs bf Rs Rf k ∨ ((Mo k ∨ k = W.heap.size) ∨ M k)) W2 W') ∨ (b = false ∧ Jx (pre.map φ ++ [φ x]) (fun k => (Mo k ∨ k = W.heap.size) ∨ M k) W' ∧ KeepM (fun k => R2 bs bf Rs Rf k ∨ ((Mo k ∨ k = W.heap.size) ∨ M k)) W2 W'))) := by
      intro W2 hB2' hC2
      have hT2 : TurnM (fun k => k = b) Wb W2 := ⟨hB2'.os, hB2'.tape, hB2'.output, hB2'.size, hB2'.block⟩
      have hB2s : Wb.heap.size ≤ W2.heap.size := hT2.size
      have hJ2 := HJ.out.turn HJb.out (hT2.mono (fun k _ e => .inl (.inl (HMo0.out k e))))
      have hb2 : W2.heap[W.heap.size]? = some (.cells #[.func (.yield l) #[] #[]] 37 (0, 0)) := (hT2.block _ (Array.getElem?_eq_some_iff.1 HBb.out).1 (fun e => by have := HBL.out; omega)).trans HBb.out
      have hKP2 : KeepM (R2 bs bf Rs Rf) W W2 := HKP.out.trans (KeepM.of_turn hT2 (fun k _ hk e => HNB.out (e ▸ hk)))
      have hlt : ∀ k, (Mo k ∨ k = W.heap.size) ∨ M k → k < W2.heap.size := by
        have := hKP2.size
        have := hB2s
        rintro k ((h | rfl) | h)
        · have := HM.out k h; omega
        · exact (Array.getElem?_eq_some_iff.1 hb2).1
        · have := HIn.out.lt k h; omega
      refine ⟨hb2, KeepM.of_turn hT2 (fun k _ hk e => hk.elim (fun h => HNB.out (e ▸ .inr (.inl h))) (fun h => HNC.out (e ▸ h))), hKP2, (HY.out (pre.map φ) (φ x) (fun k => (Mo k ∨ k = W.heap.size) ∨ M k) W2 hJ2 (by rw [show ((pre.map φ ++ [φ x]).length : Int) = (pre.length : Int) + 1 by simp, ← Int.add_assoc]; exact hC2) (fun k e => .inl (.inl (HMo0.out k e))) hlt ⟨rest.map φ, by rw [HX.out]; simp⟩ (m - 1)).mono ?_⟩
      rintro e W' (⟨rfl, h⟩ | ⟨rfl, h⟩)
      · exact ⟨true, rfl, .inl ⟨rfl, h⟩⟩
      · exact ⟨false, rfl, .inr ⟨rfl, h⟩⟩
    clear hfw1
    gi_wp2
    gi_region_with_o (first
      | (refine ⟨trivial, (CallsIn.inRound l2 (hcall (m - 1) x)).mono ?_⟩; rintro e W2 ⟨rfl, hB2, hC2⟩; obtain ⟨hb2, hK2, hKP2, fn, tmps, assign, body, hy, hR⟩ := HAll.out W2 hB2 hC2; have HC2 := Lib.hid hC2; clear hC2; have hc32 : W2.cell? ⟨W.heap.size, 0, none⟩ = some (.func (.yield l) #[] #[]) := (by simp [World.cell?, hb2]); have Hb2 := Lib.hid hb2; have HK2 := Lib.hid hK2; have HKP2 := Lib.hid hKP2; have HRd := Lib.hid (roundIn_in (l2 := l2) hR); clear hb2 hK2 hKP2 hR hB2)
      | (refine HRd.out.mono ?_; rintro e W3 ⟨bb, rfl, hB3⟩; have HB3' := Lib.hid hB3; clear hB3))
    all_goals
      have hmo : ∀ k, k < W2.heap.size → (Rs k ∨ M k) → (R2 bs bf Rs Rf k ∨ ((Mo k ∨ k = W.heap.size) ∨ M k)) := fun k _ h => h.elim (fun h => .inl (.inr (.inl h))) (fun h => .inr (.inr h))
      have HMo := Lib.hid hmo
      have hcs : ∀ W3, KeepM (fun k => R2 bs bf Rs Rf k ∨ ((Mo k ∨ k = W.heap.size) ∨ M k)) W2 W3 → Cnt b (c0 + ((pre ++ [x]).length : Int)) W3 ∧ ¬ M b := fun W3 h3 => ⟨by rw [show ((pre ++ [x]).length : Int) = (pre.length : Int) + 1 by simp, ← Int.add_assoc]; exact (h3.block b (Array.getElem?_eq_some_iff.1 HC2.out).1 (.inr (.inl (.inl (HMo0.out b rfl))))).trans HC2.out, HNC.out⟩
      have HCS := Lib.hid hcs
      clear hcs
      clear hmo
      rcases HB3'.out with ⟨rfl, hJ3, hk3⟩ | ⟨rfl, hJ3, hk3⟩
      · have HJ3 := Lib.hid hJ3
        have HK3 := Lib.hid hk3
        clear hJ3 hk3
        gi_wp2
        exact ⟨HK2.out.trans (HK3.out.mono HMo.out), ⟨by rw [HFW1.out]; exact HJ3.out, ⟨(HK3.out.block _ (Array.getElem?_eq_some_iff.1 Hb2.out).1 (.inr (.inl (.inr rfl)))).trans Hb2.out, hnb⟩, HKP2.out.trans (HK3.out.mono fun k _ h => .inl h), HKN.out⟩, HCS.out _ HK3.out⟩
      · have HJ3 := Lib.hid hJ3
        have HK3 := Lib.hid hk3
        clear hJ3 hk3
        gi_wp2
        exact ⟨HK2.out.trans (HK3.out.mono HMo.out), ⟨rfl, by rw [HFW1.out]; exact HJ3.out⟩, HCS.out _ HK3.out⟩
  case done =>
    rintro M Wb ⟨⟨hj, ⟨hb, hnb⟩, hkp, hkn⟩, hcn, hncn⟩ hin hK
    have HCN := Lib.hid hcn
    have HNC := Lib.hid hncn
    clear hcn hncn
    have HJb := Lib.hid hj
    have HIn := Lib.hid hin
    have HK := Lib.hid hK
    have HKP := Lib.hid hkp
    have HB := Lib.hid hb
    clear hj hin hK hkp hkn hb
    gi_wp2
    refine ⟨by simp, .inl ⟨_, _, rfl, run_takeDeferred HK.out, ?_⟩⟩
    refine ⟨_, results_none rfl _ _ _, ⟨_, rfl⟩, fun k => (Mo k ∨ k = W.heap.size) ∨ M k, fun k h => .inl (.inl h), ?_, .inl ⟨HJ.out.turn HJb.out (TurnM.putObj Wb (.inr HIn.out.d) _), by rw [List.length_map]; exact (World.putObj_heap_other (by intro e; exact HNC.out (by first | (rw [e]; exact HIn.out.d) | (rw [← e]; exact HIn.out.d)))).trans HCN.out⟩⟩
    rintro k ((h | rfl) | h)
    · have := HM.out k h; simp; have := (Array.getElem?_eq_some_iff.1 HK.out).1; omega
    · simp; have := (Array.getElem?_eq_some_iff.1 HK.out).1; omega
    · simpa using HIn.out.lt k h
  case stop =>
    rintro c pre M Wb hpre ⟨⟨rfl, hj⟩, hcn, hncn⟩ hin hK
    have HCN := Lib.hid hcn
    have HNC := Lib.hid hncn
    clear hcn hncn
    have HJb := Lib.hid hj
    have HIn := Lib.hid hin
    have HK := Lib.hid hK
    have HPre := Lib.hid hpre
    clear hj hin hK hpre
    gi_wp2
    refine ⟨by simp, .inl ⟨_, _, rfl, run_takeDeferred HK.out, ?_⟩⟩
    refine ⟨_, results_none rfl _ _ _, ⟨_, rfl⟩, fun k => (Mo k ∨ k = W.heap.size) ∨ M k, fun k h => .inl (.inl h), ?_, .inr ⟨_, HPre.out.map φ, HJx.out.turn HJb.out (TurnM.putObj Wb (.inr HIn.out.d) _), by rw [List.length_map]; exact (World.putObj_heap_other (by intro e; exact HNC.out (by first | (rw [e]; exact HIn.out.d) | (rw [← e]; exact HIn.out.d)))).trans HCN.out⟩⟩
    rintro k ((h | rfl) | h)
    · have := HM.out k h; simp; have := (Array.getElem?_eq_some_iff.1 HK.out).1; omega
    · simp; have := (Array.getElem?_eq_some_iff.1 HK.out).1; omega
    · simpa using HIn.out.lt k h

end Go.Proofs.Ytnagjilogadinaa.SeqI
