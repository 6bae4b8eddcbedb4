/- Filter, given a function that counts and says yes, of a sequence that counts. -/
import Derived.Test.YtnagjilogadinaaSeqMapE

namespace Go.Proofs.Ytnagjilogadinaa.SeqI
open Go.RowKit Go.Shelf Go.Proofs.Ytnagjilogadinaa.SeqM
attribute [local go_sem] Oper.semAt_some
set_option linter.unusedVariables false

def allB (_ : Int) : Bool := true
theorem filter_all (xs : List Int) : xs.filter allB = xs := by simp [allB]
/-- A sequence that counts at b1, where c0 stands. -/
def SeqE1 (fv : Value) (xs : List Int) (R : Fp) (b1 : Nat) (c0 : Int) (W : World) : Prop :=
  (∀ k, R k → k < W.heap.size) ∧ ∃ g lb, fv = .func (.func g) #[] lb ∧ (∀ args w, (callFunc g args).run Try.prog w = .ok (.enter g args) w) ∧
    ∀ W2, KeepM R W W2 → Cnt b1 c0 W2 → RunE Try.prog g lb eI xs R (fun k => k = b1) (fun pre W => Cnt b1 (c0 + pre.length) W) W2
def FiltIE (l b3 b : Nat) (c0 : Int) (J : List Int → Fp → World → Prop) (Mo R : Fp) (W0 : World) (pre : List Int) (M : Fp) (W : World) : Prop :=
  FiltI allB l b3 J Mo R W0 pre M W ∧ (Cnt b (c0 + pre.length) W ∧ ¬ M b)
theorem filtIE_stable (l b3 b : Nat) (c0 : Int) {J : List Int → Fp → World → Prop} (hJ : Stable J) (Mo R : Fp) (W0 : World) (hR : ∀ k, R k → k < W0.heap.size) : Stable (FiltIE l b3 b c0 J Mo R W0) :=
  (filtI_stable allB l b3 hJ Mo R W0 hR).and (stable_block b (fun (pre : List Int) => .cells #[.int .i64 (c0 + pre.length)] 3 (0, 0)))
def FiltXE (b3 b : Nat) (c0 : Int) (Jx : List Int → Fp → World → Prop) (Mo : Fp) (c : Code) (pre : List Int) (M : Fp) (W : World) : Prop :=
  FiltX allB b3 Jx Mo c pre M W ∧ (Cnt b (c0 + pre.length) W ∧ ¬ M b)
theorem filtXE_stable (b3 b : Nat) (c0 : Int) {Jx : List Int → Fp → World → Prop} (hJ : Stable Jx) (Mo : Fp) (c : Code) : Stable (FiltXE b3 b c0 Jx Mo c) :=
  (filtX_stable allB b3 hJ Mo c).and (stable_block b (fun (pre : List Int) => .cells #[.int .i64 (c0 + pre.length)] 3 (0, 0)))

set_option maxHeartbeats 2000000 in
set_option maxRecDepth 100000 in
theorem filter1E (bs bf b b1 : Nat) (c0 : Int) (sv fv : Value) (xs : List Int) (Rs Rf : Fp) (W : World) (hbs : Boxed W bs 26 sv) (hbf : Boxed W bf 37 fv) (hs : SeqE1 sv xs Rs b1 c0 W) (hf : FnE fv (fun _ => .bool true) Rf b W) (hc1 : Cnt b1 c0 W) (hc0 : Cnt b c0 W) (hne : b ≠ b1) (h00 : 0 ≤ c0) (h01 : c0 + xs.length ≤ 1000000) (hnb : ¬ R2 bs bf Rs Rf b) (hnb1 : ¬ R2 bs bf Rs Rf b1) :
    RunE Try.prog 34 #[.pointer (some ⟨bs, 0, none⟩), .pointer (some ⟨bf, 0, none⟩)] eI (xs.filter allB) (R2 bs bf Rs Rf) (fun k => k = b1 ∨ k = b) (fun pre W => Cnt b1 (c0 + pre.length) W ∧ Cnt b (c0 + pre.length) W) W := by
  intro n l J Jx hJ hJx hY Mo hM0 hMlt h0
  obtain ⟨hR, gf, lb, rfl, eg, hrun⟩ := hs
  have HMo0 := Lib.hid hM0
  have HC0 := Lib.hid hc0
  have HC1 := Lib.hid hc1
  have HNB := Lib.hid hnb
  have HNB1 := Lib.hid hnb1
  have HBL : Hid (b < W.heap.size) := Lib.hid (Array.getElem?_eq_some_iff.1 hc0).1
  have HBL1 : Hid (b1 < W.heap.size) := Lib.hid (Array.getElem?_eq_some_iff.1 hc1).1
  have H00 := Lib.hid h00
  have H01 := Lib.hid h01
  have HNE := Lib.hid hne
  clear h00 h01 hc0 hc1 hnb hnb1 hne
  have hf' := hf
  obtain ⟨hRf, g2, lb2, rfl, eg2, hcall⟩ := hf'
  have HRun := Lib.hid hrun
  have HR := Lib.hid hR
  have EG := Lib.hid eg
  have HJ := Lib.hid hJ
  have HJx := Lib.hid hJx
  have HY := Lib.hid hY
  have HM := Lib.hid hMlt
  have HRf := Lib.hid hRf
  have HC := Lib.hid hcall
  have hsc := hbs.cell
  have hfc := hbf.cell
  have hsl := hbs.lt
  have hfl := hbf.lt
  have hb3 := World.alloc_heap_new W (.cells #[.func (.yield l) #[] #[]] 37)
  have hB0 : Below W.heap.size W (W.alloc (.cells #[.func (.yield l) #[] #[]] 37)) := (Below.refl _ W).alloc (Nat.le_refl _) _
  have H0 := Lib.hid (hJ.own (.cells #[.func (.yield l) #[] #[]] 37) h0)
  have hsz : (W.alloc (.cells #[.func (.yield l) #[] #[]] 37)).heap.size = W.heap.size + 1 := by simp
  have HB3 := Lib.hid hb3
  have HB0 := Lib.hid hB0
  clear hrun hR eg hJ hJx hY h0 hMlt hM0 hf hRf hcall hb3 hB0
  have hd : Fence.wide.depth = none := rfl
  have hq := fn_eq26
  have hq2 := fn_eq37
  refine callsIn_of_wp_marks Try.func34 rfl trivial ?_ rfl
  simp only [Try.ntmps34, List.size_toArray, List.length_cons, List.length_nil, Nat.reduceAdd, Nat.reduceSub, Array.replicate_succ, Array.replicate_zero, List.push_toArray, List.append_toArray, List.nil_append, List.cons_append]
  gi_wp2
  obtain ⟨W0, hW0⟩ : ∃ W0, W.alloc (.cells #[.func (.yield l) #[] #[]] 37) = W0 := ⟨_, rfl⟩
  rw [hW0] at H0 hsz HB3 HB0 ⊢
  clear hW0
  have HRR : Hid (∀ k, R2 bs bf Rs Rf k → k < W.heap.size) := by
    rintro k ((rfl | rfl) | h | h)
    · exact hsl
    · exact hfl
    · exact HR.out k h
    · exact HRf.out k h
  refine wpIn_rangeE (xs := xs) (R0 := Rs) (M0 := fun k => k = b1) (S := fun pre W => Cnt b1 (c0 + pre.length) W) rfl EG.out (fun pre W W' h hk => (hk.block b1 (Array.getElem?_eq_some_iff.1 h).1 rfl).trans h) (fun W2 h2 => HRun.out W2 ⟨Nat.le_trans HB0.out.size h2.size, fun k hk _ => (h2.block k (by omega)).trans (HB0.out.block k hk)⟩ ((h2.block b1 (by have := HBL1.out; omega)).trans ((HB0.out.block b1 HBL1.out).trans HC1.out))) (fun k hk => by have := HR.out k hk; omega) (fun k e => by have := HBL1.out; omega) (fun _ => rfl)
    (FiltIE l W.heap.size b c0 J Mo (R2 bs bf Rs Rf) W) (FiltXE W.heap.size b c0 Jx Mo) (filtIE_stable l _ b c0 HJ.out _ _ _ HRR.out) (fun c => filtXE_stable _ b c0 HJx.out _ c) ?_
    (fun x a' _ => a' = { tmps := #[.func (.yield l) #[] #[], .pointer (some ⟨bs, 0, none⟩), .pointer (some ⟨bf, 0, none⟩), .pointer (some ⟨W.heap.size, 0, none⟩), .int .i64 x, .func (.func gf) #[] lb, .bool false, .bool false, .func (.func g2) #[] lb2, .bool false, .bool false, .func (.func gf) #[] lb, .int .i64 x, undef, undef, undef, undef, undef, undef, undef, undef, undef], defers := [] }) (fun _ _ _ _ h _ => h) ?assign ?body ?done ?stop
  · exact ⟨⟨HJ.out [] _ _ W0 W0 H0.out (TurnM.refl _ _) (fun k h => .inl h) (fun k h => .inl (h.elim id (fun e => .inl (HMo0.out k (.inl e))))), ⟨HB3.out, fun h => by have := HBL1.out; omega⟩, KeepM.of_turn (TurnM.of_below (M := fun _ => False) HB0.out) (fun _ _ _ h => h), fun k hk e => HNB1.out (e ▸ hk)⟩, by rw [show c0 + (([] : List Int).length : Int) = c0 by simp]; exact (HB0.out.block b HBL.out).trans HC0.out, HNE.out⟩
  case assign =>
    intro m l2 pre x M Wb K hi hin hK
    have HK := Lib.hid hK
    have HI := Lib.hid hi
    clear hK hi
    gi_wp2
    exact HK.out _ _ (KeepM.refl _ _) HI.out rfl
  case body =>
    rintro m l2 pre x M a' Wb ⟨⟨hj, ⟨hb, hnb⟩, hkp, hkn⟩, hcn, hncn⟩ hin rfl ⟨rest, hx⟩ hs1
    have hle : pre.length < xs.length := by rw [hx]; simp
    have HCN := Lib.hid hcn
    have HNC := Lib.hid hncn
    have HS1 := Lib.hid hs1
    clear hcn hncn hs1
    have HX := Lib.hid hx
    have HJb := Lib.hid hj
    have HIn := Lib.hid hin
    have HKP := Lib.hid hkp
    have HKN := Lib.hid hkn
    have HBb := Lib.hid hb
    have hc3 : Wb.cell? ⟨W.heap.size, 0, none⟩ = some (.func (.yield l) #[] #[]) := by simp [World.cell?, hb]
    have hcf : Wb.cell? ⟨bf, 0, none⟩ = some (.func (.func g2) #[] lb2) := (World.cell?_of_block (w := W) (hkp.block bf hfl (.inl (.inr rfl)))).trans hfc
    clear hx hj hin hkp hkn hb
    have hcall := HC.out Wb (HKP.out.mono fun k _ h => .inr (.inr h)) (c0 + pre.length) (by have := H00.out; omega) (by have := H01.out; omega) HCN.out
    gi_wp2_with fail
    refine ⟨trivial, (CallsIn.inRound l2 (hcall (m - 1) x)).mono ?_⟩
    rintro e W2 ⟨rfl, hT2, hC2⟩
    clear hcall
    have hs2 := hT2.size
    have hlen : (((pre.filter allB) ++ [x]).length : Int) = (pre.length : Int) + 1 := by rw [filter_all]; simp
    have hC1 : Cnt b1 (c0 + ((pre.filter allB ++ [x]).length : Int)) W2 := by
      have h := (hT2.block b1 (Array.getElem?_eq_some_iff.1 HS1.out).1 (fun e => HNE.out e.symm)).trans HS1.out
      rw [hlen]; rw [show ((pre ++ [x]).length : Int) = (pre.length : Int) + 1 by simp] at h; exact h
    have hC2' : Cnt b (c0 + ((pre.filter allB ++ [x]).length : Int)) W2 := by rw [hlen, ← Int.add_assoc]; exact hC2
    have HSS := Lib.hid (And.intro hC1 hC2')
    clear hC1 hC2 hC2' hlen
    have hfw : (pre ++ [x]).filter allB = pre.filter allB ++ [x].filter allB := List.filter_append ..
    have hJ2 := HJ.out.turn HJb.out (hT2.mono (fun k _ e => .inl (.inl (HMo0.out k (.inr e)))))
    have hb2 : W2.heap[W.heap.size]? = some (.cells #[.func (.yield l) #[] #[]] 37 (0, 0)) := (hT2.block _ (Array.getElem?_eq_some_iff.1 HBb.out).1 (fun e => by have := HBL.out; omega)).trans HBb.out
    have hK2 : KeepM (fun k => Rs k ∨ M k) Wb W2 := KeepM.of_turn hT2 (fun k _ hk e => hk.elim (fun h => HNB.out (e ▸ .inr (.inl h))) (fun h => HNC.out (e ▸ h)))
    have hKP2 : KeepM (R2 bs bf Rs Rf) W W2 := HKP.out.trans (KeepM.of_turn hT2 (fun k _ hk e => HNB.out (e ▸ hk)))
    have hc32 : W2.cell? ⟨W.heap.size, 0, none⟩ = some (.func (.yield l) #[] #[]) := by simp [World.cell?, hb2]
    have HJ2 := Lib.hid hJ2
    have Hb2 := Lib.hid hb2
    have HK2 := Lib.hid hK2
    have HKP2 := Lib.hid hKP2
    have HFW := Lib.hid hfw
    clear hJ2 hb2 hK2 hKP2 hfw hT2
    have hp : allB x = true := rfl
    · have hlt : ∀ k, (Mo k ∨ k = W.heap.size) ∨ M k → k < W2.heap.size := by
        have := HKP2.out.size
        rintro k ((h | rfl) | h)
        · have := HM.out k h; omega
        · exact (Array.getElem?_eq_some_iff.1 Hb2.out).1
        · have := HIn.out.lt k h; omega
      obtain ⟨fn, tmps, assign, body, hy, hR⟩ := HY.out (pre.filter allB) x (fun k => (Mo k ∨ k = W.heap.size) ∨ M k) W2 HJ2.out HSS.out (fun k e => .inl (.inl (HMo0.out k e))) hlt ⟨rest.filter allB, by rw [HX.out]; simp [hp]⟩ (m - 1)
      have HRd := Lib.hid (roundIn_in (l2 := l2) hR)
      clear hR hlt
      gi_wp2
      refine HRd.out.mono ?_
      have hfw1 : (pre ++ [x]).filter allB = pre.filter allB ++ [x] := by rw [HFW.out]; simp [hp]
      have hcs : ∀ W3, KeepM (fun k => R2 bs bf Rs Rf k ∨ ((Mo k ∨ k = W.heap.size) ∨ M k)) W2 W3 → Cnt b (c0 + ((pre ++ [x]).length : Int)) W3 ∧ ¬ M b := fun W3 h3 => ⟨by have h := (h3.block b (Array.getElem?_eq_some_iff.1 HSS.out.2).1 (.inr (.inl (.inl (HMo0.out b (.inr rfl)))))).trans HSS.out.2; rw [filter_all] at h; exact h, HNC.out⟩
      have HCS := Lib.hid hcs
      clear hcs
      have HFW1 := Lib.hid hfw1
      clear hfw1
      rintro e W3 (⟨rfl, hJ3, hk3⟩ | ⟨rfl, hJ3, hk3⟩)
      · have HJ3 := Lib.hid hJ3
        have HK3 := Lib.hid hk3
        clear hJ3 hk3
        gi_wp2
        refine ⟨HK2.out.trans (HK3.out.mono ?_), ⟨by rw [HFW1.out]; exact HJ3.out, ⟨(HK3.out.block _ (Array.getElem?_eq_some_iff.1 Hb2.out).1 (.inr (.inl (.inr rfl)))).trans Hb2.out, hnb⟩, HKP2.out.trans (HK3.out.mono fun k _ h => .inl h), HKN.out⟩, HCS.out _ HK3.out⟩
        rintro k _ (h | h)
        · exact .inl (.inr (.inl h))
        · exact .inr (.inr h)
      · have HJ3 := Lib.hid hJ3
        have HK3 := Lib.hid hk3
        clear hJ3 hk3
        gi_wp2
        refine ⟨HK2.out.trans (HK3.out.mono ?_), ⟨rfl, by rw [HFW1.out]; exact HJ3.out⟩, HCS.out _ HK3.out⟩
        rintro k _ (h | h)
        · exact .inl (.inr (.inl h))
        · exact .inr (.inr h)
  case done =>
    rintro M Wb ⟨⟨hj, ⟨hb, hnb⟩, hkp, hkn⟩, hcn, hncn⟩ hs1 hin hK
    have HCN := Lib.hid hcn
    have HNC := Lib.hid hncn
    have HS1 := Lib.hid hs1
    clear hcn hncn hs1
    have HJb := Lib.hid hj
    have HIn := Lib.hid hin
    have HK := Lib.hid hK
    have HKP := Lib.hid hkp
    have HB := Lib.hid hb
    clear hj hin hK hkp hkn hb
    gi_wp2
    refine ⟨by simp, .inl ⟨_, _, rfl, run_takeDeferred HK.out, ?_⟩⟩
    refine ⟨_, results_none rfl _ _ _, ⟨_, rfl⟩, fun k => (Mo k ∨ k = W.heap.size) ∨ M k, fun k h => .inl (.inl h), ?_, .inl ⟨HJ.out.turn HJb.out (TurnM.putObj Wb (.inr HIn.out.d) _), by rw [filter_all]; exact (World.putObj_heap_other (by intro e; have := HBL1.out; omega)).trans HS1.out, by rw [filter_all]; exact (World.putObj_heap_other (by intro e; have := HBL.out; omega)).trans HCN.out⟩⟩
    rintro k ((h | rfl) | h)
    · have := HM.out k h; simp; have := (Array.getElem?_eq_some_iff.1 HK.out).1; omega
    · simp; have := (Array.getElem?_eq_some_iff.1 HK.out).1; omega
    · simpa using HIn.out.lt k h
  case stop =>
    rintro c pre M Wb hpre ⟨⟨rfl, hj⟩, hcn, hncn⟩ hs1 hin hK
    have HCN := Lib.hid hcn
    have HNC := Lib.hid hncn
    have HS1 := Lib.hid hs1
    clear hcn hncn hs1
    have HJb := Lib.hid hj
    have HIn := Lib.hid hin
    have HK := Lib.hid hK
    have HPre := Lib.hid hpre
    clear hj hin hK hpre
    gi_wp2
    refine ⟨by simp, .inl ⟨_, _, rfl, run_takeDeferred HK.out, ?_⟩⟩
    refine ⟨_, results_none rfl _ _ _, ⟨_, rfl⟩, fun k => (Mo k ∨ k = W.heap.size) ∨ M k, fun k h => .inl (.inl h), ?_, .inr ⟨_, HPre.out.filter allB, HJx.out.turn HJb.out (TurnM.putObj Wb (.inr HIn.out.d) _), by rw [filter_all]; exact (World.putObj_heap_other (by intro e; have := HBL1.out; omega)).trans HS1.out, by rw [filter_all]; exact (World.putObj_heap_other (by intro e; have := HBL.out; omega)).trans HCN.out⟩⟩
    rintro k ((h | rfl) | h)
    · have := HM.out k h; simp; have := (Array.getElem?_eq_some_iff.1 HK.out).1; omega
    · simp; have := (Array.getElem?_eq_some_iff.1 HK.out).1; omega
    · simpa using HIn.out.lt k h
end Go.Proofs.Ytnagjilogadinaa.SeqI
