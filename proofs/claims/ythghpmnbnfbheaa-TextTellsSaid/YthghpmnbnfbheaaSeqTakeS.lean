/- Take, over a sequence of texts that may be gone through once, tells the first ones. -/
import Derived.Test.YthghpmnbnfbheaaSeqS
namespace Go.Proofs.Ythghpmnbnfbheaa.SeqS
open Go.RowKit Go.Shelf Go.Proofs.Ythghpmnbnfbheaa.SeqM
attribute [local go_sem] Oper.semAt_some
set_option linter.unusedVariables false
def R2 (b1 b2 : Nat) (Ra Rb : Fp) : Fp := fun k => (k = b1 ∨ k = b2) ∨ Ra k ∨ Rb k
def TakeS (n : Int) (l b3 : Nat) (J : List ByteArray → Fp → World → Prop) (Mo R : Fp) (W0 : World) (pre : List ByteArray) (M : Fp) (W : World) : Prop :=
  ((pre.length : Int) < n ∧ J pre (fun k => (Mo k ∨ k = b3 ∨ k = b3 + 1) ∨ M k) W) ∧ ((W.heap[b3]? = some (.cells #[.func (.yield l) #[] #[]] 37 (0, 0)) ∧ ¬ M b3) ∧ (W.heap[b3 + 1]? = some (.cells #[.int .i64 (n - (pre.length : Int))] 3 (0, 0)) ∧ ¬ M (b3 + 1))) ∧ (KeepM R W0 W ∧ ∀ k, R k → ¬ M k)
theorem takeS_stable (n : Int) (l b3 : Nat) {J : List ByteArray → Fp → World → Prop} (hJ : Stable J) (Mo R : Fp) (W0 : World) (hR : ∀ k, R k → k < W0.heap.size) : Stable (TakeS n l b3 J Mo R W0) :=
  ((stable_pure (fun pre : List ByteArray => (pre.length : Int) < n)).and (hJ.map (fun pre => pre) (fun k => Mo k ∨ k = b3 ∨ k = b3 + 1))).and (((stable_block b3 (fun _ => .cells #[.func (.yield l) #[] #[]] 37 (0, 0))).and (stable_block (b3 + 1) (fun pre : List ByteArray => .cells #[.int .i64 (n - (pre.length : Int))] 3 (0, 0)))).and (stable_keep R W0 hR))
def TakeX (n : Int) (b3 : Nat) (J Jx : List ByteArray → Fp → World → Prop) (Mo : Fp) (c : Code) (pre : List ByteArray) (M : Fp) (W : World) : Prop :=
  (c = .ret ∧ (pre.length : Int) ≤ n) ∧ (Jx pre (fun k => (Mo k ∨ k = b3 ∨ k = b3 + 1) ∨ M k) W ∨ ((pre.length : Int) = n ∧ J pre (fun k => (Mo k ∨ k = b3 ∨ k = b3 + 1) ∨ M k) W))
theorem stable_or {β : Type} {J J' : β → Fp → World → Prop} (h : Stable J) (h' : Stable J') : Stable (fun s M W => J s M W ∨ J' s M W) := fun s M M' W W' hs ht h1 h2 => hs.imp (fun hs => h s M M' W W' hs ht h1 h2) (fun hs => h' s M M' W W' hs ht h1 h2)
theorem takeX_stable (n : Int) (b3 : Nat) {J Jx : List ByteArray → Fp → World → Prop} (hJ : Stable J) (hJx : Stable Jx) (Mo : Fp) (c : Code) : Stable (TakeX n b3 J Jx Mo c) :=
  (stable_pure (fun pre : List ByteArray => c = .ret ∧ (pre.length : Int) ≤ n)).and (stable_or (hJx.map (fun pre => pre) (fun k => Mo k ∨ k = b3 ∨ k = b3 + 1)) ((stable_pure (fun pre : List ByteArray => (pre.length : Int) = n)).and (hJ.map (fun pre => pre) (fun k => Mo k ∨ k = b3 ∨ k = b3 + 1))))

set_option maxHeartbeats 2000000 in
set_option maxRecDepth 100000 in
theorem take1 (bn bs : Nat) (sv : Value) (n : Int) (xs : List ByteArray) (Rs M0s : Fp) (W : World) (hbn : Boxed W bn 3 (.int .i64 n)) (hbs : Boxed W bs 51 sv) (hs : SeqG sv xs Rs M0s W) (hdis : ¬ M0s bn ∧ ¬ M0s bs ∧ ∀ k, Rs k → ¬ M0s k) (h1 : 1 ≤ n) (hn : n ≤ 1000000) :
    RunM Try.prog 54 #[.pointer (some ⟨bn, 0, none⟩), .pointer (some ⟨bs, 0, none⟩)] eS (xs.take n.toNat) (R2 bn bs Rs (fun _ => False)) M0s W := by
  intro n' l J Jx hJ hJx hY Mo hM0 hMlt h0
  obtain ⟨hR, hM0s, gf, lb, rfl, eg, hrun⟩ := hs
  have HRun := Lib.hid hrun
  have HR := Lib.hid hR
  have HM0s := Lib.hid hM0s
  have HM00 := Lib.hid hM0
  have HDis := Lib.hid hdis
  have EG := Lib.hid eg
  have HJ := Lib.hid hJ
  have HJx := Lib.hid hJx
  have HY := Lib.hid hY
  have HM := Lib.hid hMlt
  have hsc := hbs.cell
  have hnc := hbn.cell
  have hsl := hbs.lt
  have hnl := hbn.lt
  have hb3 : ((W.alloc (.cells #[.func (.yield l) #[] #[]] 37)).alloc (.cells #[.int .i64 n] 3)).heap[W.heap.size]? = some (.cells #[.func (.yield l) #[] #[]] 37 (0, 0)) := (Boxed.new W 37 (.func (.yield l) #[] #[])).alloc _
  have hb4 : ((W.alloc (.cells #[.func (.yield l) #[] #[]] 37)).alloc (.cells #[.int .i64 n] 3)).heap[W.heap.size + 1]? = some (.cells #[.int .i64 n] 3 (0, 0)) := by
    have := Boxed.new (W.alloc (.cells #[.func (.yield l) #[] #[]] 37)) 3 (.int .i64 n)
    rw [World.size_alloc] at this
    exact this
  have hB0 : Below W.heap.size W ((W.alloc (.cells #[.func (.yield l) #[] #[]] 37)).alloc (.cells #[.int .i64 n] 3)) := ((Below.refl _ W).alloc (Nat.le_refl _) _).alloc (by simp) _
  have H0 := Lib.hid (hJ [] Mo (fun k => (Mo k ∨ k = W.heap.size ∨ k = W.heap.size + 1) ∨ M0s k) W _ h0 (TurnM.of_below hB0) (fun k h => .inl (.inl h)) (by
    rintro k ((h | rfl | rfl) | h)
    · exact .inl h
    · exact .inr ⟨Nat.le_refl _, by simp; omega⟩
    · exact .inr ⟨by omega, by simp⟩
    · exact .inl (hM0 k h)))
  have hsz : ((W.alloc (.cells #[.func (.yield l) #[] #[]] 37)).alloc (.cells #[.int .i64 n] 3)).heap.size = W.heap.size + 2 := by simp
  have HB3 := Lib.hid hb3
  have HB4 := Lib.hid hb4
  have HB0 := Lib.hid hB0
  clear hrun hR eg hJ hJx hY h0 hMlt hM0 hb3 hb4 hB0 hM0s hdis
  have hd : Fence.wide.depth = none := rfl
  have hq := fn_eq
  have hn0 : decide (n < 1) = false := by simpa using h1
  refine callsIn_of_wp_marks Try.func54 rfl trivial ?_ rfl
  simp only [Try.ntmps54, List.size_toArray, List.length_cons, List.length_nil, Nat.reduceAdd, Nat.reduceSub, Array.replicate_succ, Array.replicate_zero, List.push_toArray, List.append_toArray, List.nil_append, List.cons_append]
  gi_wp2
  obtain ⟨W0, hW0⟩ : ∃ W0, (W.alloc (.cells #[.func (.yield l) #[] #[]] 37)).alloc (.cells #[.int .i64 n] 3) = W0 := ⟨_, rfl⟩
  rw [hW0] at H0 hsz HB3 HB4 HB0 ⊢
  clear hW0
  have HRR : Hid (∀ k, R2 bn bs Rs (fun _ => False) k → k < W.heap.size) := by
    rintro k ((rfl | rfl) | h | h)
    · exact hnl
    · exact hsl
    · exact HR.out k h
    · exact h.elim
  refine wpIn_rangeM (xs := xs) (R0 := Rs) (M0 := M0s) rfl EG.out (fun W2 h2 => HRun.out W2 ⟨Nat.le_trans HB0.out.size h2.size, fun k hk _ => (h2.block k (by omega)).trans (HB0.out.block k hk)⟩) (fun k hk => by have := HR.out k hk; omega) (fun k hk => by have := HM0s.out k hk; omega) (fun _ => rfl)
    (TakeS n l W.heap.size J Mo (R2 bn bs Rs (fun _ => False)) W) (TakeX n W.heap.size J Jx Mo) (takeS_stable n l _ HJ.out _ _ _ HRR.out) (fun c => takeX_stable n _ HJ.out HJx.out _ c) ?_
    (fun x a' _ => a' = { tmps := #[.func (.yield l) #[] #[], .pointer (some ⟨bn, 0, none⟩), .pointer (some ⟨bs, 0, none⟩), .pointer (some ⟨W.heap.size, 0, none⟩), .pointer (some ⟨W.heap.size + 1, 0, none⟩), .string x, .int .i64 n, .func (.func gf) #[] lb, .bool false, .bool false, .int .i64 n, .bool false, .bool false, .func (.func gf) #[] lb, .string x, undef, undef, undef, undef, undef, undef, undef, undef, undef, undef], defers := [] }) (fun _ _ _ _ h _ => h) ?assign ?body ?done ?stop
  · refine ⟨⟨by simp; omega, H0.out⟩, ⟨⟨HB3.out, fun h => by have := HM0s.out _ h; omega⟩, by simpa using HB4.out, fun h => by have := HM0s.out _ h; omega⟩, KeepM.of_turn (TurnM.of_below (M := fun _ => False) HB0.out) (fun _ _ _ h => h), ?_⟩
    rintro k ((rfl | rfl) | h | h)
    · exact HDis.out.1
    · exact HDis.out.2.1
    · exact HDis.out.2.2 k h
    · exact h.elim
  case assign =>
    intro m l2 pre x M Wb K hi hin hK
    have HK := Lib.hid hK
    have HI := Lib.hid hi
    clear hK hi
    gi_wp2
    exact HK.out _ _ (KeepM.refl _ _) HI.out rfl
  case body =>
    rintro m l2 pre x M a' Wb ⟨⟨hlp, hj⟩, ⟨⟨hb, hnb⟩, hbl, hnbl⟩, hkp, hkn⟩ hin rfl ⟨rest, hx⟩
    have HX := Lib.hid hx
    have HIn := Lib.hid hin
    have HKN := Lib.hid hkn
    have hl3 := (Array.getElem?_eq_some_iff.1 hb).1
    have hl4 := (Array.getElem?_eq_some_iff.1 hbl).1
    -- left--
    have hT1 : TurnM (fun k => k = W.heap.size + 1) Wb (Wb.setCell ⟨W.heap.size + 1, 0, none⟩ (.int .i64 (n - (pre.length : Int) - 1))) := TurnM.setCell (M := fun k => k = W.heap.size + 1) Wb (p := ⟨W.heap.size + 1, 0, none⟩) rfl _
    have hJ1 := HJ.out.turn hj (hT1.mono fun k _ h => .inl (.inr (.inr h)))
    have hb1 : (Wb.setCell ⟨W.heap.size + 1, 0, none⟩ (.int .i64 (n - (pre.length : Int) - 1))).heap[W.heap.size]? = some (.cells #[.func (.yield l) #[] #[]] 37 (0, 0)) := (hT1.block _ hl3 (by omega)).trans hb
    have hbl1 : (Wb.setCell ⟨W.heap.size + 1, 0, none⟩ (.int .i64 (n - (pre.length : Int) - 1))).heap[W.heap.size + 1]? = some (.cells #[.int .i64 (n - (pre.length : Int) - 1)] 3 (0, 0)) := Boxed.set (W := Wb) (t := 3) (v := .int .i64 (n - (pre.length : Int))) _ hbl
    have hK1 : KeepM (fun k => Rs k ∨ M k) Wb (Wb.setCell ⟨W.heap.size + 1, 0, none⟩ (.int .i64 (n - (pre.length : Int) - 1))) := KeepM.of_turn hT1 (by
      rintro k _ (h | h) rfl
      · have := HR.out _ h; omega
      · exact hnbl h)
    have hKP1 : KeepM (R2 bn bs Rs (fun _ => False)) W (Wb.setCell ⟨W.heap.size + 1, 0, none⟩ (.int .i64 (n - (pre.length : Int) - 1))) := hkp.trans (KeepM.of_turn hT1 (fun k _ h e => by have := HRR.out _ h; omega))
    have hlt : ∀ k, (Mo k ∨ k = W.heap.size ∨ k = W.heap.size + 1) ∨ M k → k < (Wb.setCell ⟨W.heap.size + 1, 0, none⟩ (.int .i64 (n - (pre.length : Int) - 1))).heap.size := by
      have h5 := hkp.size
      have h6 := hT1.size
      rintro k ((h | rfl | rfl) | h)
      · have := HM.out k h; omega
      · omega
      · omega
      · have := HIn.out.lt k h; omega
    obtain ⟨fn, tmps, assign, body, hy, hR⟩ := HY.out pre x (fun k => (Mo k ∨ k = W.heap.size ∨ k = W.heap.size + 1) ∨ M k) _ hJ1 (fun k h => .inl (.inl (HM00.out k h))) hlt ⟨rest.take (n.toNat - pre.length - 1), by
      rw [HX.out, List.take_append, show n.toNat - pre.length = (n.toNat - pre.length - 1) + 1 by omega, List.take_succ_cons, List.take_of_length_le (by omega)]
      simp⟩ (m - 1)
    have HRd := Lib.hid (roundIn_in (l2 := l2) hR)
    have c4 : Wb.cell? ⟨W.heap.size + 1, 0, none⟩ = some (.int .i64 (n - (pre.length : Int))) := by simp [World.cell?, hbl]
    have f4 : Wb.frozen? ⟨W.heap.size + 1, 0, none⟩ = false := by simp [World.frozen?, hbl]
    have c3 : Wb.cell? ⟨W.heap.size, 0, none⟩ = some (.func (.yield l) #[] #[]) := by simp [World.cell?, hb]
    have HB1 := Lib.hid hb1
    have HBL1 := Lib.hid hbl1
    have HK1 := Lib.hid hK1
    have HKP1 := Lib.hid hKP1
    clear hx hj hin hkp hkn hb hbl hR hlt hT1 hJ1 hb1 hbl1 hK1 hKP1
    gi_wp2
    refine HRd.out.mono ?_
    have hmo : ∀ k, k < (Wb.setCell ⟨W.heap.size + 1, 0, none⟩ (.int .i64 (n - (pre.length : Int) - 1))).heap.size → (Rs k ∨ M k) → (R2 bn bs Rs (fun _ => False) k ∨ ((Mo k ∨ k = W.heap.size ∨ k = W.heap.size + 1) ∨ M k)) := fun k _ h => h.elim (fun h => .inl (.inr (.inl h))) (fun h => .inr (.inr h))
    have HMo := Lib.hid hmo
    clear hmo
    rintro e W3 (⟨rfl, hJ3, hk3⟩ | ⟨rfl, hJ3, hk3⟩)
    · have hbl3 := (hk3.block _ (Array.getElem?_eq_some_iff.1 HBL1.out).1 (.inr (.inl (.inr (.inr rfl))))).trans HBL1.out
      have c43 : W3.cell? ⟨W.heap.size + 1, 0, none⟩ = some (.int .i64 (n - (pre.length : Int) - 1)) := by simp [World.cell?, hbl3]
      have HBL3 := Lib.hid hbl3
      have HJ3 := Lib.hid hJ3
      have HK3 := Lib.hid hk3
      clear hJ3 hk3 hbl3
      by_cases hlast : n - (pre.length : Int) - 1 < 1
      · have hd1 : decide (n - (pre.length : Int) - 1 < 1) = true := by simpa using hlast
        gi_wp2
        exact ⟨HK1.out.trans (HK3.out.mono HMo.out), ⟨rfl, by simp; omega⟩, .inr ⟨by simp; omega, HJ3.out⟩⟩
      · have hd1 : decide (n - (pre.length : Int) - 1 < 1) = false := by simpa using hlast
        gi_wp2
        refine ⟨HK1.out.trans (HK3.out.mono HMo.out), ⟨by simp; omega, HJ3.out⟩, ⟨⟨(HK3.out.block _ (Array.getElem?_eq_some_iff.1 HB1.out).1 (.inr (.inl (.inr (.inl rfl))))).trans HB1.out, hnb⟩, ?_, hnbl⟩, HKP1.out.trans (HK3.out.mono fun k _ h => .inl h), HKN.out⟩
        rw [HBL3.out, List.length_append, List.length_singleton, show n - ((pre.length + 1 : Nat) : Int) = n - (pre.length : Int) - 1 by omega]
    · have HJ3 := Lib.hid hJ3
      have HK3 := Lib.hid hk3
      clear hJ3 hk3
      gi_wp2
      all_goals exact ⟨HK1.out.trans (HK3.out.mono HMo.out), ⟨rfl, by simp; omega⟩, .inl HJ3.out⟩
  case done =>
    rintro M Wb ⟨⟨hlp, hj⟩, _, _⟩ hin hK
    have HJb := Lib.hid hj
    have HIn := Lib.hid hin
    have HK := Lib.hid hK
    clear hj hin hK
    gi_wp2
    refine ⟨by simp, .inl ⟨_, _, rfl, run_takeDeferred HK.out, ?_⟩⟩
    refine ⟨_, results_none rfl _ _ _, ⟨_, rfl⟩, fun k => (Mo k ∨ k = W.heap.size ∨ k = W.heap.size + 1) ∨ M k, fun k h => .inl (.inl h), ?_, .inl (by rw [List.take_of_length_le (by omega)]; exact HJ.out.turn HJb.out (TurnM.putObj Wb (.inr HIn.out.d) _))⟩
    have hKl := (Array.getElem?_eq_some_iff.1 HK.out).1
    rintro k ((h | rfl | rfl) | h)
    · have := HM.out k h; simp; omega
    · simp; omega
    · simp; omega
    · simpa using HIn.out.lt k h
  case stop =>
    rintro c pre M Wb hpre ⟨⟨rfl, hlp⟩, hj⟩ hin hK
    have HJb := Lib.hid hj
    have HIn := Lib.hid hin
    have HK := Lib.hid hK
    have HPre := Lib.hid hpre
    have hpt : pre <+: xs.take n.toNat := by
      rw [List.prefix_iff_eq_take.1 hpre]
      exact List.take_prefix_take_left (by omega)
    have HPT := Lib.hid hpt
    clear hj hin hK hpre hpt
    gi_wp2
    refine ⟨by simp, .inl ⟨_, _, rfl, run_takeDeferred HK.out, ?_⟩⟩
    refine ⟨_, results_none rfl _ _ _, ⟨_, rfl⟩, fun k => (Mo k ∨ k = W.heap.size ∨ k = W.heap.size + 1) ∨ M k, fun k h => .inl (.inl h), ?_, ?_⟩
    rotate_left
    · rcases HJb.out with h | ⟨h1', h2'⟩
      · exact .inr ⟨pre, HPT.out, HJx.out.turn h (TurnM.putObj Wb (.inr HIn.out.d) _)⟩
      · refine .inl ?_
        have e : xs.take n.toNat = pre := by
          have := List.prefix_iff_eq_take.1 HPre.out
          rw [this, show pre.length = n.toNat by omega]
        rw [e]
        exact HJ.out.turn h2' (TurnM.putObj Wb (.inr HIn.out.d) _)
    have hKl := (Array.getElem?_eq_some_iff.1 HK.out).1
    rintro k ((h | rfl | rfl) | h)
    · have := HM.out k h; simp; omega
    · simp; omega
    · simp; omega
    · simpa using HIn.out.lt k h

theorem entersTake : ∀ args w, (callFunc 54 args).run Try.prog w = .ok (.enter 54 args) w := enters_of Try.func54 (by kernel_rfl) rfl

def TakePost (w : World) (xs : List ByteArray) (Rs M0s : Fp) (e : Ending) (w' : World) : Prop := ∃ fv, e = .returned fv ∧ SeqG fv xs (R2 (w.heap.size + 1) w.heap.size Rs (fun _ => False)) M0s w' ∧ Below w.heap.size w w'

set_option maxRecDepth 100000 in
theorem take_calls (w : World) (sv : Value) (n : Int) (xs : List ByteArray) (Rs M0s : Fp) (hs : SeqG sv xs Rs M0s w) (hdis : ∀ k, Rs k → ¬ M0s k) (h1 : 1 ≤ n) (hn : n ≤ 1000000) :
    Calls Try.prog 43 #[sv, .int .i64 n] w (TakePost w (xs.take n.toNat) Rs M0s) := by
  have HS := Lib.hid hs
  have HDis := Lib.hid hdis
  clear hdis
  obtain ⟨_, _, gf, lb, rfl, _⟩ := hs
  go_enter Try.func43, Try.ntmps43
  go_wp2
  go_ret
  have hB : Below w.heap.size w ((w.alloc (.cells #[.func (.func gf) #[] lb] 51)).alloc (.cells #[.int .i64 n] 3)) := ((Below.refl _ w).alloc (Nat.le_refl _) _).alloc (by simp) _
  have c1 := ((Boxed.new w 51 (.func (.func gf) #[] lb)).alloc (.cells #[.int .i64 n] 3))
  have c2 := Boxed.new (w.alloc (.cells #[.func (.func gf) #[] lb] 51)) 3 (.int .i64 n)
  simp only [World.size_alloc] at c2
  have s1 := HS.out.below hB
  have hml := HS.out.2.1
  refine ⟨_, rfl, ⟨?_, s1.2.1, 54, _, rfl, entersTake, fun W2 hk => ?_⟩, hB⟩
  · rintro k ((rfl | rfl) | h | h)
    · exact c2.lt
    · exact c1.lt
    · exact s1.1 k h
    · exact h.elim
  · have k1 : Boxed W2 w.heap.size 51 (.func (.func gf) #[] lb) := (hk.block _ c1.lt (.inl (.inl (.inr rfl)))).trans c1
    have k2 : Boxed W2 (w.heap.size + 1) 3 (.int .i64 n) := (hk.block _ c2.lt (.inl (.inl (.inl rfl)))).trans c2
    have k3 := s1.keep (hk.mono fun k _ h => h.elim (fun h => .inl (.inr (.inl h))) .inr)
    exact take1 _ _ _ n xs Rs M0s W2 k2 k1 k3 ⟨fun h => by have := hml _ h; omega, fun h => by have := hml _ h; omega, HDis.out⟩ h1 hn
end Go.Proofs.Ythghpmnbnfbheaa.SeqS
