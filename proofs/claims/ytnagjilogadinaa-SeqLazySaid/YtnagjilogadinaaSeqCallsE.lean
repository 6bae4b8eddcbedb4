/- What Map, Filter, Take give when the functions count. -/
import Derived.Test.YtnagjilogadinaaSeqTakeE
import Derived.Laws.EntriesVeiled

namespace Go.Proofs.Ytnagjilogadinaa.SeqI
open Go.RowKit Go.Shelf Go.Proofs.Ytnagjilogadinaa.SeqM
attribute [local go_sem] Oper.semAt_some
set_option linter.unusedVariables false

def MapSeq (fv : Value) (ys : List Int) (R : Fp) (b : Nat) (W : World) : Prop :=
  ¬ R b ∧ (∀ k, R k → k < W.heap.size) ∧ ∃ g lb, fv = .func (.func g) #[] lb ∧ (∀ args w, (callFunc g args).run Try.prog w = .ok (.enter g args) w) ∧
    ∀ W2, KeepM R W W2 → ∀ (c0 : Int), 0 ≤ c0 → c0 + ys.length ≤ 1000000 → Cnt b c0 W2 → RunE Try.prog g lb eI ys R (fun k => k = b) (fun pre W => Cnt b (c0 + pre.length) W) W2
def S2 (b1 b : Nat) (c0 : Int) (pre : List Int) (W : World) : Prop := Cnt b1 (c0 + pre.length) W ∧ Cnt b (c0 + pre.length) W
def FiltSeq (fv : Value) (ys : List Int) (R : Fp) (b1 b : Nat) (W : World) : Prop :=
  ¬ R b1 ∧ ¬ R b ∧ (∀ k, R k → k < W.heap.size) ∧ ∃ g lb, fv = .func (.func g) #[] lb ∧ (∀ args w, (callFunc g args).run Try.prog w = .ok (.enter g args) w) ∧
    ∀ W2, KeepM R W W2 → ∀ (c0 : Int), 0 ≤ c0 → c0 + ys.length ≤ 1000000 → Cnt b1 c0 W2 → Cnt b c0 W2 → RunE Try.prog g lb eI ys R (fun k => k = b1 ∨ k = b) (S2 b1 b c0) W2
def MapEPost (w : World) (ys : List Int) (b b2 : Nat) (e : Ending) (w' : World) : Prop := ∃ fv R, e = .returned fv ∧ MapSeq fv ys R b w' ∧ ¬ R b2 ∧ Below w.heap.size w w'
def FiltEPost (w : World) (ys : List Int) (b1 b : Nat) (e : Ending) (w' : World) : Prop := ∃ fv R, e = .returned fv ∧ FiltSeq fv ys R b1 b w' ∧ Below w.heap.size w w'
theorem FiltSeq.keep {fv : Value} {ys : List Int} {R : Fp} {b1 b : Nat} {W W' : World} (h : FiltSeq fv ys R b1 b W) (hk : KeepM R W W') : FiltSeq fv ys R b1 b W' := by
  obtain ⟨h1, h2, h3, g, lb, e, eg, hr⟩ := h
  exact ⟨h1, h2, fun k hk' => Nat.lt_of_lt_of_le (h3 k hk') hk.size, g, lb, e, eg, fun W2 h5 => hr W2 (hk.trans h5)⟩
theorem FiltSeq.ge {fv : Value} {ys : List Int} {R : Fp} {b1 b : Nat} {W : World} (h : FiltSeq fv ys R b1 b W) {c0 : Int} (h0 : 0 ≤ c0) (hl : c0 + ys.length ≤ 1000000) (hc1 : Cnt b1 c0 W) (hc : Cnt b c0 W) :
    SeqGE fv ys R (fun k => k = b1 ∨ k = b) (S2 b1 b c0) W := by
  obtain ⟨h1, h2, h3, g, lb, e, eg, hr⟩ := h
  have l1 := (Array.getElem?_eq_some_iff.1 hc1).1
  have l2 := (Array.getElem?_eq_some_iff.1 hc).1
  refine ⟨h3, ?_, fun pre W W' hs hk => ⟨(hk.block b1 (Array.getElem?_eq_some_iff.1 hs.1).1 (.inl rfl)).trans hs.1, (hk.block b (Array.getElem?_eq_some_iff.1 hs.2).1 (.inr rfl)).trans hs.2⟩, g, lb, e, eg, fun W2 hk => hr W2 (hk.mono fun k _ h => .inl h) c0 h0 hl ((hk.block b1 l1 (.inr (.inl rfl))).trans hc1) ((hk.block b l2 (.inr (.inr rfl))).trans hc)⟩
  rintro k (rfl | rfl)
  · exact l1
  · exact l2

set_option maxRecDepth 100000 in
theorem mapE_calls (w : World) (sv fv : Value) (φ : Int → Int) (xs : List Int) (Rs Rf : Fp) (b b2 : Nat) (hs : SeqV sv xs Rs w) (hf : FnE fv (fun x => .int .i64 (φ x)) Rf b w) (hb : b < w.heap.size) (h1 : ¬ Rs b) (h2 : ¬ Rf b) (hb' : b2 < w.heap.size) (h1' : ¬ Rs b2) (h2' : ¬ Rf b2) :
    Calls Try.prog 15 #[sv, fv] w (MapEPost w (xs.map φ) b b2) := by
  have HS := Lib.hid hs
  have HF := Lib.hid hf
  obtain ⟨_, gf, lb, rfl, _⟩ := hs
  obtain ⟨_, g2, lb2, rfl, _⟩ := hf
  go_enter Try.func15, Try.ntmps15
  go_wp2
  go_ret
  have hB : Below w.heap.size w ((w.alloc (.cells #[.func (.func gf) #[] lb] 26)).alloc (.cells #[.func (.func g2) #[] lb2] 35)) := ((Below.refl _ w).alloc (Nat.le_refl _) _).alloc (by simp) _
  have c1 := ((Boxed.new w 26 (.func (.func gf) #[] lb)).alloc (.cells #[.func (.func g2) #[] lb2] 35))
  have c2 := Boxed.new (w.alloc (.cells #[.func (.func gf) #[] lb] 26)) 35 (.func (.func g2) #[] lb2)
  simp only [World.size_alloc] at c2
  have s1 := HS.out.below hB
  obtain ⟨s2, g2', lb2', e2, eg2, hc2⟩ := HF.out
  cases e2
  have hnR : ¬ R2 w.heap.size (w.heap.size + 1) Rs Rf b := by
    rintro ((rfl | rfl) | h | h)
    · omega
    · omega
    · exact h1 h
    · exact h2 h
  have hnR' : ¬ R2 w.heap.size (w.heap.size + 1) Rs Rf b2 := by
    rintro ((rfl | rfl) | h | h)
    · omega
    · omega
    · exact h1' h
    · exact h2' h
  refine ⟨_, R2 w.heap.size (w.heap.size + 1) Rs Rf, rfl, ⟨hnR, ?_, 33, _, rfl, enters33, fun W2 hk c0 h0 hl hc => ?_⟩, hnR', hB⟩
  · rintro k ((rfl | rfl) | h | h)
    · exact c1.lt
    · exact c2.lt
    · exact s1.1 k h
    · exact Nat.lt_of_lt_of_le (s2 k h) hB.size
  · have k1 : Boxed W2 w.heap.size 26 (.func (.func gf) #[] lb) := (hk.block _ c1.lt (.inl (.inl rfl))).trans c1
    have k2 : Boxed W2 (w.heap.size + 1) 35 (.func (.func g2) #[] lb2) := (hk.block _ c2.lt (.inl (.inr rfl))).trans c2
    have kf : KeepM Rf w W2 := ⟨Nat.le_trans hB.size hk.size, fun k hkl hR => (hk.block k (Nat.lt_of_lt_of_le hkl hB.size) (.inr (.inr hR))).trans (hB.block k hkl)⟩
    exact map1E _ _ b c0 _ _ φ xs Rs Rf W2 k1 k2 (s1.keep (hk.mono fun k _ h => .inr (.inl h))) ⟨fun k h => Nat.lt_of_lt_of_le (s2 k h) kf.size, g2, lb2, rfl, eg2, fun W3 h3 => hc2 W3 (kf.trans h3)⟩ hc h0 (by simpa using hl) hnR

set_option maxRecDepth 100000 in
theorem filterE_calls (w : World) (sv fv : Value) (xs : List Int) (Rs Rf : Fp) (b1 b : Nat) (hs : MapSeq sv xs Rs b1 w) (hf : FnE fv (fun _ => .bool true) Rf b w) (hb1 : b1 < w.heap.size) (hb : b < w.heap.size) (hne : b ≠ b1) (h1 : ¬ Rs b) (h2 : ¬ Rf b) (h3 : ¬ Rf b1) :
    Calls Try.prog 17 #[sv, fv] w (FiltEPost w xs b1 b) := by
  obtain ⟨n1, s1, gf, lb, rfl, eg, hr⟩ := hs
  obtain ⟨s2, g2, lb2, rfl, eg2, hc2⟩ := hf
  have HR := Lib.hid hr
  have HC2 := Lib.hid hc2
  have EG := Lib.hid eg
  have EG2 := Lib.hid eg2
  clear hr hc2 eg eg2
  go_enter Try.func17, Try.ntmps17
  go_wp2
  go_ret
  have hB : Below w.heap.size w ((w.alloc (.cells #[.func (.func gf) #[] lb] 26)).alloc (.cells #[.func (.func g2) #[] lb2] 37)) := ((Below.refl _ w).alloc (Nat.le_refl _) _).alloc (by simp) _
  have c1 := ((Boxed.new w 26 (.func (.func gf) #[] lb)).alloc (.cells #[.func (.func g2) #[] lb2] 37))
  have c2 := Boxed.new (w.alloc (.cells #[.func (.func gf) #[] lb] 26)) 37 (.func (.func g2) #[] lb2)
  simp only [World.size_alloc] at c2
  have hn : ∀ q, q < w.heap.size → ¬ Rs q → ¬ Rf q → ¬ R2 w.heap.size (w.heap.size + 1) Rs Rf q := by
    rintro q hq a1 a2 ((rfl | rfl) | h | h)
    · omega
    · omega
    · exact a1 h
    · exact a2 h
  refine ⟨_, R2 w.heap.size (w.heap.size + 1) Rs Rf, rfl, ⟨hn b1 hb1 n1 h3, hn b hb h1 h2, ?_, 34, _, rfl, enters34, fun W2 hk c0 h0 hl hd1 hd => ?_⟩, hB⟩
  · rintro k ((rfl | rfl) | h | h)
    · exact c1.lt
    · exact c2.lt
    · exact Nat.lt_of_lt_of_le (s1 k h) hB.size
    · exact Nat.lt_of_lt_of_le (s2 k h) hB.size
  · have k1 : Boxed W2 w.heap.size 26 (.func (.func gf) #[] lb) := (hk.block _ c1.lt (.inl (.inl rfl))).trans c1
    have k2 : Boxed W2 (w.heap.size + 1) 37 (.func (.func g2) #[] lb2) := (hk.block _ c2.lt (.inl (.inr rfl))).trans c2
    have kf : KeepM Rf w W2 := ⟨Nat.le_trans hB.size hk.size, fun k hkl hR => (hk.block k (Nat.lt_of_lt_of_le hkl hB.size) (.inr (.inr hR))).trans (hB.block k hkl)⟩
    have ks : KeepM Rs w W2 := ⟨Nat.le_trans hB.size hk.size, fun k hkl hR => (hk.block k (Nat.lt_of_lt_of_le hkl hB.size) (.inr (.inl hR))).trans (hB.block k hkl)⟩
    have := filter1E _ _ b b1 c0 _ _ xs Rs Rf W2 k1 k2 ⟨fun k h => Nat.lt_of_lt_of_le (s1 k h) ks.size, gf, lb, rfl, EG.out, fun W3 h3 h4 => HR.out W3 (ks.trans h3) c0 h0 hl h4⟩ ⟨fun k h => Nat.lt_of_lt_of_le (s2 k h) kf.size, g2, lb2, rfl, EG2.out, fun W3 h3 => HC2.out W3 (kf.trans h3)⟩ hd1 hd hne h0 hl (hn b hb h1 h2) (hn b1 hb1 n1 h3)
    rw [filter_all] at this
    exact this
end Go.Proofs.Ytnagjilogadinaa.SeqI
