/- The counting functions of SeqLazy; Take of a sequence that counts. -/
import Derived.Test.YtnagjilogadinaaSeqCallsE
import Derived.Test.YtnagjilogadinaaSeqLists

namespace Go.Proofs.Ytnagjilogadinaa.SeqI
open Go.RowKit Go.Shelf Go.Proofs.Ytnagjilogadinaa.SeqM
attribute [local go_sem] Oper.semAt_some
set_option linter.unusedVariables false

def TakeEPost (w : World) (ys : List Int) (M0 : Fp) (S : List Int → World → Prop) (e : Ending) (w' : World) : Prop := ∃ fv R, e = .returned fv ∧ SeqGE fv ys R M0 S w' ∧ Below w.heap.size w w'
set_option maxRecDepth 100000 in
theorem takeE_calls (w : World) (sv : Value) (n : Int) (xs : List Int) (Rs M0s : Fp) (S : List Int → World → Prop) (hs : SeqGE sv xs Rs M0s S w) (hn1 : 1 ≤ n) (hn : n ≤ 1000000) (hdis : ∀ k, Rs k → ¬ M0s k) :
    Calls Try.prog 19 #[sv, .int .i64 n] w (TakeEPost w (xs.take n.toNat) M0s S) := by
  obtain ⟨s1, m1, hS, gf, lb, rfl, eg, hr⟩ := hs
  have HR := Lib.hid hr
  have EG := Lib.hid eg
  have HSS := Lib.hid hS
  clear hr eg hS
  go_enter Try.func19, Try.ntmps19
  go_wp2
  go_ret
  have hB : Below w.heap.size w ((w.alloc (.cells #[.func (.func gf) #[] lb] 26)).alloc (.cells #[.int .i64 n] 3)) := ((Below.refl _ w).alloc (Nat.le_refl _) _).alloc (by simp) _
  have c1 := ((Boxed.new w 26 (.func (.func gf) #[] lb)).alloc (.cells #[.int .i64 n] 3))
  have c2 := Boxed.new (w.alloc (.cells #[.func (.func gf) #[] lb] 26)) 3 (.int .i64 n)
  simp only [World.size_alloc] at c2
  have hd : ∀ k, R2 (w.heap.size + 1) w.heap.size Rs (fun _ => False) k → ¬ M0s k := by
    rintro k ((rfl | rfl) | h | h) hm
    · have := m1 _ hm; omega
    · have := m1 _ hm; omega
    · exact hdis k h hm
    · exact h
  refine ⟨_, R2 (w.heap.size + 1) w.heap.size Rs (fun _ => False), rfl, ⟨?_, fun k hk => Nat.lt_of_lt_of_le (m1 k hk) hB.size, HSS.out, 35, _, rfl, enters35, fun W2 hk => ?_⟩, hB⟩
  · rintro k ((rfl | rfl) | h | h)
    · exact c2.lt
    · exact c1.lt
    · exact Nat.lt_of_lt_of_le (s1 k h) hB.size
    · exact h.elim
  · have k1 : Boxed W2 w.heap.size 26 (.func (.func gf) #[] lb) := (hk.block _ c1.lt (.inl (.inl (.inr rfl)))).trans c1
    have k2 : Boxed W2 (w.heap.size + 1) 3 (.int .i64 n) := (hk.block _ c2.lt (.inl (.inl (.inl rfl)))).trans c2
    have ks : KeepM (fun k => Rs k ∨ M0s k) w W2 := ⟨Nat.le_trans hB.size hk.size, fun k hkl hR => (hk.block k (Nat.lt_of_lt_of_le hkl hB.size) (hR.elim (fun h => .inl (.inr (.inl h))) .inr)).trans (hB.block k hkl)⟩
    exact take1E S M0s _ _ _ n xs Rs W2 k2 k1 ⟨fun k h => Nat.lt_of_lt_of_le (s1 k h) ks.size, fun k h => Nat.lt_of_lt_of_le (m1 k h) ks.size, HSS.out, gf, lb, rfl, EG.out, fun W3 h3 => HR.out W3 (ks.trans h3)⟩ hd hn1 hn

set_option maxRecDepth 100000 in
theorem asked_calls (b : Nat) (x c : Int) (w : World) (h0 : 0 ≤ c) (h1 : c < 1000000) (hc : w.cell? ⟨b, 0, none⟩ = some (.int .i64 c)) (hf : w.frozen? ⟨b, 0, none⟩ = false) :
    Calls Try.prog 16 #[.int .i64 x, .pointer (some ⟨b, 0, none⟩)] w fun e w' => e = .returned (.int .i64 (wrap64 (x + 1))) ∧ w' = w.setCell ⟨b, 0, none⟩ (.int .i64 (c + 1)) := by
  go_enter Try.func16, Try.ntmps16
  go_wp2
  go_ret
  exact ⟨rfl, rfl⟩
set_option maxRecDepth 100000 in
theorem tested_calls (b : Nat) (x c : Int) (w : World) (h0 : 0 ≤ c) (h1 : c < 1000000) (hc : w.cell? ⟨b, 0, none⟩ = some (.int .i64 c)) (hf : w.frozen? ⟨b, 0, none⟩ = false) :
    Calls Try.prog 18 #[.int .i64 x, .pointer (some ⟨b, 0, none⟩)] w fun e w' => e = .returned (.bool true) ∧ w' = w.setCell ⟨b, 0, none⟩ (.int .i64 (c + 1)) := by
  go_enter Try.func18, Try.ntmps18
  go_wp2
  go_ret
  exact ⟨rfl, rfl⟩
theorem enters16 : ∀ args w, (callFunc 16 args).run Try.prog w = .ok (.enter 16 args) w := enters_of Try.func16 (by kernel_rfl) rfl
theorem enters18 : ∀ args w, (callFunc 18 args).run Try.prog w = .ok (.enter 18 args) w := enters_of Try.func18 (by kernel_rfl) rfl
theorem cnt_set {b : Nat} {c : Int} {w : World} (hc : Cnt b c w) : TurnM (fun k => k = b) w (w.setCell ⟨b, 0, none⟩ (.int .i64 (c + 1))) ∧ Cnt b (c + 1) (w.setCell ⟨b, 0, none⟩ (.int .i64 (c + 1))) :=
  ⟨TurnM.setCell (M := fun k => k = b) w (p := ⟨b, 0, none⟩) rfl _, Boxed.set (W := w) (t := 3) (v := .int .i64 c) _ hc⟩
theorem asked_fn (b : Nat) (W : World) : FnE (.func (.func 16) #[] #[.pointer (some ⟨b, 0, none⟩)]) (fun x => .int .i64 (wrap64 (x + 1))) (fun _ => False) b W :=
  ⟨fun _ h => h.elim, 16, _, rfl, enters16, fun W2 _ c h0 h1 hc n x => (callsIn_wide.2 (asked_calls b x c W2 h0 h1 (Boxed.cell (t := 3) hc) (Boxed.frozen (t := 3) hc))).mono fun e w' ⟨he, hw⟩ => by rw [hw]; exact ⟨he, cnt_set hc⟩⟩
theorem tested_fn (b : Nat) (W : World) : FnE (.func (.func 18) #[] #[.pointer (some ⟨b, 0, none⟩)]) (fun _ => .bool true) (fun _ => False) b W :=
  ⟨fun _ h => h.elim, 18, _, rfl, enters18, fun W2 _ c h0 h1 hc n x => (callsIn_wide.2 (tested_calls b x c W2 h0 h1 (Boxed.cell (t := 3) hc) (Boxed.frozen (t := 3) hc))).mono fun e w' ⟨he, hw⟩ => by rw [hw]; exact ⟨he, cnt_set hc⟩⟩
end Go.Proofs.Ytnagjilogadinaa.SeqI
