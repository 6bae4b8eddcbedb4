/- Like lists of texts are the same. -/
import Derived.Test.YtnagjilogadinaaDoorSeqT
import Derived.Test.YtnagjilogadinaaDoorSeqAwake
namespace Go.Proofs.YtnagjilogadinaaDoor.SeqK
open Go.RowKit Go.Shelf Go.Proofs.YtnagjilogadinaaDoor.SeqM
attribute [local go_sem] Oper.semAt_some
set_option linter.unusedVariables false

/-- The texts lie in W. -/
def CellsT (W : World) (A : Option Addr) (zs : List ByteArray) : Prop :=
  zs = [] ∨ ∃ b off, A = some ⟨b, off, none⟩ ∧ b < W.heap.size ∧ ∀ j (h : j < zs.length), W.cell? ⟨b, off + j, none⟩ = some (.string zs[j])
theorem CellsT.below {W W' : World} {A : Option Addr} {zs : List ByteArray} (h : CellsT W A zs) (hb : Below W.heap.size W W') : CellsT W' A zs := by
  rcases h with rfl | ⟨b, off, rfl, h1, h2⟩
  · exact .inl rfl
  · exact .inr ⟨b, off, rfl, Nat.lt_of_lt_of_le h1 hb.size, fun j hj => (hb.cell (p := ⟨b, off + j, none⟩) h1).trans (h2 j hj)⟩
theorem colT_open {W : World} {n₀ : Nat} {v : Value} {zs : List ByteArray} (h : W.ownsRow n₀ 9 1 v zs.length (zs.map Value.string)) :
    ∃ A cap, v = .slice A zs.length cap ∧ CellsT W A zs := by
  rcases h.2 with ⟨rfl, h0⟩ | ⟨g, cap, cur, rfl, hg, hh, hc1, hc2, hcs, htk⟩
  · have : zs = [] := List.eq_nil_of_length_eq_zero h0
    subst this
    exact ⟨none, 0, rfl, .inl rfl⟩
  · refine ⟨_, cap, rfl, .inr ⟨g, 0, rfl, (Array.getElem?_eq_some_iff.1 hh).1, fun j hj => ?_⟩⟩
    have h1 : (cur.toList.take (zs.length * 1))[j]? = some (.string zs[j]) := by rw [htk]; simp [hj]
    rw [List.getElem?_take] at h1
    split at h1
    · simp [World.cell?, hh]; simpa using h1
    · cases h1
set_option maxHeartbeats 2000000 in
set_option maxRecDepth 100000 in
/-- Like lists are the same. -/
theorem same_calls (A B : Option Addr) (c d : Nat) (zs : List ByteArray) (w : World) (hlen : zs.length ≤ 1000000) (ha : CellsT w A zs) (hb : CellsT w B zs) :
    Calls Tryd.prog 11 #[.slice A zs.length c, .slice B zs.length d] w fun e w' => e = .returned (.bool true) ∧ Below w.heap.size w w' := by
  have HA := Lib.hid ha
  have HB := Lib.hid hb
  clear ha hb
  go_enter Tryd.func11, Tryd.ntmps11
  go_wp2
  go_loopw [5] (fun i wr => ∃ k : Nat, k ≤ zs.length ∧ i = .int .i64 k ∧ Below w.heap.size w wr) (fun i _ => zs.length - (intOf i).toNat)
  case atStart => exact ⟨0, Nat.zero_le _, rfl, Below.refl _ _⟩
  case round =>
    obtain ⟨k, hk, rfl, hB⟩ := hrel
    have HBl := Lib.hid hB
    clear hB
    by_cases hlt : k < zs.length
    · rcases HA.out with e | ⟨b1, o1, rfl, hb1, hc1⟩
      · subst e; simp at hlt
      rcases HB.out with e | ⟨b2, o2, rfl, hb2, hc2⟩
      · subst e; simp at hlt
      have e1 : wr.cell? ⟨b1, o1 + k, none⟩ = some (.string zs[k]) := (HBl.out.cell (p := ⟨b1, o1 + k, none⟩) hb1).trans (hc1 k hlt)
      have e2 : wr.cell? ⟨b2, o2 + k, none⟩ = some (.string zs[k]) := (HBl.out.cell (p := ⟨b2, o2 + k, none⟩) hb2).trans (hc2 k hlt)
      clear hc1 hc2
      go_wp2
      go_quiet (fail)
      go_wp2
      go_roundw
      case rel => exact ⟨k + 1, by omega, by simp, HBl.out.trans ⟨rfl, rfl, rfl, Nat.le_refl _, fun _ _ => rfl⟩⟩
      case measure => simp [intOf]; omega
    · obtain rfl : k = zs.length := by omega
      go_wp2
      go_ret
      exact ⟨rfl, HBl.out⟩
theorem same_n (A B : Option Addr) (n m c d : Nat) (zs : List ByteArray) (w : World) (hn : n = zs.length) (hm : m = zs.length) (hlen : zs.length ≤ 1000000) (ha : CellsT w A zs) (hb : CellsT w B zs) :
    Calls Tryd.prog 11 #[.slice A n c, .slice B m d] w fun e w' => e = .returned (.bool true) ∧ Below w.heap.size w w' := by
  subst hn hm
  exact same_calls A B c d zs w hlen ha hb
theorem same_i (A B : Option Addr) (n m c d : Nat) (zs : List Int) (w : World) (hn : n = zs.length) (hm : m = zs.length) (hlen : zs.length ≤ 1000000) (ha : SeqI.Cells w A zs) (hb : SeqI.Cells w B zs) :
    Calls Tryd.prog 14 #[.slice A n c, .slice B m d] w fun e w' => e = .returned (.bool true) ∧ Below w.heap.size w w' := by
  subst hn hm
  exact SeqI.same_calls A B c d zs w hlen ha hb
end Go.Proofs.YtnagjilogadinaaDoor.SeqK
