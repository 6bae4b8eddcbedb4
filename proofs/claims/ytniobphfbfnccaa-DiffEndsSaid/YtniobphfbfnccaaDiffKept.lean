/- KeptTexts: what was lent is as it was. SameTexts over any two rows. -/
import Derived.Test.YtniobphfbfnccaaDiffGreat4
import Derived.Test.YtniobphfbfnccaaSeqLendS4
namespace Go.Proofs.Ytniobphfbfnccaa.SeqS
open Go.RowKit Go.Shelf Go.Proofs.Ytniobphfbfnccaa.SeqM Go.Proofs.Ytniobphfbfnccaa.PRef Go.Proofs.YtniobphfbfnccaaW.PrintWords
attribute [local go_sem] Oper.semAt_some
set_option linter.unusedVariables false

theorem CellsT.kd {W : World} {A : Option Addr} {l : List ByteArray} (h : CellsT W A l) (hl : l.length ≤ 1000000) : Kd.C Kd.string W A l.length l := by
  refine Kd.C_of_reads (enc := Value.string) (d := ByteArray.empty) (h1 := fun _ => rfl) ⟨rfl, by omega, fun hp => ?_⟩
  rcases h with rfl | ⟨g, off, e, hg, hc⟩
  · simp at hp
  · exact ⟨_, e, fun j hj => by rw [Addr.add_lit, hc j hj]; simp [List.getD_eq_getElem?_getD, hj]⟩
theorem CellsT.kd' {W : World} {A : Option Addr} {l : List ByteArray} (h : CellsT W A l) (hl : l.length ≤ 8796093022207) : Kd.C Kd.string W A l.length l := by
  refine Kd.C_of_reads (enc := Value.string) (d := ByteArray.empty) (h1 := fun _ => rfl) ⟨rfl, by omega, fun hp => ?_⟩
  rcases h with rfl | ⟨g, off, e, hg, hc⟩
  · simp at hp
  · exact ⟨_, e, fun j hj => by rw [Addr.add_lit, hc j hj]; simp [List.getD_eq_getElem?_getD, hj]⟩
theorem sameT (A B : Option Addr) (n m c d : Nat) (l l' : List ByteArray) (w : World) (hn : n = l.length) (hm' : m = l'.length) (hl : l.length ≤ 1000000) (he : l = l') (h1 : CellsT w A l) (h2 : CellsT w B l') (hc : l.length ≤ c) (hd : l'.length ≤ d) :
    Calls Try.prog 21 #[.slice A n c, .slice B m d] w fun e w' => e = .returned (.bool true) ∧ ∃ n, w' = w.drewN n := by
  subst hn
  subst hm'
  subst he
  obtain ⟨k, hk⟩ := (DiffCommon.sameTexts (a := l) rfl hl).rounds
  exact (cortegelaw0_SameTexts.calls k A c l B d l _ w (h1.kd hl) hc (h2.kd hl) hd hk).mono fun e w' ⟨he, hw⟩ => ⟨he, hw.out⟩
theorem Row.below {W W' : World} {g n cap : Nat} {zs : List Value} (h : Row W g n cap zs) (hb : Below W.heap.size W W') : Row W' g n cap zs := by
  obtain ⟨cur, h1, h2⟩ := h
  exact ⟨cur, (hb.block g (Array.getElem?_eq_some_iff.1 h1).1).trans h1, h2⟩
theorem Row.cell {W : World} {g n cap : Nat} {zs : List Value} (h : Row W g n cap zs) (j : Nat) (hj : j < zs.length) : W.cell? ⟨g, j, none⟩ = some zs[j] := by
  obtain ⟨cur, h1, h2, h3, h4, h5⟩ := h
  have e : (cur.toList.take n)[j]? = some zs[j] := by rw [h5]; simp [hj]
  rw [List.getElem?_take] at e
  split at e
  · simp [World.cell?, h1]; simpa using e
  · cases e
theorem Row.lt {W : World} {g n cap : Nat} {zs : List Value} (h : Row W g n cap zs) : g < W.heap.size := by
  obtain ⟨cur, h1, _⟩ := h
  exact (Array.getElem?_eq_some_iff.1 h1).1
/-- What was lent, its room with it. -/
def Lent (W : World) (g : Nat) (zs : List ByteArray) : Prop := Row W g (zs.length + 3) (zs.length + 3) (zs.map Value.string ++ List.replicate 3 lentV)
theorem Lent.below {W W' : World} {g : Nat} {zs : List ByteArray} (h : Lent W g zs) (hb : Below W.heap.size W W') : Lent W' g zs := Row.below h hb
theorem Lent.cells {W : World} {g : Nat} {zs : List ByteArray} (h : Lent W g zs) : CellsT W (some ⟨g, 0, none⟩) zs :=
  .inr ⟨g, 0, rfl, Row.lt h, fun j hj => by
    have := Row.cell h j (by simp; omega)
    rw [List.getElem_append_left (by simpa using hj)] at this
    simpa using this⟩
theorem Lent.room {W : World} {g : Nat} {zs : List ByteArray} (h : Lent W g zs) (i : Nat) (hi : i < 3) : W.cell? ⟨g, zs.length + i, none⟩ = some lentV := by
  have := Row.cell h (zs.length + i) (by simp; omega)
  rw [List.getElem_append_right (by simp), List.getElem_replicate] at this
  exact this

set_option maxHeartbeats 2000000 in
set_option maxRecDepth 100000 in
theorem kept_calls (w : World) (g : Nat) (A : Option Addr) (c : Nat) (zs : List ByteArray) (hl : zs.length ≤ 1000000) (hR : Lent w g zs) (hz : CellsT w A zs) (hc : zs.length ≤ c) :
    Calls Try.prog 24 #[.slice (some ⟨g, 0, none⟩) zs.length (zs.length + 3), .slice A zs.length c] w fun e w' => e = .returned (.bool true) ∧ Below w.heap.size w w' := by
  have HR := Lib.hid hR
  have HZ := Lib.hid hz
  clear hR hz
  go_enter Try.func24, Try.ntmps24
  go_wp2_with fail
  go_loopw [6] (fun i wr => ∃ k : Nat, k ≤ 3 ∧ i = .int .i64 k ∧ Below w.heap.size w wr) (fun i _ => 3 - (intOf i).toNat)
  case atStart => exact ⟨0, by omega, rfl, Below.refl _ _⟩
  case round =>
    obtain ⟨k, hk, rfl, hB⟩ := hrel
    have HB := Lib.hid hB
    clear hB
    by_cases hlt : k < 3
    · have hck : wr.cell? ⟨g, zs.length + k, none⟩ = some lentV := (HR.out.below HB.out).room k hlt
      go_wp2
      go_roundw
      case rel => exact ⟨k + 1, by omega, by simp, HB.out⟩
      case measure => simp [intOf]; omega
    · obtain rfl : k = 3 := by omega
      go_wp2_with (go_at_call 21; refine (sameT _ _ _ _ _ _ zs zs _ rfl rfl hl rfl (HR.out.below HB.out).cells (HZ.out.below HB.out) (by omega) hc).mono ?_; rintro e w2 ⟨rfl, n, rfl⟩)
      go_ret
      exact ⟨rfl, HB.out.trans ⟨rfl, rfl, rfl, Nat.le_refl _, fun _ _ => rfl⟩⟩
end Go.Proofs.Ytniobphfbfnccaa.SeqS
