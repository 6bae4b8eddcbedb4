/- A number's text: what the table gives, what Itoa answers, and that unlike numbers have unlike texts. -/
import Derived.Test.YtgcjejepahdjgaaDoorShelf
import Derived.Lib.LaidTab
import Derived.Lib.ItoaLen
import Derived.Stop.LaidErr
import Derived.Below
namespace Go.Proofs.YtgcjejepahdjgaaDoor.Num
open Go.RowKit

/-- A number's text. -/
def itoaB (n : Int) : ByteArray := ⟨(Lib.itoa n).toArray⟩
theorem itoaB_size (n : Int) (h0 : -9223372036854775808 ≤ n) (h1 : n ≤ 9223372036854775807) : (itoaB n).size ≤ 21 := by
  have := Lib.itoa_length_le n h0 h1
  simpa [itoaB, ByteArray.size] using this

def val (l : List UInt8) : Nat := l.foldl (fun a c => a * 10 + (c.toNat - 48)) 0
theorem val_snoc (l : List UInt8) (c : UInt8) : val (l ++ [c]) = val l * 10 + (c.toNat - 48) := by simp [val, List.foldl_append]
theorem dig (d : Nat) (h : d < 10) : (UInt8.ofNat (48 + d)).toNat = 48 + d := by
  rw [UInt8.toNat_ofNat']
  omega
theorem val_dec (u : Nat) : val (Lib.decDigits u) = u := by
  induction u using Nat.strongRecOn with
  | ind u ih =>
    rw [Lib.decDigits]
    split
    · rename_i h
      have := dig u h
      simp only [val, List.foldl_cons, List.foldl_nil, this]
      omega
    · rename_i h
      rw [val_snoc, ih (u / 10) (by omega), dig (u % 10) (by omega)]
      omega
theorem dec_ge (u : Nat) : ∀ c ∈ Lib.decDigits u, 48 ≤ c.toNat := by
  induction u using Nat.strongRecOn with
  | ind u ih =>
    rw [Lib.decDigits]
    split
    · rename_i h
      intro c hc
      rw [List.mem_singleton] at hc
      subst hc
      rw [dig u h]; omega
    · rename_i h
      intro c hc
      rcases List.mem_append.1 hc with hc | hc
      · exact ih (u / 10) (by omega) c hc
      · rw [List.mem_singleton] at hc
        subst hc
        rw [dig (u % 10) (by omega)]; omega
theorem dec_inj {a b : Nat} (h : Lib.decDigits a = Lib.decDigits b) : a = b := by rw [← val_dec a, ← val_dec b, h]
theorem itoa_inj {a b : Int} (h : Lib.itoa a = Lib.itoa b) : a = b := by
  unfold Lib.itoa at h
  split at h <;> split at h
  · have := dec_inj (List.cons.inj h).2
    omega
  · have h45 : (45 : UInt8) ∈ Lib.decDigits b.toNat := by rw [← h]; exact List.mem_cons_self
    have h5 := dec_ge _ _ h45
    exact absurd h5 (by decide)
  · have h45 : (45 : UInt8) ∈ Lib.decDigits a.toNat := by rw [h]; exact List.mem_cons_self
    have h5 := dec_ge _ _ h45
    exact absurd h5 (by decide)
  · have := dec_inj h
    omega
theorem itoaB_inj {a b : Int} (h : itoaB a = itoaB b) : a = b := by
  unfold itoaB at h
  injection h with h
  exact itoa_inj (by simpa using congrArg Array.toList h)

/-- The table stands in the world. -/
def Tab (w : World) : Prop := Lib.TabIs Tryd.prog w "internal/strconv.uint64pow10" .u64 Lib.pow10Tab
theorem gTab : Tryd.prog.globalNamed "internal/strconv.uint64pow10" = some 0 := by kernel_rfl
theorem gTabType : (Tryd.prog.globals[0]?).map (·.type) = some 72 := by kernel_rfl
theorem cellsA : Tryd.prog.cellsOf 72 = 20 := by kernel_rfl
theorem cellsE : Tryd.prog.cellsOf 64 = 1 := by kernel_rfl
theorem Tab.lt {w : World} (h : Tab w) : 0 < w.heap.size := by
  unfold Tab Lib.TabIs World.var? at h
  rw [gTab] at h
  simp only [Option.bind_some] at h
  rcases Nat.eq_zero_or_pos w.heap.size with e | e
  · rw [Array.getElem?_eq_none (by omega)] at h
    cases h
  · exact e
theorem Tab.block {w w' : World} (h : Tab w) (hb : w'.heap[0]? = w.heap[0]?) : Tab w' := by
  unfold Tab Lib.TabIs World.var? at h ⊢
  rw [gTab] at h ⊢
  simp only [Option.bind_some] at h ⊢
  rw [hb]
  exact h
theorem Tab.below {w w' : World} (h : Tab w) (hb : Below w.heap.size w w') : Tab w' := h.block (hb.block 0 h.lt)
theorem Tab.of_laid {W : World} {a b : String × DataW Unit} {zs : List Int} (hz : zs = Lib.pow10Tab) (h : laidMet Tryd.prog (a :: b :: [("internal/strconv.uint64pow10", Lib.tabData .u64 zs)]) W) : Tab W := by
  subst hz
  exact Lib.tabIs_of_head gTab gTabType Tryd.underlying72 Tryd.underlying64 cellsE cellsA h.tail.tail

theorem below_grow (w : World) (k : Nat) (os : Array Obj) : Below w.heap.size w (Sort.grow (w.drewN k) os) :=
  ⟨rfl, rfl, rfl, by simp [Sort.grow], fun i hi => by simp [Sort.grow]; exact Array.getElem?_append_left hi⟩
theorem itoa_calls (x : Int) (w : World) (hx : (Lit.int .i64 x).wf = true) (ht : Tab w) : Calls Tryd.prog 14 #[.int .i64 x] w fun e w' => e = .returned (.string (itoaB x)) ∧ Below w.heap.size w w' := by
  have hb : -9223372036854775808 ≤ x ∧ x ≤ 9223372036854775807 := by
    simp [Lit.wf, IntKind.min, IntKind.max, IntKind.signed, IntKind.bits] at hx
    omega
  refine (Tryd.strconv_Itoa x ?_ ?_ w ht).mono ?_
  · exact hb.1
  · exact hb.2
  · rintro e w' ⟨rfl, k, os, rfl⟩
    exact ⟨rfl, below_grow w k os⟩
end Go.Proofs.YtgcjejepahdjgaaDoor.Num
