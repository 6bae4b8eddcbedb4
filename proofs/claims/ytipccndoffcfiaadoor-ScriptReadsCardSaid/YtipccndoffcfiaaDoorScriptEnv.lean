/- What the world holds when a law of script begins: the table, the two errors, a number; what Itoa and Atoi answer; number. -/
import Derived.Test.YtipccndoffcfiaaDoorShelf
import Derived.Test.YtipccndoffcfiaaDoorScriptNum
import Derived.Lib.LaidTab
import Derived.Lib.ItoaLen
import Derived.Stop.LaidErr
import Derived.Below
import Derived.WalkSmall
import Derived.WalkKit
import Derived.BigQuiet
import Derived.Deep.RegionHeld3
import Derived.Lib.Hide
import Derived.Deep.LoopGhost
import Derived.OwnWalk
namespace Go.Proofs.YtipccndoffcfiaaDoor.Script
open Go.RowKit
attribute [local go_sem] Oper.semAt_some
set_option linter.unusedVariables false
set_option linter.unusedSimpArgs false
/-- A number's text. -/
def itoaB (n : Int) : ByteArray := ⟨(Lib.itoa n).toArray⟩
/-- The table stands in the world. -/
def Tab (w : World) : Prop := Lib.TabIs Tryd.prog w "internal/strconv.uint64pow10" .u64 Lib.pow10Tab
theorem gTab : Tryd.prog.globalNamed "internal/strconv.uint64pow10" = some 1 := by kernel_rfl
theorem gTabType : (Tryd.prog.globals[1]?).map (·.type) = some 120 := by kernel_rfl
theorem cellsA : Tryd.prog.cellsOf 120 = 20 := by kernel_rfl
theorem cellsE : Tryd.prog.cellsOf 113 = 1 := by kernel_rfl
theorem gSyn : Tryd.prog.globalNamed "strconv.ErrSyntax" = some 4 := by kernel_rfl
theorem gRan : Tryd.prog.globalNamed "strconv.ErrRange" = some 5 := by kernel_rfl
/-- What the library's functions ask of the world. -/
structure Env (w : World) : Prop where
  size : 5 < w.heap.size
  tab : Tab w
  len : ∃ m, w.cell? ⟨0, 0, none⟩ = some (.int .i64 m)
  syn : ∃ tp p, w.var? Tryd.prog "strconv.ErrSyntax" = some #[.iface tp p]
  ran : ∃ tp p, w.var? Tryd.prog "strconv.ErrRange" = some #[.iface tp p]
theorem Env.blocks {w w' : World} (h : Env w) (hs : w.heap.size ≤ w'.heap.size) (hb : ∀ k, k < 6 → w'.heap[k]? = w.heap[k]?) : Env w' := by
  refine ⟨Nat.lt_of_lt_of_le h.size hs, ?_, ?_, ?_, ?_⟩
  · have ht := h.tab
    unfold Tab Lib.TabIs World.var? at ht ⊢
    rw [gTab] at ht ⊢
    simp only [Option.bind_some] at ht ⊢
    rw [hb 1 (by omega)]
    exact ht
  · obtain ⟨m, hm⟩ := h.len
    refine ⟨m, ?_⟩
    rw [← hm]
    simp only [World.cell?, hb 0 (by omega)]
  · obtain ⟨tp, p, hv⟩ := h.syn
    refine ⟨tp, p, ?_⟩
    unfold World.var? at hv ⊢
    rw [gSyn] at hv ⊢
    simp only [Option.bind_some] at hv ⊢
    rw [hb 4 (by omega)]
    exact hv
  · obtain ⟨tp, p, hv⟩ := h.ran
    refine ⟨tp, p, ?_⟩
    unfold World.var? at hv ⊢
    rw [gRan] at hv ⊢
    simp only [Option.bind_some] at hv ⊢
    rw [hb 5 (by omega)]
    exact hv
theorem Env.below {w w' : World} (h : Env w) (hb : Below w.heap.size w w') : Env w' := h.blocks hb.size (fun k hk => hb.block k (by have := h.size; omega))
theorem Env.from {w w' : World} {n : Nat} (h : Env w) (hn : 6 ≤ n) (hb : Below n w w') : Env w' := h.blocks hb.size (fun k hk => hb.block k (by omega))
theorem below_grow (w : World) (k : Nat) (os : Array Obj) : Below w.heap.size w (Sort.grow (w.drewN k) os) :=
  ⟨rfl, rfl, rfl, by simp [Sort.grow], fun i hi => by simp [Sort.grow]; exact Array.getElem?_append_left hi⟩
theorem itoa_calls (x : Int) (w : World) (hb : -9223372036854775808 ≤ x ∧ x ≤ 9223372036854775807) (ht : Env w) : Calls Tryd.prog 46 #[.int .i64 x] w fun e w' => e = .returned (.string (itoaB x)) ∧ Below w.heap.size w w' := by
  refine (Tryd.strconv_Itoa x ?_ ?_ w ht.tab).mono ?_
  · exact hb.1
  · exact hb.2
  · rintro e w' ⟨rfl, k, os, rfl⟩
    exact ⟨rfl, below_grow w k os⟩

def AtoiPost (s : ByteArray) (w : World) (e : Ending) (w' : World) : Prop := ∃ (v : Int) (x : Value), e = .returned (.tuple #[.int .i64 v, x]) ∧ ((x = .nilIface ∧ Lib.atoiAll s.data.toList = .ok v) ∨ ((∃ N, x = .iface 131 (.pointer (some ⟨N, 0, none⟩))) ∧ ∀ u, Lib.atoiAll s.data.toList ≠ .ok u)) ∧ Below w.heap.size w w'
theorem atoi_calls (s : ByteArray) (w : World) (hs : s.size ≤ 1000000) (h : Env w) : Calls Tryd.prog 71 #[.string s] w (AtoiPost s w) := by
  rcases ha : Lib.atoiAll s.data.toList with v | _ | _
  · refine (Tryd.strconv_Atoi_ok s (by omega) v ha w).mono ?_
    rintro e w' ⟨rfl, hw⟩
    refine ⟨v, _, rfl, .inl ⟨rfl, ha⟩, ?_⟩
    rcases hw with rfl | ⟨t, rfl⟩
    · exact Below.refl _ _
    · exact ⟨rfl, rfl, rfl, by rw [Lib.bytesWorld_size]; omega, fun j hj => Lib.bytesWorld_at_old w 5 t j hj⟩
  · obtain ⟨tp, p, hv⟩ := h.syn
    refine (Tryd.strconv_Atoi_syntax_var s (by omega) ha tp p w hv).mono ?_
    rintro e w' ⟨N, rfl, _, _, hb⟩
    exact ⟨0, _, rfl, .inr ⟨⟨N, rfl⟩, fun u e => by rw [ha] at e; cases e⟩, hb⟩
  · obtain ⟨tp, p, hv⟩ := h.ran
    refine (Tryd.strconv_Atoi_range_var s (by omega) ha tp p w hv).mono ?_
    rintro e w' ⟨N, rfl, _, _, hb⟩
    exact ⟨_, _, rfl, .inr ⟨⟨N, rfl⟩, fun u e => by rw [ha] at e; cases e⟩, hb⟩
end Go.Proofs.YtipccndoffcfiaaDoor.Script
