/- What a row of script gives: the table, the two errors, MaxLen's cell; the wrap that hands on both what is laid and the world's shape. -/
import Derived.Test.YtipccndoffcfiaaDoorScriptA
import Derived.Test.YtipccndoffcfiaaDoorRows
import Derived.Handed
import Derived.LaidMore
import Derived.SizedLaws
import Derived.Shelf.Vars
import Derived.Stop.LaidErr
namespace Go.Proofs.YtipccndoffcfiaaDoor.Script
open Go.RowKit
set_option linter.unusedVariables false
theorem gSynT : (Tryd.prog.globals[4]?).map (·.type) = some 83 := by kernel_rfl
theorem gRanT : (Tryd.prog.globals[5]?).map (·.type) = some 83 := by kernel_rfl
theorem cells9 : Tryd.prog.cellsOf 9 = 1 := by kernel_rfl
theorem cellsEs : Tryd.prog.cellsOf 145 = 1 := by kernel_rfl
theorem rowEs (u : TypeId) (h : Tryd.prog.typeName? 3 u = some "*errors.errorString") : u = 143 :=
  typeName_ptr_named (nm := "errors.errorString") (by kernel_rfl) (by kernel_rfl) (by decide) u h
theorem max_cell (W : World) (h : W.ShapedOpen Tryd.prog) : ∃ m, W.cell? ⟨0, 0, none⟩ = some (.int .i64 m) :=
  Go.Proofs.cell_of_shapedOpen_int (zero := #[.int .i64 0]) (t := 3) h (of_decide_eq_true (by kernel_rfl)) (by kernel_rfl) rfl (by kernel_rfl) (by kernel_rfl) Tryd.underlying3
theorem env_of {W : World} (h : laidMet Tryd.prog Rows.scriptHexRow.laid W) (hs : W.ShapedOpen Tryd.prog) : Env W := by
  have hr := laid_sentinel h.tail.tail.tail.tail gRan gRanT Tryd.underlying83 rowEs Tryd.underlying143 Tryd.underlying145 rfl rfl Tryd.underlying9 cellsEs cells9
  have hy := laid_sentinel h.tail.tail.tail.tail.tail gSyn gSynT Tryd.underlying83 rowEs Tryd.underlying143 Tryd.underlying145 rfl rfl Tryd.underlying9 cellsEs cells9
  obtain ⟨a, s, hv, _⟩ := hr
  obtain ⟨a2, s2, hv2, _⟩ := hy
  refine ⟨?_, ?_, max_cell W hs, ⟨_, _, hv2⟩, ⟨_, _, hv⟩⟩
  · rcases Nat.lt_or_ge 5 W.heap.size with h5 | h5
    · exact h5
    · have e : W.heap[5]? = none := Array.getElem?_eq_none h5
      unfold World.var? at hv
      rw [gRan] at hv
      simp [e] at hv
  · have ht : laidMet Tryd.prog (("internal/strconv.uint64pow10", Lib.tabData .u64 Lib.pow10Tab) :: _) W := h.tail.tail
    exact Lib.tabIs_of_head gTab gTabType Tryd.underlying120 Tryd.underlying113 cellsE cellsA ht
/-- A row whose contract is handed what is laid AND the world's shape. -/
theorem row_wrap {H : Type} {enc : TypeId × Value → H} {C : Checked} {os : Os} {f : FuncId} {fn : Func} {s : ChangeSpec} {X : World → Prop} (hX : ∀ w w' : World, w.heap = w'.heap → X w → X w')
    (own : ownKnob C.prog.godebug = none) (started : os.Started) (noInit : C.prog.inits.idxOf? f = none) (hfn : C.prog.funcs[f]? = some fn)
    (witness : ∃ (w : World) (tape : Tape) (i : Input), w.os = os ∧ (w.forCall tape i).Shaped C.prog ∧ i.vars = [] ∧ Input.okWide C.prog (w.forCall tape i) .any w.heap.size f i ∧
      ((s.pre enc C.prog fn [] false (w.forCall tape i).memory i.args ∧ X (w.forCall tape i).memory) ∧ sizedMet enc C.prog fn (OpenSpec.ofChange s) false (w.forCall tape i).memory i.args) ∧ Assume.holds {} C.prog (lone (Frame.enter C.prog f i.args .normal) [] (w.forCall tape i)))
    (contract : ∀ (W : World) (args : Array Value) (ds gs : List (DataW H)) (before : List MemPlace), (∃ base, ∀ (j : Nat) t v, fn.params[j]? = some t → args[j]? = some v → Value.okWide C.prog W .any base t v) →
      DataW.Whole enc C.prog fn.params.toList s.vars false W args.toList ds gs before → (DataW.weightsEach C.prog (fn.params.toList ++ s.plain.varTypes C.prog) (ds ++ gs)).all (· ≤ reachBytes) = true → X W → W.ShapedOpen C.prog →
      Calls C.prog f args W fun e W' => ∃ v, e = .returned v ∧ s.post enc C.prog fn false true false false W args v W') :
    ReturnsInHanded {} C os f .any (fun w args => (s.pre enc C.prog fn [] false w args ∧ X w) ∧ sizedMet enc C.prog fn (OpenSpec.ofChange s) false w args) (s.post enc C.prog fn false true false false) :=
  returnsInHanded_of_calls own started noInit witness fun w tape i _ hsh _ hok hpre _ => by
    obtain ⟨_, _, _, g, hg, _, _, _, _, hval⟩ := hok
    obtain rfl : g = fn := Option.some.inj (hg.symm.trans hfn)
    obtain ⟨⟨⟨ds, gs, before, hw, _⟩, hx⟩, hz⟩ := hpre
    refine (contract (w.forCall tape i) i.args ds gs before ⟨_, hval⟩ (DataW.Whole.of_heap (w' := w.forCall tape i) (by rfl) hw) (hz.weights hw) (hX _ _ (by rfl) hx) hsh).mono ?_
    rintro e W' ⟨v, rfl, hp⟩
    exact ChangeSpec.post_blind hp
end Go.Proofs.YtipccndoffcfiaaDoor.Script
