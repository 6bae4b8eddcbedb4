/- script.reader's set and event, as they are called. -/
import Derived.Test.YtipccndoffcfiaaDoorScriptNums
namespace Go.Proofs.YtipccndoffcfiaaDoor.Script
open Go.RowKit Go.Proofs.YtipccndoffcfiaaDoor.PRef Go.Proofs.YtipccndoffcfiaaDoorW.PrintWords
attribute [local go_sem] Oper.semAt_some
set_option linter.unusedVariables false
set_option linter.unusedSimpArgs false
theorem ptrs_alloc (w : World) (b : Nat) (t : Nat) (cs : List Value) : Blk (w.alloc (.cells cs.toArray t)) w.heap.size t cs := by
  show (w.heap.push _)[w.heap.size]? = _
  simp
theorem below_push (w : World) (o : Obj) : Below w.heap.size w (w.alloc o) := ⟨rfl, rfl, rfl, by simp, fun k hk => Below.heap_alloc w o k hk⟩
theorem drewB (w : World) : Below w.heap.size w w.drew := ⟨rfl, rfl, rfl, Nat.le_refl _, fun _ _ => rfl⟩
theorem pushed (w : World) (o : Obj) : Below w.heap.size w (w.alloc o).drew := (below_push w o).trans ((drewB _).mono (by simp))
theorem upd_five (cs : List Int) (esv : Value) (ns : List Nat) (hc : cs.length = 5) (hn : ns.length = 5) : upd (cs.map (Value.int .i64) ++ [esv]) ns = ns.map (fun (n : Nat) => Value.int .i64 (n : Int)) ++ [esv] := by
  unfold upd
  rw [List.drop_append_of_le_length (by simp; omega), List.drop_eq_nil_of_le (by simp; omega)]
  rfl
theorem len5 {l : List ByteArray} {r : Option (List Nat)} {ns : List Nat} {m : Nat} (hr : r = (if l.length = m then l.mapM numB else none)) (h : r = some ns) : ns.length = m := by
  rw [hr] at h
  split at h
  · rename_i e
    rw [mapM_len _ _ h, e]
  · cases h
def SetPost (l : List ByteArray) (rb : Nat) (esv : Value) (w : World) (e : Ending) (w' : World) : Prop :=
  ∃ r : Option (List Nat), r = (if l.length = 5 then l.mapM numB else none) ∧ e = .returned (.bool r.isSome) ∧ Turn rb w w' ∧ ∀ ns, r = some ns → Blk w' rb 53 (ns.map (fun (n : Nat) => Value.int .i64 (n : Int)) ++ [esv])
set_option maxHeartbeats 4000000 in
set_option maxRecDepth 100000 in
theorem set_calls (A : Option Addr) (c : Nat) (l : List ByteArray) (rb : Nat) (cs : List Int) (esv : Value) (w : World) (hl : TX w A c l) (hne : l ≠ [] → ∀ ad, A = some ad → ad.block ≠ rb) (hz : ∀ x ∈ l, x.size ≤ 1000000) (hn : l.length ≤ 1000000)
    (hb : Blk w rb 53 (cs.map (Value.int .i64) ++ [esv])) (hc5 : cs.length = 5) (h6 : 6 ≤ rb) (he : Env w) :
    Calls Tryd.prog 39 #[.pointer (some ⟨rb, 0, none⟩), .slice A l.length c] w (SetPost l rb esv w) := by
  have HL := Lib.hid hl
  have HBk := Lib.hid hb
  have HE := Lib.hid he
  have HZ := Lib.hid hz
  have HNE := Lib.hid hne
  have HLT := Lib.hid hb.lt
  clear hl hb he hz hne
  go_enter Tryd.func39, Tryd.ntmps39
  go_wp2_with fail
  go_region_held3 (fun _ => True) (exact trivial) (first
    | (go_at_call 53; refine (numbers_calls A c l w.heap.size 5 rb 53 95 (cs.map (Value.int .i64) ++ [esv]) _ (HL.out.below (pushed w _)) HNE.out HZ.out hn (ptrs_alloc w rb 95 (ptrs rb 5)) (by have := HLT.out; omega) (HBk.out.below (pushed w _)) (by simp; omega) h6 (HE.out.below (pushed w _)) (by omega)).mono ?_; rintro e w2 ⟨r, hr, rfl, ht, hs, -⟩; have HR := Lib.hid hr; have HT := Lib.hid ((Turn.of_below (pushed w _)).trans ht); have HS := Lib.hid hs; clear hr ht hs))
  go_wp2_with fail
  go_ret
  exact ⟨r, HR.out, rfl, HT.out, fun ns h => by have := HS.out ns h; rwa [upd_five cs esv ns hc5 (len5 HR.out h)] at this⟩
end Go.Proofs.YtipccndoffcfiaaDoor.Script
