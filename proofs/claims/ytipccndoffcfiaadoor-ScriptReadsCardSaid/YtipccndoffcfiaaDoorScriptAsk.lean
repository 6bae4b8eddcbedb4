/- script.reader's ask, as it is called. -/
import Derived.Test.YtipccndoffcfiaaDoorScriptEvent
import Derived.Test.YtipccndoffcfiaaDoorScriptHexL
namespace Go.Proofs.YtipccndoffcfiaaDoor.Script
open Go.RowKit Go.Proofs.YtipccndoffcfiaaDoor.PRef Go.Proofs.YtipccndoffcfiaaDoorW.PrintWords Go.Proofs.YtipccndoffcfiaaDoorW.PrintLast
attribute [local go_sem] Oper.semAt_some
set_option linter.unusedVariables false
set_option linter.unusedSimpArgs false
/-- What a word that asks says. -/
def askL : List ByteArray → Option S47
  | [x] => (bytesP x).map fun b => ⟨1, 0, b⟩
  | _ => none
theorem bytes_calls (s : ByteArray) (hs : s.size ≤ 1000000) (w : World) : Calls Tryd.prog 11 #[.string s] w fun e w' => e = .returned (.tuple #[.string ((bytesP s).getD ⟨#[]⟩), .bool (bytesP s).isSome]) ∧ Below w.heap.size w w' := by
  obtain ⟨k, m, hk⟩ := prog_bytes s hs
  exact script_Bytes.calls (m + k) s _ _ w (hk m (Nat.le_refl m))
/-- What a line leaves behind. -/
def GotPost (r : Option S47) (rb : Nat) (cs : List Int) (es : List S47) (w : World) (e : Ending) (w' : World) : Prop :=
  ∃ (esv' : Value) (es' : List S47), e = .returned (.bool r.isSome) ∧ Rdr w' rb cs esv' es' ∧ Below rb w w' ∧ ∀ ev, r = some ev → es' = es ++ [ev]
theorem askL_one (x : ByteArray) : askL [x] = (bytesP x).map fun b => ⟨1, 0, b⟩ := rfl
theorem ask_other {l : List ByteArray} (h : ¬ l.length = 1) : askL l = none := by
  match l with
  | [] => rfl
  | [x] => exact absurd rfl h
  | x :: y :: r => rfl
theorem got_done {r : Option S47} {rb : Nat} {cs : List Int} {es : List S47} {w w1 w3 : World} {esv esv' v' : Value} {bo : Bool} {ev0 : S47} (h1 : Hid (Rdr w1 rb cs esv es)) (ho : Hid (Kd.R k47 47 w3 (rb + 1) (fun _ => True) esv' (es ++ [ev0]))) (hb : Hid (Below (rb + 1) w1 w3)) (ht : Hid (Below w.heap.size w w1)) (hlt : rb < w.heap.size)
    (hv : v' = esv') (hbo : r.isSome = bo) (hev : ∀ ev, r = some ev → ev = ev0) : GotPost r rb cs es w (.returned (.bool bo)) (w3.setCell ⟨rb, 5, none⟩ v') := by
  subst hv
  have hs := ht.out.size
  have hblk : Blk w3 rb 53 (cs.map (Value.int .i64) ++ [esv]) := (hb.out.block rb (by omega)).trans h1.out.blk
  refine ⟨v', _, by rw [hbo], Rdr.push hblk h1.out.len ho.out, ?_, fun ev he => by rw [hev ev he]⟩
  have b2 : Below rb w w3 := (ht.out.mono (by omega)).trans (hb.out.mono (by omega))
  exact b2.setCell (Nat.le_refl _) _
theorem rdr_cell {W : World} {rb : Nat} {cs : List Int} {esv : Value} {es : List S47} (h : Rdr W rb cs esv es) : W.cell? ⟨rb, 5, none⟩ = some esv := by
  have k5 := h.blk.cell 5 (by simp; have := h.len; omega)
  have e5 : (cs.map (Value.int .i64) ++ [esv])[5]'(by simp; have := h.len; omega) = esv := by
    rw [List.getElem_append_right (by simp; have := h.len; omega)]
    simp
  rwa [e5] at k5
set_option maxHeartbeats 4000000 in
set_option maxRecDepth 100000 in
theorem ask_calls (A : Option Addr) (c : Nat) (l : List ByteArray) (rb : Nat) (cs : List Int) (esv : Value) (es : List S47) (w : World) (hl : TX w A c l) (hz : ∀ x ∈ l, x.size ≤ 1000000) (hn : l.length ≤ 1000000)
    (hr : Rdr w rb cs esv es) (hes : es.length ≤ 1000000) :
    Calls Tryd.prog 41 #[.pointer (some ⟨rb, 0, none⟩), .slice A l.length c] w (GotPost (askL l) rb cs es w) := by
  by_cases h1 : l.length = 1
  · obtain ⟨x, rfl⟩ : ∃ x, l = [x] := List.length_eq_one_iff.1 h1
    obtain ⟨ad, rfl, had, hc⟩ := hl.at_ 0 (by simp)
    have hx := hz x (by simp)
    have e0 : ad.add 0 = ad := by cases ad; rename_i b o f; cases f <;> rfl
    rw [e0, List.getElem_cons_zero] at hc
    show Calls Tryd.prog 41 #[.pointer (some ⟨rb, 0, none⟩), .slice (some ad) 1 c] w _
    have HR := Lib.hid hr
    have hlt := hr.blk.lt
    clear hr hl hz
    go_enter Tryd.func41, Tryd.ntmps41
    have HA : Hid (∀ ev, askL [x] = some ev → ev = ⟨1, 0, (bytesP x).getD ⟨#[]⟩⟩) := Lib.hid (fun ev h => by
      rw [askL_one] at h
      cases hb : bytesP x with
      | none => rw [hb] at h; cases h
      | some b => rw [hb] at h; cases h; rfl)
    have HB : Hid ((askL [x]).isSome = (bytesP x).isSome) := Lib.hid (by rw [askL_one]; cases bytesP x <;> rfl)
    generalize askL [x] = ra at HA HB ⊢
    go_wp2_with (first
      | (go_at_call 11; refine (bytes_calls x hx _).mono ?_; rintro e w1 ⟨rfl, hb1⟩; have HB1 := Lib.hid hb1; clear hb1; have HR1 := Lib.hid (HR.out.below HB1.out); have k5 := rdr_cell HR1.out; have kf := HR1.out.blk.free 5; have hlt1 := HR1.out.blk.lt; clear hc; generalize bytesP x = rx at HA HB ⊢)
      | ((with_reducible refine gate_builtin (b := .append) (xs := #[.tmp 21, .tmp 24]) rfl ?_); at_builtin; refine Kd.R_append k47 (w0 := w1) (rb + 1) rfl (.tmp 21) (.tmp 24) 29 47 (.agg #[.int .i64 0, .int .i64 0, .string ⟨#[]⟩]) 32 rfl Tryd.underlying29 infoEv rfl (by decide) (by omega) esv es ⟨1, 0, rx.getD ⟨#[]⟩⟩ [.int .i64 1, .int .i64 0, .string (rx.getD ⟨#[]⟩)] (fun _ => True) (fun _ => False) rfl rfl (k47_mkM _ _ _ ⟨1, 0, rx.getD ⟨#[]⟩⟩) (fun _ h => h.elim) (fun _ _ => trivial) HR1.out.row ((Below.refl _ _)) hlt1 (by omega) ?_
         intro esv' w3 ho hb3 hg hat
         obtain ⟨A9, c9, e9⟩ := Kd.R_slice ho
         subst e9
         have HO := Lib.hid ho; have HB3 := Lib.hid hb3; clear ho hb3 hg hat
         have k53 := (HB3.out.cell (by simp)).trans k5
         have kf3 : w3.frozen? ⟨rb, 5, none⟩ = false := by rw [HB3.out.frozen (by simp)]; exact kf))
    go_ret
    exact got_done HR1 HO HB3 HB1 hlt (by first | rfl | simp) HB.out HA.out
  · rw [ask_other h1]
    have d1 : decide (¬ ((l.length : Int) = 1)) = true := decide_eq_true (by omega)
    go_enter Tryd.func41, Tryd.ntmps41
    go_wp2_with fail
    go_ret
    exact ⟨esv, es, rfl, hr, Below.refl _ _, fun ev h => by cases h⟩
end Go.Proofs.YtipccndoffcfiaaDoor.Script
