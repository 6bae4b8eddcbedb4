/- script.reader's line, as it is called. -/
import Derived.Test.YtipccndoffcfiaaDoorScriptAsk
import Derived.Lib.SplitLaws
namespace Go.Proofs.YtipccndoffcfiaaDoor.Script
open Go.RowKit Go.Proofs.YtipccndoffcfiaaDoor.PRef Go.Proofs.YtipccndoffcfiaaDoorW.PrintWords Go.Proofs.YtipccndoffcfiaaDoorW.PrintLast
attribute [local go_sem] Oper.semAt_some
set_option linter.unusedVariables false
set_option linter.unusedSimpArgs false
def spc : ByteArray := ⟨#[32]⟩
/-- A line's words. -/
def words (s : ByteArray) : List ByteArray := Lib.splitB spc 0 (Lib.countB s spc) s
theorem words_len (s : ByteArray) : (words s).length = Lib.countB s spc + 1 := Lib.splitB_all spc (by decide) 0 _ s rfl
theorem splitB_size (sep : ByteArray) : ∀ (k : Nat) (s : ByteArray), ∀ x ∈ Lib.splitB sep 0 k s, x.size ≤ s.size
  | 0, s, x, h => by
    rw [Lib.splitB_zero, List.mem_singleton] at h
    rw [h]
    exact Nat.le_refl _
  | k + 1, s, x, h => by
    rw [Lib.splitB] at h
    split at h
    · rw [List.mem_singleton] at h
      rw [h]
      exact Nat.le_refl _
    · rcases List.mem_cons.1 h with rfl | h
      · rw [ByteArray.size_extract]
        omega
      · have := splitB_size sep k _ x h
        rw [ByteArray.size_extract] at this
        omega
theorem words_size (s : ByteArray) : ∀ x ∈ words s, x.size ≤ s.size := splitB_size spc _ s
theorem tx_alloc (w : World) (l : List ByteArray) (h : l.length ≤ 1000000) : TX (w.alloc (.cells (l.map Value.string).toArray 9)) (some ⟨w.heap.size, 0, none⟩) l.length l := by
  refine ⟨Kd.C_of_reads (d := ByteArray.empty) ⟨rfl, by omega, fun _ => ⟨_, rfl, fun j hj => ?_⟩⟩, Nat.le_refl _⟩
  have := (ptrs_alloc w 0 9 (l.map Value.string)).cell j (by simpa using hj)
  have e : ((⟨w.heap.size, 0, none⟩ : Addr).add j) = ⟨w.heap.size, j, none⟩ := by unfold Addr.add; simp only [Nat.zero_add]; split <;> first | rfl | simp_all
  rw [e, this]
  simp [List.getD_eq_getElem?_getD, hj]
theorem split_calls (s : ByteArray) (hs : s.size ≤ 1000000) (hw : (words s).length ≤ 1000000) (w : World) (he : Env w) : Calls Tryd.prog 38 #[.string s, .string ⟨#[32]⟩] w fun e w' =>
    ∃ A : Option Addr, e = .returned (.slice A (words s).length (words s).length) ∧ TX w' A (words s).length (words s) ∧ Below w.heap.size w w' ∧ ∀ ad, A = some ad → w.heap.size ≤ ad.block := by
  obtain ⟨m, hm⟩ := he.len
  refine (Tryd.strings_Split s spc m w (by omega) hm (by decide)).mono ?_
  rintro e w' ⟨rfl, rfl⟩
  refine ⟨_, by rw [words_len], tx_alloc w (words s) hw, below_push w _, fun ad h => by cases h; exact Nat.le_refl _⟩
theorem tx_tail {W : World} {A : Option Addr} {c : Nat} {h : ByteArray} {t : List ByteArray} (hx : TX W A c (h :: t)) :
    ∃ A' : Option Addr, (∀ w : World, (Instr.slice 58 (.slice A (t.length + 1) c) (some (.int .i64 1)) none none).run Tryd.prog w = .ok (.slice A' t.length (c - 1)) w) ∧ TX W A' (c - 1) t ∧ ∀ ad, A' = some ad → ∃ a0, A = some a0 ∧ ad.block = a0.block := by
  obtain ⟨i, hi, hz⟩ := Option.map_eq_some_iff.1 info9
  simp only [Prod.mk.injEq] at hz
  have hsz := hz.2.1
  have hc : t.length + 1 ≤ c := hx.2
  refine ⟨if c = 1 then A else A.map (·.add 1), fun w => ?_, ⟨?_, by omega⟩, fun ad e => ?_⟩
  · have hel : Tryd.prog.elem 58 = 9 := by simp [Program.elem, Tryd.underlying58]
    have hu : Tryd.prog.underlying 58 = some (.slice (Tryd.prog.elem 58)) := by rw [hel]; exact Tryd.underlying58
    rw [run_slice_l w 58 A (t.length + 1) c hu .i64 1 (by omega) (by omega), hel]
    simp [sizeOf, typeInfo, hi, hsz, sliced, Result.andThen]
  · have := Kd.C_of_reads (h1 := fun _ => rfl) ((Kd.reads_of_C (d := ByteArray.empty) hx.1).drop_ 1 (by simp) hc)
    exact this
  · split at e
    · exact ⟨ad, e, rfl⟩
    · obtain ⟨a0, h0, h1⟩ := Option.map_eq_some_iff.1 e
      refine ⟨a0, h0, ?_⟩
      rw [← h1]
      unfold Addr.add
      split <;> rfl
/-- What a line says: the reader's numbers, its events. -/
def wordsP (cs : List Int) (es : List S47) : List ByteArray → Option (List Int × List S47)
  | [] => none
  | h :: t =>
    if h = ⟨#[115, 101, 116]⟩ then (if t.length = 5 then t.mapM numB else none).map fun ns => (ns.map (fun (n : Nat) => (n : Int)), es)
    else if h = ⟨#[101, 118]⟩ then (evL t).map fun ev => (cs, es ++ [ev])
    else if h = ⟨#[97, 115, 107]⟩ then (askL t).map fun ev => (cs, es ++ [ev])
    else none
theorem wordsP_cons (cs : List Int) (es : List S47) (h : ByteArray) (t : List ByteArray) : wordsP cs es (h :: t) = if h = ⟨#[115, 101, 116]⟩ then (if t.length = 5 then t.mapM numB else none).map fun ns => (ns.map (fun (n : Nat) => (n : Int)), es)
    else if h = ⟨#[101, 118]⟩ then (evL t).map fun ev => (cs, es ++ [ev])
    else if h = ⟨#[97, 115, 107]⟩ then (askL t).map fun ev => (cs, es ++ [ev])
    else none := rfl
def LinePost (r : Option (List Int × List S47)) (rb : Nat) (w : World) (e : Ending) (w' : World) : Prop :=
  e = .returned (.bool r.isSome) ∧ Below rb w w' ∧ ∀ cs' es', r = some (cs', es') → ∃ esv', Rdr w' rb cs' esv' es'
theorem tl_lit {h : ByteArray} {a : Array UInt8} (c : ¬ h = ⟨a⟩) : (h.toList == a.toList) = false := by
  have := tl_beq c
  rwa [show (ByteArray.mk a).toList = a.toList from ByteArray.toList_eq ..] at this
theorem set_done {t : List ByteArray} {rb : Nat} {cs : List Int} {es : List S47} {esv : Value} {w w1 w2 : World} {r : Option (List Nat)} (hb : Below w.heap.size w w1) (hr : Rdr w1 rb cs esv es) (hlt : rb < w.heap.size) (h : r = (if t.length = 5 then t.mapM numB else none)) (ht : Turn rb w1 w2)
    (hs : ∀ ns, r = some ns → Blk w2 rb 53 (ns.map (fun (n : Nat) => Value.int .i64 (n : Int)) ++ [esv])) : LinePost (wordsP cs es (⟨#[115, 101, 116]⟩ :: t)) rb w (.returned (.bool r.isSome)) w2 := by
  have hsz := hb.size
  have e : wordsP cs es (⟨#[115, 101, 116]⟩ :: t) = r.map fun ns => (ns.map (fun (n : Nat) => (n : Int)), es) := by
    rw [wordsP_cons]
    rw [if_pos rfl, h]
  rw [e]
  refine ⟨by rw [Option.isSome_map], (hb.mono (by omega)).trans (ht.below (by omega) (by omega)), fun cs' es' h2 => ?_⟩
  obtain ⟨ns, h3, h4⟩ := Option.map_eq_some_iff.1 h2
  cases h4
  refine ⟨esv, ⟨?_, ?_, R_kept hr.row (fun k hk hk2 => ht.block k hk2 (by omega))⟩⟩
  · have := hs ns h3
    rw [List.map_map]
    exact this
  · rw [List.length_map]
    exact len5 h h3
theorem ev_line {t : List ByteArray} {rb : Nat} {cs : List Int} {es : List S47} {w w1 w2 : World} {e : Ending} (hb : Below w.heap.size w w1) (hlt : rb < w.heap.size) (h : EvPost t rb cs es w1 e w2) : LinePost (wordsP cs es (⟨#[101, 118]⟩ :: t)) rb w e w2 := by
  have hsz := hb.size
  obtain ⟨v, es', rfl, hr, hb2, he⟩ := h
  have e : wordsP cs es (⟨#[101, 118]⟩ :: t) = (evL t).map fun ev => (cs, es ++ [ev]) := by
    rw [wordsP_cons]
    rw [if_neg (by decide), if_pos rfl]
  rw [e]
  refine ⟨by rw [Option.isSome_map], (hb.mono (by omega)).trans hb2, fun cs' es2 h2 => ?_⟩
  obtain ⟨ev, h3, h4⟩ := Option.map_eq_some_iff.1 h2
  cases h4
  rw [← he ev h3]
  exact ⟨v, hr⟩
theorem ask_line {t : List ByteArray} {rb : Nat} {cs : List Int} {es : List S47} {w w1 w2 : World} {e : Ending} (hb : Below w.heap.size w w1) (hlt : rb < w.heap.size) (h : GotPost (askL t) rb cs es w1 e w2) : LinePost (wordsP cs es (⟨#[97, 115, 107]⟩ :: t)) rb w e w2 := by
  have hsz := hb.size
  obtain ⟨v, es', rfl, hr, hb2, he⟩ := h
  have e : wordsP cs es (⟨#[97, 115, 107]⟩ :: t) = (askL t).map fun ev => (cs, es ++ [ev]) := by
    rw [wordsP_cons]
    rw [if_neg (by decide), if_neg (by decide), if_pos rfl]
  rw [e]
  refine ⟨by rw [Option.isSome_map], (hb.mono (by omega)).trans hb2, fun cs' es2 h2 => ?_⟩
  obtain ⟨ev, h3, h4⟩ := Option.map_eq_some_iff.1 h2
  cases h4
  rw [← he ev h3]
  exact ⟨v, hr⟩
set_option maxHeartbeats 4000000 in
set_option maxRecDepth 100000 in
theorem line_calls (s : ByteArray) (rb : Nat) (cs : List Int) (esv : Value) (es : List S47) (w : World) (hz : s.size ≤ 1000000) (hw : (words s).length ≤ 1000000)
    (hr : Rdr w rb cs esv es) (h6 : 6 ≤ rb) (he : Env w) (hes : es.length ≤ 1000000) :
    Calls Tryd.prog 25 #[.pointer (some ⟨rb, 0, none⟩), .string s] w (LinePost (wordsP cs es (words s)) rb w) := by
  have HR := Lib.hid hr
  have HE := Lib.hid he
  have hlt := hr.blk.lt
  have HW := Lib.hid (words_size s)
  have hwl := words_len s
  have hsp := split_calls s hz hw w he
  generalize words s = l at HW hwl hsp hw ⊢
  generalize Lib.countB s spc = cn at hwl
  match l, hwl with
  | h :: t, hwl =>
  clear hr he
  have HZ : Hid (∀ x ∈ t, x.size ≤ 1000000) := Lib.hid (fun x hx => Nat.le_trans (HW.out x (List.mem_cons_of_mem _ hx)) hz)
  have hn : t.length ≤ 1000000 := by simp at hw; omega
  clear HW hwl hw
  simp only [List.length_cons] at hsp
  by_cases c1 : h = ⟨#[115, 101, 116]⟩
  · subst c1
    go_enter Tryd.func25, Tryd.ntmps25
    go_wp2_with (first
      | (go_at_call 38; refine hsp.mono ?_; rintro e w1 ⟨A, rfl, hx, hb, hbl⟩; obtain ⟨A', hsl, htl, hab⟩ := tx_tail hx; obtain ⟨ad, rfl, had, hc⟩ := hx.at_ 0 (by simp); have e0 : ad.add 0 = ad := (by cases ad; rename_i b o f; cases f <;> rfl); rw [e0, List.getElem_cons_zero] at hc; have HTL := Lib.hid htl; have HB := Lib.hid hb; have HNE : Hid (t ≠ [] → ∀ a, A' = some a → a.block ≠ rb) := Lib.hid (fun _ a ha => by obtain ⟨a0, h0, h1⟩ := hab a ha; cases h0; have := hbl ad rfl; omega); have HR1 := Lib.hid (HR.out.below hb); have HE1 := Lib.hid (HE.out.below hb); clear htl hb hx had hab hbl)
      | (go_at_call 39; refine (set_calls A' _ t rb cs esv w1 HTL.out HNE.out HZ.out hn HR1.out.blk HR1.out.len h6 HE1.out).mono ?_; rintro e w2 ⟨r, hr2, rfl, ht2, hs2⟩; have HS := Lib.hid (set_done HB.out HR1.out hlt hr2 ht2 hs2); clear hr2 ht2 hs2))
    go_ret
    exact HS.out

  have t1 : (h.toList == [115, 101, 116]) = false := tl_lit c1
  have t1d : ¬ h.toList = [115, 101, 116] := fun e => by rw [e] at t1; exact absurd t1 (by decide)
  by_cases c2 : h = ⟨#[101, 118]⟩
  · subst c2
    go_enter Tryd.func25, Tryd.ntmps25
    go_wp2_with (first
      | (go_at_call 38; refine hsp.mono ?_; rintro e w1 ⟨A, rfl, hx, hb, hbl⟩; obtain ⟨A', hsl, htl, hab⟩ := tx_tail hx; obtain ⟨ad, rfl, had, hc⟩ := hx.at_ 0 (by simp); have e0 : ad.add 0 = ad := (by cases ad; rename_i b o f; cases f <;> rfl); rw [e0, List.getElem_cons_zero] at hc; have HTL := Lib.hid htl; have HB := Lib.hid hb; have HNE : Hid (t ≠ [] → ∀ a, A' = some a → a.block ≠ rb) := Lib.hid (fun _ a ha => by obtain ⟨a0, h0, h1⟩ := hab a ha; cases h0; have := hbl ad rfl; omega); have HR1 := Lib.hid (HR.out.below hb); have HE1 := Lib.hid (HE.out.below hb); clear htl hb hx had hab hbl)
      | (go_at_call 40; refine (event_calls A' _ t rb cs esv es w1 HTL.out HZ.out hn HR1.out h6 HE1.out hes).mono ?_; rintro e w2 h2; have HS := Lib.hid (ev_line HB.out hlt h2); obtain ⟨_, _, rfl, -⟩ := h2))
    go_ret
    exact HS.out

  have t2 : (h.toList == [101, 118]) = false := tl_lit c2
  have t2d : ¬ h.toList = [101, 118] := fun e => by rw [e] at t2; exact absurd t2 (by decide)
  by_cases c3 : h = ⟨#[97, 115, 107]⟩
  · subst c3
    go_enter Tryd.func25, Tryd.ntmps25
    go_wp2_with (first
      | (go_at_call 38; refine hsp.mono ?_; rintro e w1 ⟨A, rfl, hx, hb, hbl⟩; obtain ⟨A', hsl, htl, hab⟩ := tx_tail hx; obtain ⟨ad, rfl, had, hc⟩ := hx.at_ 0 (by simp); have e0 : ad.add 0 = ad := (by cases ad; rename_i b o f; cases f <;> rfl); rw [e0, List.getElem_cons_zero] at hc; have HTL := Lib.hid htl; have HB := Lib.hid hb; have HNE : Hid (t ≠ [] → ∀ a, A' = some a → a.block ≠ rb) := Lib.hid (fun _ a ha => by obtain ⟨a0, h0, h1⟩ := hab a ha; cases h0; have := hbl ad rfl; omega); have HR1 := Lib.hid (HR.out.below hb); have HE1 := Lib.hid (HE.out.below hb); clear htl hb hx had hab hbl)
      | (go_at_call 41; refine (ask_calls A' _ t rb cs esv es w1 HTL.out HZ.out hn HR1.out hes).mono ?_; rintro e w2 h2; have HS := Lib.hid (ask_line HB.out hlt h2); obtain ⟨_, _, rfl, -⟩ := h2))
    go_ret
    exact HS.out

  · have t3 : (h.toList == [97, 115, 107]) = false := tl_lit c3
    have t3d : ¬ h.toList = [97, 115, 107] := fun e => by rw [e] at t3; exact absurd t3 (by decide)
    have hno : wordsP cs es (h :: t) = none := by rw [wordsP_cons]; rw [if_neg c1, if_neg c2, if_neg c3]
    rw [hno]
    go_enter Tryd.func25, Tryd.ntmps25
    go_wp2_with (go_at_call 38; refine hsp.mono ?_; rintro e w1 ⟨A, rfl, hx, hb, hbl⟩; obtain ⟨A', hsl, htl, hab⟩ := tx_tail hx; obtain ⟨ad, rfl, had, hc⟩ := hx.at_ 0 (by simp); have e0 : ad.add 0 = ad := (by cases ad; rename_i b o f; cases f <;> rfl); rw [e0, List.getElem_cons_zero] at hc; have HTL := Lib.hid htl; have HB := Lib.hid hb; have HNE : Hid (t ≠ [] → ∀ a, A' = some a → a.block ≠ rb) := Lib.hid (fun _ a ha => by obtain ⟨a0, h0, h1⟩ := hab a ha; cases h0; have := hbl ad rfl; omega); have HR1 := Lib.hid (HR.out.below hb); have HE1 := Lib.hid (HE.out.below hb); clear htl hb hx had hab hbl)
    go_ret
    exact ⟨rfl, HB.out.mono (by omega), fun _ _ h => by cases h⟩
end Go.Proofs.YtipccndoffcfiaaDoor.Script
