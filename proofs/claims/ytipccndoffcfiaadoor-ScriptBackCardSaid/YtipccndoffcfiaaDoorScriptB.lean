/- Bytes' digits of base 16, plainly; what script.Bytes and the document's Bytes come to. -/
import Derived.Test.YtipccndoffcfiaaDoorScriptA
import Derived.Test.YtipccndoffcfiaaDoorRounds
import Derived.Test.YtipccndoffcfiaaDoorPRefx2
import Derived.KernelRfl
import Derived.Lib.SplitLaws
section
namespace Go.Proofs.YtipccndoffcfiaaDoor.Script
open Go.RowKit Go.IntWalk Go.Proofs.YtipccndoffcfiaaDoor.PRef Go.Proofs.YtipccndoffcfiaaDoorW.PrintWords Go.Proofs.YtipccndoffcfiaaDoorW.PrintLast Go.Proofs.YtipccndoffcfiaaDoorW.PrintMore Go.Proofs.YtipccndoffcfiaaDoor.Rounds
set_option linter.unusedVariables false
def digL : List UInt8 := [48, 49, 50, 51, 52, 53, 54, 55, 56, 57, 97, 98, 99, 100, 101, 102]
def digB : ByteArray := ⟨#[48, 49, 50, 51, 52, 53, 54, 55, 56, 57, 97, 98, 99, 100, 101, 102]⟩
/-- A digit's value. -/
def hexv (c : UInt8) : Option Nat := if 48 ≤ c.toNat ∧ c.toNat ≤ 57 then some (c.toNat - 48) else if 97 ≤ c.toNat ∧ c.toNat ≤ 102 then some (c.toNat - 87) else none
def hexI (c : UInt8) : Int := match hexv c with | some v => (v : Int) | none => -1
theorem hexv_lt {c : UInt8} {v : Nat} (h : hexv c = some v) : v < 16 := by
  unfold hexv at h
  split at h
  · cases h; omega
  · split at h
    · cases h; omega
    · cases h
theorem byte_all (p : UInt8 → Bool) (h : ((List.range 256).all fun n => p (UInt8.ofNat n)) = true) (c : UInt8) : p c = true := by
  have := List.all_eq_true.1 h c.toNat (List.mem_range.2 c.toNat_lt)
  rwa [UInt8.ofNat_toNat] at this
theorem index_hex (c : UInt8) : Lib.indexByte digL c = hexI c :=
  of_decide_eq_true (byte_all (fun c => decide (Lib.indexByte digL c = hexI c)) (by kernel_rfl) c)
theorem bt_nat (s : ByteArray) (i : Nat) (h : i < s.data.toList.length) : bt s (i : Int) = ((s.data.toList[i]).toNat : Int) := by
  have hs : i < s.size := by simpa using h
  unfold bt
  rw [dif_pos (by simpa using hs)]
  rfl
theorem size_toList (s : ByteArray) : s.data.toList.length = s.size := by simp
/-- Two digits a byte. -/
def pairs : List UInt8 → Option (List UInt8)
  | [] => some []
  | [_] => none
  | a :: b :: r => match hexv a, hexv b with
    | some x, some y => (pairs r).map fun l => UInt8.ofNat (16 * x + y) :: l
    | _, _ => none
def bytesL (l : List UInt8) : Option (List UInt8) := if l = [45] then some [] else if l = [] ∨ l.length % 2 ≠ 0 then none else pairs l
/-- The bytes of digits. -/
def bytesP (s : ByteArray) : Option ByteArray := (bytesL s.data.toList).map fun l => ⟨l.toArray⟩
theorem strOf_toNat (l : List UInt8) : strOfNums (l.map fun b => (b.toNat : Int)) = ⟨l.toArray⟩ := by
  unfold strOfNums
  rw [List.map_map]
  congr 2
  conv => rhs; rw [← List.map_id l]
  refine List.map_congr_left fun b _ => ?_
  simp
def outOf (out : List Int) (r : Option (List UInt8)) : ByteArray × Bool := match r with | some l => (strOfNums (out ++ l.map fun b => (b.toNat : Int)), true) | none => (⟨#[]⟩, false)
theorem at_of {α : Type} {g : Nat → Option α} (hm : ∀ k, LeO (g k) (g (k + 1))) {n : Nat} {r : α} (h : g n = some r) : At g r := by
  refine At.of_late n (fun k hk => ?_)
  induction k with
  | zero => have : n = 0 := by omega
            subst this; exact h
  | succ k ih =>
    by_cases e : n = k + 1
    · subst e; exact h
    · exact hm k _ (ih (by omega))
theorem byte_val (x y : Nat) (hx : x < 16) (hy : y < 16) : (wrap64 (wrap64 (16 * (x : Int)) + (y : Int))) % 256 = ((UInt8.ofNat (16 * x + y)).toNat : Int) := by
  rw [UInt8.toNat_ofNat', wrap64_in (16 * (x : Int)) (by omega), wrap64_in _ (by omega)]
  omega
theorem ib_f (c : UInt8) : strings_IndexByte.f digB (c.toNat : Int) = some (hexI c) := by
  unfold strings_IndexByte.f
  have e : ((c.toNat : Int)).toNat.toUInt8 = c := by
    rw [Int.toNat_natCast]
    exact UInt8.ofNat_toNat
  rw [e]
  exact congrArg some (index_hex c)
theorem digit_at (c : UInt8) : At (fun k => cortegeref27_digit.f k (c.toNat : Int)) (hexI c) :=
  at_of (fun k => cortegeref27_digit.mono _ k) (n := 20) (of_decide_eq_true (byte_all (fun c => decide (cortegeref27_digit.f 20 (c.toNat : Int) = some (hexI c))) (by kernel_rfl) c))
theorem hexI_none {c : UInt8} (h : hexv c = none) : hexI c = -1 := by unfold hexI; rw [h]
theorem hexI_some {c : UInt8} {v : Nat} (h : hexv c = some v) : hexI c = (v : Int) := by unfold hexI; rw [h]
theorem prog_loop (s : ByteArray) (hs : s.size ≤ 1000000) : ∀ (d i : Nat) (out : List Int), i + 2 * d = s.size → out.length ≤ i → At (fun k => script_Bytes.l0 k s out (i : Int)) (outOf out (pairs (s.data.toList.drop i))) := by
  intro d
  induction d with
  | zero =>
    intro i out hi ho
    rw [List.drop_of_length_le (by rw [size_toList]; omega)]
    refine To.step fun k => ?_
    simp only [script_Bytes.l0]
    rw [if_neg (by omega)]
    simp [outOf, pairs]
  | succ d ih =>
    intro i out hi ho
    have h1 : i < s.data.toList.length := by rw [size_toList]; omega
    have h2 : i + 1 < s.data.toList.length := by rw [size_toList]; omega
    rw [List.drop_eq_getElem_cons h1, List.drop_eq_getElem_cons h2, pairs]
    have b1 := bt_nat s i h1
    have b2 := bt_nat s (i + 1) h2
    have w2 : wrap64 ((i : Int) + 2) = ((i + 2 : Nat) : Int) := by rw [wrap64_in _ (by omega)]; omega
    generalize s.data.toList[i] = p at b1 ⊢
    generalize s.data.toList[i + 1] = q at b2 ⊢
    refine To.step_trans (h := fun k => (strings_IndexByte.f (⟨#[48, 49, 50, 51, 52, 53, 54, 55, 56, 57, 97, 98, 99, 100, 101, 102]⟩ : ByteArray) (p.toNat : Int)).bind fun t1 => (strings_IndexByte.f (⟨#[48, 49, 50, 51, 52, 53, 54, 55, 56, 57, 97, 98, 99, 100, 101, 102]⟩ : ByteArray) (q.toNat : Int)).bind fun t2 => (if t1 < 0 then (some ((⟨#[]⟩ : ByteArray), false)) else (if t2 < 0 then (some ((⟨#[]⟩ : ByteArray), false)) else (if out.length < 140737488355328 then (script_Bytes.l0 k s (out ++ [(wrap64 ((wrap64 (16 * t1)) + t2)) % 256]) ((i + 2 : Nat) : Int)) else (none))))) (fun k => ?_) ?_
    · simp only [script_Bytes.l0]
      rw [if_pos (by omega), if_pos (by omega), b1, w1 (by omega), w2]
      refine congrArg _ (funext fun t => ?_)
      rw [if_pos (by omega), if_pos (by omega), b2]
    refine (To.eq fun k => ?_).trans (h := fun k => (if hexI p < 0 then (some ((⟨#[]⟩ : ByteArray), false)) else (if hexI q < 0 then (some ((⟨#[]⟩ : ByteArray), false)) else (if out.length < 140737488355328 then (script_Bytes.l0 k s (out ++ [(wrap64 ((wrap64 (16 * hexI p)) + hexI q)) % 256]) ((i + 2 : Nat) : Int)) else (none))))) ?_
    · rw [show (⟨#[48, 49, 50, 51, 52, 53, 54, 55, 56, 57, 97, 98, 99, 100, 101, 102]⟩ : ByteArray) = digB from rfl, ib_f, Option.bind_some, ib_f, Option.bind_some]
    cases hp : hexv p with
    | none =>
      refine To.eq fun k => ?_
      rw [hexI_none hp, if_pos (by omega)]
      rfl
    | some x =>
      cases hq : hexv q with
      | none =>
        refine To.eq fun k => ?_
        rw [hexI_some hp, hexI_none hq, if_neg (by omega), if_pos (by omega)]
        rfl
      | some y =>
        have hx := hexv_lt hp
        have hy := hexv_lt hq
        refine (To.eq fun k => ?_).trans (Eq.mp (congrArg (At _) ?_) (ih (i + 2) (out ++ [((UInt8.ofNat (16 * x + y)).toNat : Int)]) (by omega) (by simp; omega)))
        · rw [hexI_some hp, hexI_some hq, if_neg (by omega), if_neg (by omega), if_pos (by omega), byte_val x y hx hy]
        · show outOf _ (pairs (s.data.toList.drop (i + 2))) = outOf out ((pairs (s.data.toList.drop (i + 2))).map fun l => UInt8.ofNat (16 * x + y) :: l)
          cases pairs (s.data.toList.drop (i + 2)) <;> simp [outOf]
theorem prog_bytes (s : ByteArray) (hs : s.size ≤ 1000000) : At (fun k => script_Bytes.f k s) ((bytesP s).getD ⟨#[]⟩, (bytesP s).isSome) := by
  have e0 : s.toList = s.data.toList := ByteArray.toList_eq ..
  have hl := size_toList s
  by_cases h1 : s.data.toList = [45]
  · refine To.eq fun k => ?_
    unfold script_Bytes.f bytesP bytesL
    rw [e0, if_pos h1, if_pos h1]
    rfl
  by_cases h2 : s.data.toList = []
  · refine To.step fun k => ?_
    unfold script_Bytes.f bytesP bytesL
    rw [e0, if_neg h1, if_pos h2, if_neg h1, if_pos (Or.inl h2)]
    simp only [script_Bytes.j0]
    rfl
  by_cases h3 : s.data.toList.length % 2 ≠ 0
  · refine To.step fun k => ?_
    unfold script_Bytes.f bytesP bytesL
    rw [e0, if_neg h1, if_neg h2, if_neg h1, if_pos (Or.inr h3)]
    have h4 : (((s.size : Int) % 2) != 0) = true := by rw [bne_iff_ne]; omega
    rw [h4]
    simp only [script_Bytes.j0]
    rfl
  · have h4 : (((s.size : Int) % 2) != 0) = false := by rw [bne_eq_false_iff_eq]; omega
    have hb : bytesL s.data.toList = pairs s.data.toList := by unfold bytesL; rw [if_neg h1, if_neg (fun h => h.elim h2 h3)]
    have := prog_loop s hs (s.size / 2) 0 [] (by omega) (by simp)
    rw [List.drop_zero] at this
    refine To.step_trans (h := fun k => script_Bytes.l0 k s [] 0) (fun k => ?_) (Eq.mp (congrArg (At _) ?_) this)
    · unfold script_Bytes.f
      rw [e0, if_neg h1, if_neg h2, h4]
      simp only [script_Bytes.j0]
      rfl
    · unfold bytesP
      rw [hb]
      cases hp : pairs s.data.toList with
      | none => rfl
      | some l => simp only [outOf, Option.map_some, Option.getD_some, Option.isSome_some, List.nil_append, strOf_toNat]
theorem ref_loop (s : ByteArray) (hs : s.size ≤ 1000000) : ∀ (d i : Nat) (out : List Int), i + 2 * d = s.size → out.length ≤ i → At (fun k => cortegeref27_Bytes.l0 k s out (i : Int)) (outOf out (pairs (s.data.toList.drop i))) := by
  intro d
  induction d with
  | zero =>
    intro i out hi ho
    rw [List.drop_of_length_le (by rw [size_toList]; omega)]
    refine To.step fun k => ?_
    simp only [cortegeref27_Bytes.l0]
    rw [if_neg (by omega)]
    simp [outOf, pairs]
  | succ d ih =>
    intro i out hi ho
    have h1 : i < s.data.toList.length := by rw [size_toList]; omega
    have h2 : i + 1 < s.data.toList.length := by rw [size_toList]; omega
    rw [List.drop_eq_getElem_cons h1, List.drop_eq_getElem_cons h2, pairs]
    have b1 := bt_nat s i h1
    have b2 := bt_nat s (i + 1) h2
    have w2 : wrap64 ((i : Int) + 2) = ((i + 2 : Nat) : Int) := by rw [wrap64_in _ (by omega)]; omega
    generalize s.data.toList[i] = p at b1 ⊢
    generalize s.data.toList[i + 1] = q at b2 ⊢
    refine To.step_trans (h := fun k => (cortegeref27_digit.f k (p.toNat : Int)).bind fun t1 => (cortegeref27_digit.f k (q.toNat : Int)).bind fun t2 => (if t1 < 0 then (some ((⟨#[]⟩ : ByteArray), false)) else (if t2 < 0 then (some ((⟨#[]⟩ : ByteArray), false)) else (if out.length < 140737488355328 then (cortegeref27_Bytes.l0 k s (out ++ [(wrap64 ((wrap64 (16 * t1)) + t2)) % 256]) ((i + 2 : Nat) : Int)) else (none))))) (fun k => ?_) ?_
    · simp only [cortegeref27_Bytes.l0]
      rw [if_pos (by omega), if_pos (by omega), b1, w1 (by omega), w2]
      refine congrArg _ (funext fun t => ?_)
      rw [if_pos (by omega), if_pos (by omega), b2]
    refine (digit_at p).bind_at (F := fun k t1 => (cortegeref27_digit.f k (q.toNat : Int)).bind fun t2 => (if t1 < 0 then (some ((⟨#[]⟩ : ByteArray), false)) else (if t2 < 0 then (some ((⟨#[]⟩ : ByteArray), false)) else (if out.length < 140737488355328 then (cortegeref27_Bytes.l0 k s (out ++ [(wrap64 ((wrap64 (16 * t1)) + t2)) % 256]) ((i + 2 : Nat) : Int)) else (none))))) ?_
    refine (digit_at q).bind_at (F := fun k t2 => (if hexI p < 0 then (some ((⟨#[]⟩ : ByteArray), false)) else (if t2 < 0 then (some ((⟨#[]⟩ : ByteArray), false)) else (if out.length < 140737488355328 then (cortegeref27_Bytes.l0 k s (out ++ [(wrap64 ((wrap64 (16 * hexI p)) + t2)) % 256]) ((i + 2 : Nat) : Int)) else (none))))) ?_
    cases hp : hexv p with
    | none =>
      refine To.eq fun k => ?_
      rw [hexI_none hp, if_pos (by omega)]
      rfl
    | some x =>
      cases hq : hexv q with
      | none =>
        refine To.eq fun k => ?_
        rw [hexI_some hp, hexI_none hq, if_neg (by omega), if_pos (by omega)]
        rfl
      | some y =>
        have hx := hexv_lt hp
        have hy := hexv_lt hq
        refine (To.eq fun k => ?_).trans (Eq.mp (congrArg (At _) ?_) (ih (i + 2) (out ++ [((UInt8.ofNat (16 * x + y)).toNat : Int)]) (by omega) (by simp; omega)))
        · rw [hexI_some hp, hexI_some hq, if_neg (by omega), if_neg (by omega), if_pos (by omega), byte_val x y hx hy]
        · show outOf _ (pairs (s.data.toList.drop (i + 2))) = outOf out ((pairs (s.data.toList.drop (i + 2))).map fun l => UInt8.ofNat (16 * x + y) :: l)
          cases pairs (s.data.toList.drop (i + 2)) <;> simp [outOf]
theorem ref_bytes (s : ByteArray) (hs : s.size ≤ 1000000) : At (fun k => cortegeref27_Bytes.f k s) ((bytesP s).getD ⟨#[]⟩, (bytesP s).isSome) := by
  have e0 : s.toList = s.data.toList := ByteArray.toList_eq ..
  have hl := size_toList s
  by_cases h1 : s.data.toList = [45]
  · refine To.eq fun k => ?_
    unfold cortegeref27_Bytes.f bytesP bytesL
    rw [e0, if_pos h1, if_pos h1]
    rfl
  by_cases h2 : s.data.toList = []
  · refine To.step fun k => ?_
    unfold cortegeref27_Bytes.f bytesP bytesL
    rw [e0, if_neg h1, if_pos h2, if_neg h1, if_pos (Or.inl h2)]
    simp only [cortegeref27_Bytes.j0]
    rfl
  by_cases h3 : s.data.toList.length % 2 ≠ 0
  · refine To.step fun k => ?_
    unfold cortegeref27_Bytes.f bytesP bytesL
    rw [e0, if_neg h1, if_neg h2, if_neg h1, if_pos (Or.inr h3)]
    have h4 : (((s.size : Int) % 2) != 0) = true := by rw [bne_iff_ne]; omega
    rw [h4]
    simp only [cortegeref27_Bytes.j0]
    rfl
  · have h4 : (((s.size : Int) % 2) != 0) = false := by rw [bne_eq_false_iff_eq]; omega
    have hb : bytesL s.data.toList = pairs s.data.toList := by unfold bytesL; rw [if_neg h1, if_neg (fun h => h.elim h2 h3)]
    have := ref_loop s hs (s.size / 2) 0 [] (by omega) (by simp)
    rw [List.drop_zero] at this
    refine To.step_trans (h := fun k => cortegeref27_Bytes.l0 k s [] 0) (fun k => ?_) (Eq.mp (congrArg (At _) ?_) this)
    · unfold cortegeref27_Bytes.f
      rw [e0, if_neg h1, if_neg h2, h4]
      simp only [cortegeref27_Bytes.j0]
      rfl
    · unfold bytesP
      rw [hb]
      cases hp : pairs s.data.toList with
      | none => rfl
      | some l => simp only [outOf, Option.map_some, Option.getD_some, Option.isSome_some, List.nil_append, strOf_toNat]

end Go.Proofs.YtipccndoffcfiaaDoor.Script
end

section
namespace Go.Proofs.YtipccndoffcfiaaDoor.Script
open Go.RowKit Go.Proofs.YtipccndoffcfiaaDoor.PRef Go.Proofs.YtipccndoffcfiaaDoorW.PrintWords Go.Proofs.YtipccndoffcfiaaDoorW.PrintLast
attribute [local go_sem] Oper.semAt_some
set_option linter.unusedVariables false
set_option linter.unusedSimpArgs false
/-- What a word that asks says. -/
def askL : List ByteArray → Option S47
  | [x] => (bytesP x).map fun b => ⟨1, 0, b⟩
  | _ => none
theorem bytes_calls (s : ByteArray) (hs : s.size ≤ 1000000) (w : World) : Calls Tryd.prog 11 #[.string s] w fun e w' => e = .returned (.tuple #[.string ((bytesP s).getD ⟨#[]⟩), .bool (bytesP s).isSome]) ∧ Below w.heap.size w w' := by
  obtain ⟨k, m, hk⟩ := prog_bytes s hs
  exact script_Bytes.calls (m + k) s _ _ w (hk m (Nat.le_refl m))
/-- What a line leaves behind. -/
def GotPost (r : Option S47) (rb : Nat) (cs : List Int) (es : List S47) (w : World) (e : Ending) (w' : World) : Prop :=
  ∃ (esv' : Value) (es' : List S47), e = .returned (.bool r.isSome) ∧ Rdr w' rb cs esv' es' ∧ Below rb w w' ∧ ∀ ev, r = some ev → es' = es ++ [ev]
theorem askL_one (x : ByteArray) : askL [x] = (bytesP x).map fun b => ⟨1, 0, b⟩ := rfl
theorem ask_other {l : List ByteArray} (h : ¬ l.length = 1) : askL l = none := by
  match l with
  | [] => rfl
  | [x] => exact absurd rfl h
  | x :: y :: r => rfl
theorem got_done {r : Option S47} {rb : Nat} {cs : List Int} {es : List S47} {w w1 w3 : World} {esv esv' v' : Value} {bo : Bool} {ev0 : S47} (h1 : Hid (Rdr w1 rb cs esv es)) (ho : Hid (Kd.R k47 47 w3 (rb + 1) (fun _ => True) esv' (es ++ [ev0]))) (hb : Hid (Below (rb + 1) w1 w3)) (ht : Hid (Below w.heap.size w w1)) (hlt : rb < w.heap.size)
    (hv : v' = esv') (hbo : r.isSome = bo) (hev : ∀ ev, r = some ev → ev = ev0) : GotPost r rb cs es w (.returned (.bool bo)) (w3.setCell ⟨rb, 5, none⟩ v') := by
  subst hv
  have hs := ht.out.size
  have hblk : Blk w3 rb 53 (cs.map (Value.int .i64) ++ [esv]) := (hb.out.block rb (by omega)).trans h1.out.blk
  refine ⟨v', _, by rw [hbo], Rdr.push hblk h1.out.len ho.out, ?_, fun ev he => by rw [hev ev he]⟩
  have b2 : Below rb w w3 := (ht.out.mono (by omega)).trans (hb.out.mono (by omega))
  exact b2.setCell (Nat.le_refl _) _
theorem rdr_cell {W : World} {rb : Nat} {cs : List Int} {esv : Value} {es : List S47} (h : Rdr W rb cs esv es) : W.cell? ⟨rb, 5, none⟩ = some esv := by
  have k5 := h.blk.cell 5 (by simp; have := h.len; omega)
  have e5 : (cs.map (Value.int .i64) ++ [esv])[5]'(by simp; have := h.len; omega) = esv := by
    rw [List.getElem_append_right (by simp; have := h.len; omega)]
    simp
  rwa [e5] at k5
set_option maxHeartbeats 4000000 in
set_option maxRecDepth 100000 in
theorem ask_calls (A : Option Addr) (c : Nat) (l : List ByteArray) (rb : Nat) (cs : List Int) (esv : Value) (es : List S47) (w : World) (hl : TX w A c l) (hz : ∀ x ∈ l, x.size ≤ 1000000) (hn : l.length ≤ 1000000)
    (hr : Rdr w rb cs esv es) (hes : es.length ≤ 1000000) :
    Calls Tryd.prog 41 #[.pointer (some ⟨rb, 0, none⟩), .slice A l.length c] w (GotPost (askL l) rb cs es w) := by
  by_cases h1 : l.length = 1
  · obtain ⟨x, rfl⟩ : ∃ x, l = [x] := List.length_eq_one_iff.1 h1
    obtain ⟨ad, rfl, had, hc⟩ := hl.at_ 0 (by simp)
    have hx := hz x (by simp)
    have e0 : ad.add 0 = ad := by cases ad; rename_i b o f; cases f <;> rfl
    rw [e0, List.getElem_cons_zero] at hc
    show Calls Tryd.prog 41 #[.pointer (some ⟨rb, 0, none⟩), .slice (some ad) 1 c] w _
    have HR := Lib.hid hr
    have hlt := hr.blk.lt
    clear hr hl hz
    go_enter Tryd.func41, Tryd.ntmps41
    have HA : Hid (∀ ev, askL [x] = some ev → ev = ⟨1, 0, (bytesP x).getD ⟨#[]⟩⟩) := Lib.hid (fun ev h => by
      rw [askL_one] at h
      cases hb : bytesP x with
      | none => rw [hb] at h; cases h
      | some b => rw [hb] at h; cases h; rfl)
    have HB : Hid ((askL [x]).isSome = (bytesP x).isSome) := Lib.hid (by rw [askL_one]; cases bytesP x <;> rfl)
    generalize askL [x] = ra at HA HB ⊢
    go_wp2_with (first
      | (go_at_call 11; refine (bytes_calls x hx _).mono ?_; rintro e w1 ⟨rfl, hb1⟩; have HB1 := Lib.hid hb1; clear hb1; have HR1 := Lib.hid (HR.out.below HB1.out); have k5 := rdr_cell HR1.out; have kf := HR1.out.blk.free 5; have hlt1 := HR1.out.blk.lt; clear hc; generalize bytesP x = rx at HA HB ⊢)
      | ((with_reducible refine gate_builtin (b := .append) (xs := #[.tmp 21, .tmp 24]) rfl ?_); at_builtin; refine Kd.R_append k47 (w0 := w1) (rb + 1) rfl (.tmp 21) (.tmp 24) 29 47 (.agg #[.int .i64 0, .int .i64 0, .string ⟨#[]⟩]) 32 rfl Tryd.underlying29 infoEv rfl (by decide) (by omega) esv es ⟨1, 0, rx.getD ⟨#[]⟩⟩ [.int .i64 1, .int .i64 0, .string (rx.getD ⟨#[]⟩)] (fun _ => True) (fun _ => False) rfl rfl (k47_mkM _ _ _ ⟨1, 0, rx.getD ⟨#[]⟩⟩) (fun _ h => h.elim) (fun _ _ => trivial) HR1.out.row ((Below.refl _ _)) hlt1 (by omega) ?_
         intro esv' w3 ho hb3 hg hat
         obtain ⟨A9, c9, e9⟩ := Kd.R_slice ho
         subst e9
         have HO := Lib.hid ho; have HB3 := Lib.hid hb3; clear ho hb3 hg hat
         have k53 := (HB3.out.cell (by simp)).trans k5
         have kf3 : w3.frozen? ⟨rb, 5, none⟩ = false := by rw [HB3.out.frozen (by simp)]; exact kf))
    go_ret
    exact got_done HR1 HO HB3 HB1 hlt (by first | rfl | simp) HB.out HA.out
  · rw [ask_other h1]
    have d1 : decide (¬ ((l.length : Int) = 1)) = true := decide_eq_true (by omega)
    go_enter Tryd.func41, Tryd.ntmps41
    go_wp2_with fail
    go_ret
    exact ⟨esv, es, rfl, hr, Below.refl _ _, fun ev h => by cases h⟩
end Go.Proofs.YtipccndoffcfiaaDoor.Script
end

section
namespace Go.Proofs.YtipccndoffcfiaaDoor.Script
open Go.RowKit Go.Proofs.YtipccndoffcfiaaDoor.PRef Go.Proofs.YtipccndoffcfiaaDoorW.PrintWords Go.Proofs.YtipccndoffcfiaaDoorW.PrintLast
attribute [local go_sem] Oper.semAt_some
set_option linter.unusedVariables false
set_option linter.unusedSimpArgs false
def spc : ByteArray := ⟨#[32]⟩
/-- A line's words. -/
def words (s : ByteArray) : List ByteArray := Lib.splitB spc 0 (Lib.countB s spc) s
theorem words_len (s : ByteArray) : (words s).length = Lib.countB s spc + 1 := Lib.splitB_all spc (by decide) 0 _ s rfl
theorem splitB_size (sep : ByteArray) : ∀ (k : Nat) (s : ByteArray), ∀ x ∈ Lib.splitB sep 0 k s, x.size ≤ s.size
  | 0, s, x, h => by
    rw [Lib.splitB_zero, List.mem_singleton] at h
    rw [h]
    exact Nat.le_refl _
  | k + 1, s, x, h => by
    rw [Lib.splitB] at h
    split at h
    · rw [List.mem_singleton] at h
      rw [h]
      exact Nat.le_refl _
    · rcases List.mem_cons.1 h with rfl | h
      · rw [ByteArray.size_extract]
        omega
      · have := splitB_size sep k _ x h
        rw [ByteArray.size_extract] at this
        omega
theorem words_size (s : ByteArray) : ∀ x ∈ words s, x.size ≤ s.size := splitB_size spc _ s
theorem tx_alloc (w : World) (l : List ByteArray) (h : l.length ≤ 1000000) : TX (w.alloc (.cells (l.map Value.string).toArray 9)) (some ⟨w.heap.size, 0, none⟩) l.length l := by
  refine ⟨Kd.C_of_reads (d := ByteArray.empty) ⟨rfl, by omega, fun _ => ⟨_, rfl, fun j hj => ?_⟩⟩, Nat.le_refl _⟩
  have := (ptrs_alloc w 0 9 (l.map Value.string)).cell j (by simpa using hj)
  have e : ((⟨w.heap.size, 0, none⟩ : Addr).add j) = ⟨w.heap.size, j, none⟩ := by unfold Addr.add; simp only [Nat.zero_add]; split <;> first | rfl | simp_all
  rw [e, this]
  simp [List.getD_eq_getElem?_getD, hj]
theorem split_calls (s : ByteArray) (hs : s.size ≤ 1000000) (hw : (words s).length ≤ 1000000) (w : World) (he : Env w) : Calls Tryd.prog 38 #[.string s, .string ⟨#[32]⟩] w fun e w' =>
    ∃ A : Option Addr, e = .returned (.slice A (words s).length (words s).length) ∧ TX w' A (words s).length (words s) ∧ Below w.heap.size w w' ∧ ∀ ad, A = some ad → w.heap.size ≤ ad.block := by
  obtain ⟨m, hm⟩ := he.len
  refine (Tryd.strings_Split s spc m w (by omega) hm (by decide)).mono ?_
  rintro e w' ⟨rfl, rfl⟩
  refine ⟨_, by rw [words_len], tx_alloc w (words s) hw, below_push w _, fun ad h => by cases h; exact Nat.le_refl _⟩
theorem tx_tail {W : World} {A : Option Addr} {c : Nat} {h : ByteArray} {t : List ByteArray} (hx : TX W A c (h :: t)) :
    ∃ A' : Option Addr, (∀ w : World, (Instr.slice 58 (.slice A (t.length + 1) c) (some (.int .i64 1)) none none).run Tryd.prog w = .ok (.slice A' t.length (c - 1)) w) ∧ TX W A' (c - 1) t ∧ ∀ ad, A' = some ad → ∃ a0, A = some a0 ∧ ad.block = a0.block := by
  obtain ⟨i, hi, hz⟩ := Option.map_eq_some_iff.1 info9
  simp only [Prod.mk.injEq] at hz
  have hsz := hz.2.1
  have hc : t.length + 1 ≤ c := hx.2
  refine ⟨if c = 1 then A else A.map (·.add 1), fun w => ?_, ⟨?_, by omega⟩, fun ad e => ?_⟩
  · have hel : Tryd.prog.elem 58 = 9 := by simp [Program.elem, Tryd.underlying58]
    have hu : Tryd.prog.underlying 58 = some (.slice (Tryd.prog.elem 58)) := by rw [hel]; exact Tryd.underlying58
    rw [run_slice_l w 58 A (t.length + 1) c hu .i64 1 (by omega) (by omega), hel]
    simp [sizeOf, typeInfo, hi, hsz, sliced, Result.andThen]
  · have := Kd.C_of_reads (h1 := fun _ => rfl) ((Kd.reads_of_C (d := ByteArray.empty) hx.1).drop_ 1 (by simp) hc)
    exact this
  · split at e
    · exact ⟨ad, e, rfl⟩
    · obtain ⟨a0, h0, h1⟩ := Option.map_eq_some_iff.1 e
      refine ⟨a0, h0, ?_⟩
      rw [← h1]
      unfold Addr.add
      split <;> rfl
/-- What a line says: the reader's numbers, its events. -/
def wordsP (cs : List Int) (es : List S47) : List ByteArray → Option (List Int × List S47)
  | [] => none
  | h :: t =>
    if h = ⟨#[115, 101, 116]⟩ then (if t.length = 5 then t.mapM numB else none).map fun ns => (ns.map (fun (n : Nat) => (n : Int)), es)
    else if h = ⟨#[101, 118]⟩ then (evL t).map fun ev => (cs, es ++ [ev])
    else if h = ⟨#[97, 115, 107]⟩ then (askL t).map fun ev => (cs, es ++ [ev])
    else none
theorem wordsP_cons (cs : List Int) (es : List S47) (h : ByteArray) (t : List ByteArray) : wordsP cs es (h :: t) = if h = ⟨#[115, 101, 116]⟩ then (if t.length = 5 then t.mapM numB else none).map fun ns => (ns.map (fun (n : Nat) => (n : Int)), es)
    else if h = ⟨#[101, 118]⟩ then (evL t).map fun ev => (cs, es ++ [ev])
    else if h = ⟨#[97, 115, 107]⟩ then (askL t).map fun ev => (cs, es ++ [ev])
    else none := rfl
def LinePost (r : Option (List Int × List S47)) (rb : Nat) (w : World) (e : Ending) (w' : World) : Prop :=
  e = .returned (.bool r.isSome) ∧ Below rb w w' ∧ ∀ cs' es', r = some (cs', es') → ∃ esv', Rdr w' rb cs' esv' es'
theorem tl_lit {h : ByteArray} {a : Array UInt8} (c : ¬ h = ⟨a⟩) : (h.toList == a.toList) = false := by
  have := tl_beq c
  rwa [show (ByteArray.mk a).toList = a.toList from ByteArray.toList_eq ..] at this
theorem set_done {t : List ByteArray} {rb : Nat} {cs : List Int} {es : List S47} {esv : Value} {w w1 w2 : World} {r : Option (List Nat)} (hb : Below w.heap.size w w1) (hr : Rdr w1 rb cs esv es) (hlt : rb < w.heap.size) (h : r = (if t.length = 5 then t.mapM numB else none)) (ht : Turn rb w1 w2)
    (hs : ∀ ns, r = some ns → Blk w2 rb 53 (ns.map (fun (n : Nat) => Value.int .i64 (n : Int)) ++ [esv])) : LinePost (wordsP cs es (⟨#[115, 101, 116]⟩ :: t)) rb w (.returned (.bool r.isSome)) w2 := by
  have hsz := hb.size
  have e : wordsP cs es (⟨#[115, 101, 116]⟩ :: t) = r.map fun ns => (ns.map (fun (n : Nat) => (n : Int)), es) := by
    rw [wordsP_cons]
    rw [if_pos rfl, h]
  rw [e]
  refine ⟨by rw [Option.isSome_map], (hb.mono (by omega)).trans (ht.below (by omega) (by omega)), fun cs' es' h2 => ?_⟩
  obtain ⟨ns, h3, h4⟩ := Option.map_eq_some_iff.1 h2
  cases h4
  refine ⟨esv, ⟨?_, ?_, R_kept hr.row (fun k hk hk2 => ht.block k hk2 (by omega))⟩⟩
  · have := hs ns h3
    rw [List.map_map]
    exact this
  · rw [List.length_map]
    exact len5 h h3
theorem ev_line {t : List ByteArray} {rb : Nat} {cs : List Int} {es : List S47} {w w1 w2 : World} {e : Ending} (hb : Below w.heap.size w w1) (hlt : rb < w.heap.size) (h : EvPost t rb cs es w1 e w2) : LinePost (wordsP cs es (⟨#[101, 118]⟩ :: t)) rb w e w2 := by
  have hsz := hb.size
  obtain ⟨v, es', rfl, hr, hb2, he⟩ := h
  have e : wordsP cs es (⟨#[101, 118]⟩ :: t) = (evL t).map fun ev => (cs, es ++ [ev]) := by
    rw [wordsP_cons]
    rw [if_neg (by decide), if_pos rfl]
  rw [e]
  refine ⟨by rw [Option.isSome_map], (hb.mono (by omega)).trans hb2, fun cs' es2 h2 => ?_⟩
  obtain ⟨ev, h3, h4⟩ := Option.map_eq_some_iff.1 h2
  cases h4
  rw [← he ev h3]
  exact ⟨v, hr⟩
theorem ask_line {t : List ByteArray} {rb : Nat} {cs : List Int} {es : List S47} {w w1 w2 : World} {e : Ending} (hb : Below w.heap.size w w1) (hlt : rb < w.heap.size) (h : GotPost (askL t) rb cs es w1 e w2) : LinePost (wordsP cs es (⟨#[97, 115, 107]⟩ :: t)) rb w e w2 := by
  have hsz := hb.size
  obtain ⟨v, es', rfl, hr, hb2, he⟩ := h
  have e : wordsP cs es (⟨#[97, 115, 107]⟩ :: t) = (askL t).map fun ev => (cs, es ++ [ev]) := by
    rw [wordsP_cons]
    rw [if_neg (by decide), if_neg (by decide), if_pos rfl]
  rw [e]
  refine ⟨by rw [Option.isSome_map], (hb.mono (by omega)).trans hb2, fun cs' es2 h2 => ?_⟩
  obtain ⟨ev, h3, h4⟩ := Option.map_eq_some_iff.1 h2
  cases h4
  rw [← he ev h3]
  exact ⟨v, hr⟩
set_option maxHeartbeats 4000000 in
set_option maxRecDepth 100000 in
theorem line_calls (s : ByteArray) (rb : Nat) (cs : List Int) (esv : Value) (es : List S47) (w : World) (hz : s.size ≤ 1000000) (hw : (words s).length ≤ 1000000)
    (hr : Rdr w rb cs esv es) (h6 : 6 ≤ rb) (he : Env w) (hes : es.length ≤ 1000000) :
    Calls Tryd.prog 25 #[.pointer (some ⟨rb, 0, none⟩), .string s] w (LinePost (wordsP cs es (words s)) rb w) := by
  have HR := Lib.hid hr
  have HE := Lib.hid he
  have hlt := hr.blk.lt
  have HW := Lib.hid (words_size s)
  have hwl := words_len s
  have hsp := split_calls s hz hw w he
  generalize words s = l at HW hwl hsp hw ⊢
  generalize Lib.countB s spc = cn at hwl
  match l, hwl with
  | h :: t, hwl =>
  clear hr he
  have HZ : Hid (∀ x ∈ t, x.size ≤ 1000000) := Lib.hid (fun x hx => Nat.le_trans (HW.out x (List.mem_cons_of_mem _ hx)) hz)
  have hn : t.length ≤ 1000000 := by simp at hw; omega
  clear HW hwl hw
  simp only [List.length_cons] at hsp
  by_cases c1 : h = ⟨#[115, 101, 116]⟩
  · subst c1
    go_enter Tryd.func25, Tryd.ntmps25
    go_wp2_with (first
      | (go_at_call 38; refine hsp.mono ?_; rintro e w1 ⟨A, rfl, hx, hb, hbl⟩; obtain ⟨A', hsl, htl, hab⟩ := tx_tail hx; obtain ⟨ad, rfl, had, hc⟩ := hx.at_ 0 (by simp); have e0 : ad.add 0 = ad := (by cases ad; rename_i b o f; cases f <;> rfl); rw [e0, List.getElem_cons_zero] at hc; have HTL := Lib.hid htl; have HB := Lib.hid hb; have HNE : Hid (t ≠ [] → ∀ a, A' = some a → a.block ≠ rb) := Lib.hid (fun _ a ha => by obtain ⟨a0, h0, h1⟩ := hab a ha; cases h0; have := hbl ad rfl; omega); have HR1 := Lib.hid (HR.out.below hb); have HE1 := Lib.hid (HE.out.below hb); clear htl hb hx had hab hbl)
      | (go_at_call 39; refine (set_calls A' _ t rb cs esv w1 HTL.out HNE.out HZ.out hn HR1.out.blk HR1.out.len h6 HE1.out).mono ?_; rintro e w2 ⟨r, hr2, rfl, ht2, hs2⟩; have HS := Lib.hid (set_done HB.out HR1.out hlt hr2 ht2 hs2); clear hr2 ht2 hs2))
    go_ret
    exact HS.out

  have t1 : (h.toList == [115, 101, 116]) = false := tl_lit c1
  have t1d : ¬ h.toList = [115, 101, 116] := fun e => by rw [e] at t1; exact absurd t1 (by decide)
  by_cases c2 : h = ⟨#[101, 118]⟩
  · subst c2
    go_enter Tryd.func25, Tryd.ntmps25
    go_wp2_with (first
      | (go_at_call 38; refine hsp.mono ?_; rintro e w1 ⟨A, rfl, hx, hb, hbl⟩; obtain ⟨A', hsl, htl, hab⟩ := tx_tail hx; obtain ⟨ad, rfl, had, hc⟩ := hx.at_ 0 (by simp); have e0 : ad.add 0 = ad := (by cases ad; rename_i b o f; cases f <;> rfl); rw [e0, List.getElem_cons_zero] at hc; have HTL := Lib.hid htl; have HB := Lib.hid hb; have HNE : Hid (t ≠ [] → ∀ a, A' = some a → a.block ≠ rb) := Lib.hid (fun _ a ha => by obtain ⟨a0, h0, h1⟩ := hab a ha; cases h0; have := hbl ad rfl; omega); have HR1 := Lib.hid (HR.out.below hb); have HE1 := Lib.hid (HE.out.below hb); clear htl hb hx had hab hbl)
      | (go_at_call 40; refine (event_calls A' _ t rb cs esv es w1 HTL.out HZ.out hn HR1.out h6 HE1.out hes).mono ?_; rintro e w2 h2; have HS := Lib.hid (ev_line HB.out hlt h2); obtain ⟨_, _, rfl, -⟩ := h2))
    go_ret
    exact HS.out

  have t2 : (h.toList == [101, 118]) = false := tl_lit c2
  have t2d : ¬ h.toList = [101, 118] := fun e => by rw [e] at t2; exact absurd t2 (by decide)
  by_cases c3 : h = ⟨#[97, 115, 107]⟩
  · subst c3
    go_enter Tryd.func25, Tryd.ntmps25
    go_wp2_with (first
      | (go_at_call 38; refine hsp.mono ?_; rintro e w1 ⟨A, rfl, hx, hb, hbl⟩; obtain ⟨A', hsl, htl, hab⟩ := tx_tail hx; obtain ⟨ad, rfl, had, hc⟩ := hx.at_ 0 (by simp); have e0 : ad.add 0 = ad := (by cases ad; rename_i b o f; cases f <;> rfl); rw [e0, List.getElem_cons_zero] at hc; have HTL := Lib.hid htl; have HB := Lib.hid hb; have HNE : Hid (t ≠ [] → ∀ a, A' = some a → a.block ≠ rb) := Lib.hid (fun _ a ha => by obtain ⟨a0, h0, h1⟩ := hab a ha; cases h0; have := hbl ad rfl; omega); have HR1 := Lib.hid (HR.out.below hb); have HE1 := Lib.hid (HE.out.below hb); clear htl hb hx had hab hbl)
      | (go_at_call 41; refine (ask_calls A' _ t rb cs esv es w1 HTL.out HZ.out hn HR1.out hes).mono ?_; rintro e w2 h2; have HS := Lib.hid (ask_line HB.out hlt h2); obtain ⟨_, _, rfl, -⟩ := h2))
    go_ret
    exact HS.out

  · have t3 : (h.toList == [97, 115, 107]) = false := tl_lit c3
    have t3d : ¬ h.toList = [97, 115, 107] := fun e => by rw [e] at t3; exact absurd t3 (by decide)
    have hno : wordsP cs es (h :: t) = none := by rw [wordsP_cons]; rw [if_neg c1, if_neg c2, if_neg c3]
    rw [hno]
    go_enter Tryd.func25, Tryd.ntmps25
    go_wp2_with (go_at_call 38; refine hsp.mono ?_; rintro e w1 ⟨A, rfl, hx, hb, hbl⟩; obtain ⟨A', hsl, htl, hab⟩ := tx_tail hx; obtain ⟨ad, rfl, had, hc⟩ := hx.at_ 0 (by simp); have e0 : ad.add 0 = ad := (by cases ad; rename_i b o f; cases f <;> rfl); rw [e0, List.getElem_cons_zero] at hc; have HTL := Lib.hid htl; have HB := Lib.hid hb; have HNE : Hid (t ≠ [] → ∀ a, A' = some a → a.block ≠ rb) := Lib.hid (fun _ a ha => by obtain ⟨a0, h0, h1⟩ := hab a ha; cases h0; have := hbl ad rfl; omega); have HR1 := Lib.hid (HR.out.below hb); have HE1 := Lib.hid (HE.out.below hb); clear htl hb hx had hab hbl)
    go_ret
    exact ⟨rfl, HB.out.mono (by omega), fun _ _ h => by cases h⟩
end Go.Proofs.YtipccndoffcfiaaDoor.Script
end

section
namespace Go.Proofs.YtipccndoffcfiaaDoor.Script
open Go.RowKit Go.Proofs.YtipccndoffcfiaaDoor.PRef Go.Proofs.YtipccndoffcfiaaDoorW.PrintWords Go.Proofs.YtipccndoffcfiaaDoorW.PrintLast
attribute [local go_sem] Oper.semAt_some
set_option linter.unusedVariables false
set_option linter.unusedSimpArgs false
/-- A text's first line; what stands behind it. -/
def one (s : ByteArray) : ByteArray := ⟨(Lib.cut s.data.toList [10]).1.toArray⟩
def rest (s : ByteArray) : ByteArray := ⟨(Lib.cut s.data.toList [10]).2.1.toArray⟩
theorem one_size (s : ByteArray) : (one s).size ≤ s.size := by
  have hl := size_toList s
  unfold one Lib.cut
  split
  · show ((s.data.toList.take _).toArray).size ≤ _
    simp
    omega
  · show (s.data.toList.toArray).size ≤ _
    simp
theorem rest_size (s : ByteArray) (h : ¬ s = ⟨#[]⟩) : (rest s).size < s.size := by
  have hl := size_toList s
  have hp : 0 < s.size := by
    rcases Nat.eq_zero_or_pos s.size with h0 | h0
    · exact absurd (ByteArray.ext (Array.eq_empty_of_size_eq_zero h0)) h
    · exact h0
  unfold rest Lib.cut
  split
  · show ((s.data.toList.drop _).toArray).size < _
    simp
    omega
  · exact hp
theorem words_le (s : ByteArray) : (words s).length ≤ s.size + 1 := by
  rw [words_len]
  have := Lib.countB_le spc (by decide) s.size s (Nat.le_refl _)
  omega
theorem wordsP_len {cs : List Int} {es : List S47} {l : List ByteArray} {cs' : List Int} {es' : List S47} (h : wordsP cs es l = some (cs', es')) : es'.length ≤ es.length + 1 := by
  match l with
  | [] => cases h
  | a :: t =>
    rw [wordsP_cons] at h
    split at h
    · obtain ⟨_, _, h⟩ := Option.map_eq_some_iff.1 h
      cases h
      omega
    · split at h
      · obtain ⟨_, _, h⟩ := Option.map_eq_some_iff.1 h
        cases h
        simp
      · split at h
        · obtain ⟨_, _, h⟩ := Option.map_eq_some_iff.1 h
          cases h
          simp
        · cases h
/-- What lines say: the numbers, the events, the line that is refused, why. -/
def runP : Nat → List Int → List S47 → Nat → ByteArray → List Int × List S47 × Nat × Int
  | 0, _, _, n, _ => ([0, 0, 0, 0, 0], [], n, 10)
  | k + 1, cs, es, n, s => if s = ⟨#[]⟩ then (cs, es, 0, 0) else match wordsP cs es (words (one s)) with
    | none => ([0, 0, 0, 0, 0], [], n, 10)
    | some r => runP k r.1 r.2 (n + 1) (rest s)
/-- What a text says. -/
def parseP (s : ByteArray) : List Int × List S47 × Nat × Int :=
  if 131072 < s.size then ([0, 0, 0, 0, 0], [], 0, 3) else runP (s.size + 1) [0, 0, 0, 0, 0] [] 1 s
def ParsePost (P : List Int × List S47 × Nat × Int) (w : World) (e : Ending) (w' : World) : Prop :=
  ∃ esv : Value, e = .returned (.tuple #[.agg (P.1.map (Value.int .i64)).toArray, esv, .int .i64 (P.2.2.1 : Int), .int .i64 P.2.2.2]) ∧ (∃ base, w.heap.size ≤ base ∧ Kd.R k47 47 w' base (fun _ => True) esv P.2.1) ∧ Below w.heap.size w w'
theorem cut_calls (s : ByteArray) (hs : s.size ≤ 1000000) (w : World) (he : Env w) : Calls Tryd.prog 24 #[.string s, .string ⟨#[10]⟩] w fun e w' => ∃ b, e = .returned (.tuple #[.string (one s), .string (rest s), .bool b]) ∧ Below w.heap.size w w' := by
  obtain ⟨m, hm⟩ := he.len
  refine (Tryd.strings_Cut s ⟨#[10]⟩ m w (by omega) hm).mono ?_
  rintro e w' ⟨rfl, n, rfl⟩
  exact ⟨_, rfl, rfl, rfl, rfl, Nat.le_refl _, fun _ _ => rfl⟩
theorem runP_nil (k : Nat) (cs : List Int) (es : List S47) (n : Nat) : runP (k + 1) cs es n ⟨#[]⟩ = (cs, es, 0, 0) := by rw [runP, if_pos rfl]
theorem runP_bad {k : Nat} {cs : List Int} {es : List S47} {n : Nat} {s : ByteArray} (h : ¬ s = ⟨#[]⟩) (hw : wordsP cs es (words (one s)) = none) : runP (k + 1) cs es n s = ([0, 0, 0, 0, 0], [], n, 10) := by rw [runP, if_neg h, hw]
theorem runP_good {k : Nat} {cs : List Int} {es : List S47} {n : Nat} {s : ByteArray} {r : List Int × List S47} (h : ¬ s = ⟨#[]⟩) (hw : wordsP cs es (words (one s)) = some r) : runP (k + 1) cs es n s = runP k r.1 r.2 (n + 1) (rest s) := by rw [runP, if_neg h, hw]
theorem rdr_new (w : World) : Rdr ((w.alloc (.cells #[.int .i64 0, .int .i64 0, .int .i64 0, .int .i64 0, .int .i64 0] 28)).alloc (.cells #[.int .i64 0, .int .i64 0, .int .i64 0, .int .i64 0, .int .i64 0, .slice none 0 0] 53)) (w.heap.size + 1) [0, 0, 0, 0, 0] (.slice none 0 0) [] := by
  refine ⟨?_, rfl, Kd.R_nil _ _ _ _ _⟩
  have := ptrs_alloc (w.alloc (.cells #[.int .i64 0, .int .i64 0, .int .i64 0, .int .i64 0, .int .i64 0] 28)) 0 53 [.int .i64 0, .int .i64 0, .int .i64 0, .int .i64 0, .int .i64 0, .slice none 0 0]
  rwa [show (w.alloc (.cells #[.int .i64 0, .int .i64 0, .int .i64 0, .int .i64 0, .int .i64 0] 28)).heap.size = w.heap.size + 1 by simp] at this
set_option maxHeartbeats 4000000 in
set_option maxRecDepth 100000 in
theorem parse_results (tmps : Array Value) (w : World) (b : Nat) (a0 a1 a2 a3 a4 : Int) (h2 : tmps.getD 2 undef = .pointer (some ⟨b, 0, none⟩)) (hb : Blk w b 28 [.int .i64 a0, .int .i64 a1, .int .i64 a2, .int .i64 a3, .int .i64 a4]) :
    (results Tryd.f14 tmps).run Tryd.prog w = .ok (.tuple #[.agg #[.int .i64 a0, .int .i64 a1, .int .i64 a2, .int .i64 a3, .int .i64 a4], tmps.getD 3 undef, tmps.getD 4 undef, tmps.getD 5 undef]) w := by
  have hres : Tryd.f14.results = #[.cell 2 28, .tmp 3, .tmp 4, .tmp 5] := rfl
  have k0 := hb.cell 0 (by simp)
  have k1 := hb.cell 1 (by simp)
  have k2 := hb.cell 2 (by simp)
  have k3 := hb.cell 3 (by simp)
  have k4 := hb.cell 4 (by simp)
  simp only [List.getElem_cons_zero, List.getElem_cons_succ] at k0 k1 k2 k3 k4
  have h3 : tmps[2]?.getD undef = .pointer (some ⟨b, 0, none⟩) := by simpa using h2
  simp only [results, hres]
  go_simp
  try rfl
def W0 (w : World) : World := (w.alloc (.cells #[.int .i64 0, .int .i64 0, .int .i64 0, .int .i64 0, .int .i64 0] 28)).alloc (.cells #[.int .i64 0, .int .i64 0, .int .i64 0, .int .i64 0, .int .i64 0, .slice none 0 0] 53)
theorem W0_below (w : World) : Below w.heap.size w (W0 w) := push2 w _ _
theorem W0_size (w : World) : (W0 w).heap.size = w.heap.size + 2 := by simp [W0]
theorem res_blk {w w2 : World} (h : Below (w.heap.size + 1) (W0 w) w2) : Blk w2 w.heap.size 28 [.int .i64 0, .int .i64 0, .int .i64 0, .int .i64 0, .int .i64 0] :=
  (h.block _ (by omega)).trans ((ptrs_alloc w 0 28 [.int .i64 0, .int .i64 0, .int .i64 0, .int .i64 0, .int .i64 0]).below (below_push _ _))
theorem res_env {w w2 : World} (he : Env w) (h : Below (w.heap.size + 1) (W0 w) w2) : Env w2 := (he.below (W0_below w)).from (by have := he.size; omega) h
theorem ret_below {w w2 w3 : World} (h : Below (w.heap.size + 1) (W0 w) w2) (h3 : Below w.heap.size w2 w3) : Below w.heap.size w w3 :=
  (W0_below w).trans ((h.mono (by omega)).trans h3)
def set5 (w : World) (b : Nat) (a0 a1 a2 a3 a4 : Int) : World := ((((w.setCell ⟨b, 0, none⟩ (.int .i64 a0)).setCell ⟨b, 1, none⟩ (.int .i64 a1)).setCell ⟨b, 2, none⟩ (.int .i64 a2)).setCell ⟨b, 3, none⟩ (.int .i64 a3)).setCell ⟨b, 4, none⟩ (.int .i64 a4)
theorem set5_far (w : World) {b : Nat} (a0 a1 a2 a3 a4 : Int) (p : Addr) (h : b ≠ p.block) : (set5 w b a0 a1 a2 a3 a4).cell? p = w.cell? p := by
  unfold set5
  rw [World.cell?_setCell_far _ _ _ _ h, World.cell?_setCell_far _ _ _ _ h, World.cell?_setCell_far _ _ _ _ h, World.cell?_setCell_far _ _ _ _ h, World.cell?_setCell_far _ _ _ _ h]
theorem set5_heap (w : World) (b : Nat) (a0 a1 a2 a3 a4 : Int) (k : Nat) (h : k ≠ b) : (set5 w b a0 a1 a2 a3 a4).heap[k]? = w.heap[k]? := by
  unfold set5
  rw [Below.heap_setCell _ _ _ k h, Below.heap_setCell _ _ _ k h, Below.heap_setCell _ _ _ k h, Below.heap_setCell _ _ _ k h, Below.heap_setCell _ _ _ k h]
theorem five_set {w : World} {b t : Nat} {x0 x1 x2 x3 x4 : Value} (h : Blk w b t [x0, x1, x2, x3, x4]) (a0 a1 a2 a3 a4 : Int) : Blk (set5 w b a0 a1 a2 a3 a4) b t [.int .i64 a0, .int .i64 a1, .int .i64 a2, .int .i64 a3, .int .i64 a4] :=
  ((((h.set 0 (.int .i64 a0)).set 1 (.int .i64 a1)).set 2 (.int .i64 a2)).set 3 (.int .i64 a3)).set 4 (.int .i64 a4)
theorem five_below (w : World) (b : Nat) (a0 a1 a2 a3 a4 : Int) : Below b w (set5 w b a0 a1 a2 a3 a4) :=
  (((((Below.refl b w).setCell (p := ⟨b, 0, none⟩) (Nat.le_refl _) _).setCell (p := ⟨b, 1, none⟩) (Nat.le_refl _) _).setCell (p := ⟨b, 2, none⟩) (Nat.le_refl _) _).setCell (p := ⟨b, 3, none⟩) (Nat.le_refl _) _).setCell (p := ⟨b, 4, none⟩) (Nat.le_refl _) _
theorem five (cs : List Int) (h : cs.length = 5) : ∃ a0 a1 a2 a3 a4, cs = [a0, a1, a2, a3, a4] := by
  match cs, h with
  | [a0, a1, a2, a3, a4], _ => exact ⟨a0, a1, a2, a3, a4, rfl⟩
theorem parse_done {w wr : World} {a0 a1 a2 a3 a4 : Int} {esv : Value} {es : List S47} (hB : Below (w.heap.size + 1) (W0 w) wr) (hR : Rdr wr (w.heap.size + 1) [a0, a1, a2, a3, a4] esv es) :
    ParsePost ([a0, a1, a2, a3, a4], es, 0, 0) w (.returned (.tuple #[.agg #[.int .i64 a0, .int .i64 a1, .int .i64 a2, .int .i64 a3, .int .i64 a4], esv, .int .i64 0, .int .i64 0])) (set5 wr w.heap.size a0 a1 a2 a3 a4).drew :=
by
  have hs := five_below wr w.heap.size a0 a1 a2 a3 a4
  have hk : ∀ k, w.heap.size + 1 + 1 ≤ k → k < wr.heap.size → (set5 wr w.heap.size a0 a1 a2 a3 a4).heap[k]? = wr.heap[k]? := fun k hk _ => set5_heap wr w.heap.size a0 a1 a2 a3 a4 k (by omega)
  have h1 := hB.size
  have h2 := W0_size w
  have h3 := hs.size
  have hb := drewB (set5 wr w.heap.size a0 a1 a2 a3 a4)
  generalize set5 wr w.heap.size a0 a1 a2 a3 a4 = wz at hs hk h3 hb ⊢
  have hr := R_kept hR.row hk
  have hq : Below w.heap.size wr wz.drew := hs.trans (hb.mono (by omega))
  have hv := ret_below hB hq
  have hrr := Kd.R_below hr ((hb).mono (Nat.le_refl _))
  exact ⟨esv, rfl, ⟨w.heap.size + 1 + 1, by omega, hrr⟩, hv⟩
set_option maxHeartbeats 4000000 in
set_option maxRecDepth 100000 in
theorem parse_calls (s : ByteArray) (w : World) (hs : s.size ≤ 100000000) (he : Env w) : Calls Tryd.prog 14 #[.string s] w (ParsePost (parseP s) w) := by
  have HE := Lib.hid he
  clear he
  by_cases hbig : 131072 < s.size
  · have e1 : decide ((131072 : Int) < (s.size : Int)) = true := decide_eq_true (by omega)
    have e2 : decide ((s.size : Int) > (131072 : Int)) = true := decide_eq_true (by omega)
    have hp : parseP s = ([0, 0, 0, 0, 0], [], 0, 3) := if_pos hbig
    rw [hp]
    go_enter Tryd.func14, Tryd.ntmps14
    go_wp2_with fail
    refine bodyPost_ret (parse_results _ _ w.heap.size 0 0 0 0 0 rfl (ptrs_alloc w 0 28 [.int .i64 0, .int .i64 0, .int .i64 0, .int .i64 0, .int .i64 0])) rfl ?_
    exact ⟨.slice none 0 0, rfl, ⟨_, Nat.le_refl _, Kd.R_nil _ _ _ _ _⟩, below_push w _⟩
  · have e1 : decide ((131072 : Int) < (s.size : Int)) = false := decide_eq_false (by omega)
    have e2 : decide ((s.size : Int) > (131072 : Int)) = false := decide_eq_false (by omega)
    have hp : parseP s = runP (s.size + 1) [0, 0, 0, 0, 0] [] 1 s := if_neg hbig
    have HP0 := Lib.hid hp
    clear hp
    generalize parseP s = P at HP0 ⊢
    go_enter Tryd.func14, Tryd.ntmps14
    go_wp2_with fail
    go_loopg [0, 7, 8, 9, 10] s.size (fun gg v0 v7 v8 v9 v10 w' => ∃ (cur : ByteArray) (n : Nat) (cs : List Int) (es : List S47) (esv : Value), v0 = .string cur ∧ v7 = .int .i64 (n : Int) ∧ Hid (cur.size ≤ gg ∧ es.length + cur.size ≤ 131072 ∧ n + cur.size ≤ 131073) ∧ Hid (runP (gg + 1) cs es n cur = P) ∧ Hid (Below (w.heap.size + 1) ((w.alloc (.cells #[.int .i64 0, .int .i64 0, .int .i64 0, .int .i64 0, .int .i64 0] 28)).alloc (.cells #[.int .i64 0, .int .i64 0, .int .i64 0, .int .i64 0, .int .i64 0, .slice none 0 0] 53)) w') ∧ Hid (Rdr w' (w.heap.size + 1) cs esv es))
    case atStart => exact ⟨s, 1, [0, 0, 0, 0, 0], [], .slice none 0 0, rfl, rfl, Lib.hid ⟨Nat.le_refl _, by simp; omega, by omega⟩, Lib.hid HP0.out.symm, Lib.hid (Below.refl _ _), Lib.hid (rdr_new w)⟩
    case round =>
      obtain ⟨cur, n, cs, es, esv, rfl, rfl, HC, HP, HB, HR⟩ := hrel
      replace HB : Hid (Below (w.heap.size + 1) (W0 w) wr) := HB
      by_cases hc : cur = ⟨#[]⟩
      · subst hc
        have HP1 := Lib.hid ((runP_nil _ _ _ _).symm.trans HP.out)
        obtain ⟨a0, a1, a2, a3, a4, rfl⟩ := five cs HR.out.len
        have rB := res_blk HB.out
        have r0 := rB.cell 0 (by simp)
        have r1 := rB.cell 1 (by simp)
        have r2 := rB.cell 2 (by simp)
        have r3 := rB.cell 3 (by simp)
        have r4 := rB.cell 4 (by simp)
        have rf := fun j => rB.free j
        have c0 := HR.out.blk.cell 0 (by simp)
        have c1 := HR.out.blk.cell 1 (by simp)
        have c2 := HR.out.blk.cell 2 (by simp)
        have c3 := HR.out.blk.cell 3 (by simp)
        have c4 := HR.out.blk.cell 4 (by simp)
        have c5 := HR.out.blk.cell 5 (by simp)
        simp only [List.map_cons, List.map_nil, List.cons_append, List.nil_append, List.getElem_cons_zero, List.getElem_cons_succ] at r0 r1 r2 r3 r4 c0 c1 c2 c3 c4 c5
        have RB := Lib.hid rB
        clear rB
        go_wp2_with fail
        refine wp_region_noPanic ?_
        refine start_ (n := 12) (S := fun W' => W'.cell? ⟨w.heap.size + 1, 0, none⟩ = some (.int .i64 a0) ∧ W'.cell? ⟨w.heap.size + 1, 1, none⟩ = some (.int .i64 a1) ∧ W'.cell? ⟨w.heap.size + 1, 2, none⟩ = some (.int .i64 a2) ∧ W'.cell? ⟨w.heap.size + 1, 3, none⟩ = some (.int .i64 a3) ∧ W'.cell? ⟨w.heap.size + 1, 4, none⟩ = some (.int .i64 a4) ∧ W'.cell? ⟨w.heap.size + 1, 5, none⟩ = some (esv)) (ds := []) #[false, false, false, false, false, false, false, false, false, false, false, false] (by rfl) (by rfl) (by rfl) ⟨c0, c1, c2, c3, c4, c5⟩ (fun hHeld => ?_)
        refine take_ (i := 0) (N := some 34) (v := ?_) (a' := ?_) #[true, false, false, false, false, false, false, false, false, false, false, false] rfl rfl (by kernel_rfl) (fun _ _ _ h => h) (Or.inl ⟨by rfl, ?_⟩) hHeld ?_ ?_
        rotate_left
        · rintro w' ⟨s0, s1, s2, s3, s4, s5⟩
          go_simp
          try with_reducible rfl
        rotate_left
        · simp only [Act.put, List.setIfInBounds_toArray, List.set_cons_zero, List.set_cons_succ]
          rfl
        refine take_ (i := 1) (N := some 35) (v := ?_) (a' := ?_) #[true, true, false, false, false, false, false, false, false, false, false, false] rfl rfl (by kernel_rfl) (fun _ _ _ h => h) (Or.inl ⟨by rfl, ?_⟩) hHeld ?_ ?_
        rotate_left
        · rintro w' ⟨s0, s1, s2, s3, s4, s5⟩
          go_simp
          try with_reducible rfl
        rotate_left
        · simp only [Act.put, List.setIfInBounds_toArray, List.set_cons_zero, List.set_cons_succ]
          rfl
        refine take_ (i := 2) (N := some 36) (v := ?_) (a' := ?_) #[true, true, true, false, false, false, false, false, false, false, false, false] rfl rfl (by kernel_rfl) (fun _ _ _ h => h) (Or.inl ⟨by rfl, ?_⟩) hHeld ?_ ?_
        rotate_left
        · rintro w' ⟨s0, s1, s2, s3, s4, s5⟩
          go_simp
          try with_reducible rfl
        rotate_left
        · simp only [Act.put, List.setIfInBounds_toArray, List.set_cons_zero, List.set_cons_succ]
          rfl
        refine take_ (i := 3) (N := some 37) (v := ?_) (a' := ?_) #[true, true, true, true, false, false, false, false, false, false, false, false] rfl rfl (by kernel_rfl) (fun _ _ _ h => h) (Or.inl ⟨by rfl, ?_⟩) hHeld ?_ ?_
        rotate_left
        · rintro w' ⟨s0, s1, s2, s3, s4, s5⟩
          go_simp
          try with_reducible rfl
        rotate_left
        · simp only [Act.put, List.setIfInBounds_toArray, List.set_cons_zero, List.set_cons_succ]
          rfl
        refine take_ (i := 4) (N := some 38) (v := ?_) (a' := ?_) #[true, true, true, true, true, false, false, false, false, false, false, false] rfl rfl (by kernel_rfl) (fun _ _ _ h => h) (Or.inl ⟨by rfl, ?_⟩) hHeld ?_ ?_
        rotate_left
        · rintro w' ⟨s0, s1, s2, s3, s4, s5⟩
          go_simp
          try with_reducible rfl
        rotate_left
        · simp only [Act.put, List.setIfInBounds_toArray, List.set_cons_zero, List.set_cons_succ]
          rfl
        refine take_ (i := 5) (N := some 39) (v := ?_) (a' := ?_) #[true, true, true, true, true, true, false, false, false, false, false, false] rfl rfl (by kernel_rfl) (fun _ _ _ h => h) (Or.inl ⟨by rfl, ?_⟩) hHeld ?_ ?_
        rotate_left
        · rintro w' ⟨s0, s1, s2, s3, s4, s5⟩
          go_simp
          try with_reducible rfl
        rotate_left
        · simp only [Act.put, List.setIfInBounds_toArray, List.set_cons_zero, List.set_cons_succ]
          rfl
        refine take_ (i := 6) (N := some 40) (v := ?_) (a' := ?_) #[true, true, true, true, true, true, true, false, false, false, false, false] rfl rfl (by kernel_rfl) (fun _ _ _ h => h) (Or.inl ⟨by rfl, ?_⟩) hHeld ?_ ?_
        rotate_left
        · rintro w' ⟨s0, s1, s2, s3, s4, s5⟩
          go_simp
          try with_reducible rfl
        rotate_left
        · simp only [Act.put, List.setIfInBounds_toArray, List.set_cons_zero, List.set_cons_succ]
          rfl
        refine take_ (i := 7) (N := some 41) (v := ?_) (a' := ?_) #[true, true, true, true, true, true, true, true, false, false, false, false] rfl rfl (by kernel_rfl) (fun _ _ _ h => h) (Or.inl ⟨by rfl, ?_⟩) hHeld ?_ ?_
        rotate_left
        · rintro w' ⟨s0, s1, s2, s3, s4, s5⟩
          go_simp
          try with_reducible rfl
        rotate_left
        · simp only [Act.put, List.setIfInBounds_toArray, List.set_cons_zero, List.set_cons_succ]
          rfl
        refine one_ (i := 8) (N := none) #[true, true, true, true, true, true, true, true, true, false, false, false] rfl rfl (by kernel_rfl) (by decide) (fun K hK => ?_)
        go_simp
        have far : ∀ p : Addr, w.heap.size ≠ p.block → (set5 wr.drew w.heap.size a0 a1 a2 a3 a4).cell? p = wr.cell? p := fun p h => set5_far _ _ _ _ _ _ p h
        have hh : (fun W' => W'.cell? ⟨w.heap.size + 1, 0, none⟩ = some (.int .i64 a0) ∧ W'.cell? ⟨w.heap.size + 1, 1, none⟩ = some (.int .i64 a1) ∧ W'.cell? ⟨w.heap.size + 1, 2, none⟩ = some (.int .i64 a2) ∧ W'.cell? ⟨w.heap.size + 1, 3, none⟩ = some (.int .i64 a3) ∧ W'.cell? ⟨w.heap.size + 1, 4, none⟩ = some (.int .i64 a4) ∧ W'.cell? ⟨w.heap.size + 1, 5, none⟩ = some (esv)) (set5 wr.drew w.heap.size a0 a1 a2 a3 a4) := ⟨(far _ (by show w.heap.size ≠ w.heap.size + 1; omega)).trans c0, (far _ (by show w.heap.size ≠ w.heap.size + 1; omega)).trans c1, (far _ (by show w.heap.size ≠ w.heap.size + 1; omega)).trans c2, (far _ (by show w.heap.size ≠ w.heap.size + 1; omega)).trans c3, (far _ (by show w.heap.size ≠ w.heap.size + 1; omega)).trans c4, (far _ (by show w.heap.size ≠ w.heap.size + 1; omega)).trans c5⟩
        refine hK.out _ _ hh (fun hHeld => ?_)
        clear hK K hh
        try simp only [Act.put, List.setIfInBounds_toArray, List.set_cons_zero, List.set_cons_succ]
        refine take_ (i := 9) (N := some 3) (v := ?_) (a' := ?_) #[true, true, true, true, true, true, true, true, true, true, false, false] rfl rfl (by kernel_rfl) (fun _ _ _ h => h) (Or.inl ⟨by rfl, ?_⟩) hHeld ?_ ?_
        rotate_left
        · rintro w' ⟨s0, s1, s2, s3, s4, s5⟩
          go_simp
          try with_reducible rfl
        rotate_left
        · simp only [Act.put, List.setIfInBounds_toArray, List.set_cons_zero, List.set_cons_succ]
          rfl
        refine take_ (i := 10) (N := some 4) (v := ?_) (a' := ?_) #[true, true, true, true, true, true, true, true, true, true, true, false] rfl rfl (by kernel_rfl) (fun _ _ _ h => h) (Or.inl ⟨by rfl, ?_⟩) hHeld ?_ ?_
        rotate_left
        · rintro w' ⟨s0, s1, s2, s3, s4, s5⟩
          go_simp
          try with_reducible rfl
        rotate_left
        · simp only [Act.put, List.setIfInBounds_toArray, List.set_cons_zero, List.set_cons_succ]
          rfl
        refine take_ (i := 11) (N := some 5) (v := ?_) (a' := ?_) #[true, true, true, true, true, true, true, true, true, true, true, true] rfl rfl (by kernel_rfl) (fun _ _ _ h => h) (Or.inl ⟨by rfl, ?_⟩) hHeld ?_ ?_
        rotate_left
        · rintro w' ⟨s0, s1, s2, s3, s4, s5⟩
          go_simp
          try with_reducible rfl
        rotate_left
        · simp only [Act.put, List.setIfInBounds_toArray, List.set_cons_zero, List.set_cons_succ]
          rfl
        refine done_ (by kernel_rfl) ?_
        refine NoPanic.normal ?_
        go_wp2_with fail
        refine bodyPost_ret (parse_results _ _ w.heap.size a0 a1 a2 a3 a4 rfl (by exact five_set RB.out a0 a1 a2 a3 a4)) rfl ?_
        rw [← HP1.out]
        exact parse_done HB.out HR.out
      · have t1 : (cur.toList == []) = false := tl_lit hc
        have t1d : ¬ cur.toList = [] := fun e => by rw [e] at t1; exact absurd t1 (by decide)
        have HEr := Lib.hid (res_env HE.out HB.out)
        have HZ := Lib.hid (Nat.le_trans (one_size cur) (Nat.le_trans (by have := HC.out; omega : cur.size ≤ 131072) (by omega : 131072 ≤ 900000)))
        have HNC := Lib.hid hc
        clear hc
        go_wp2_with (first | (go_at_call 24; refine (cut_calls cur (by have := HC.out; omega) wr HEr.out).mono ?_; rintro e w1 ⟨b, rfl, hb1⟩; have HR1 := Lib.hid (HR.out.below hb1); have HE1 := Lib.hid (HEr.out.below hb1); have HB1 : Hid (Below (w.heap.size + 1) (W0 w) w1) := Lib.hid (HB.out.trans (hb1.mono (by have := HB.out.size; have := W0_size w; omega))); clear hb1))
        refine (line_calls (one cur) (w.heap.size + 1) cs esv es w1 (by have := HZ.out; omega) (by have := HZ.out; have := words_le (one cur); omega) HR1.out (by have := HE.out.size; omega) HE1.out (by have := HC.out; omega)).mono ?_
        rintro e w2 ⟨rfl, hb2, hr2⟩
        have HB2 : Hid (Below (w.heap.size + 1) (W0 w) w2) := Lib.hid (HB1.out.trans hb2)
        clear hb2
        cases hwp : wordsP cs es (words (one cur)) with
        | none =>
          have HP1 := Lib.hid ((runP_bad HNC.out hwp).symm.trans HP.out)
          clear hr2 hwp
          simp only [Option.isSome_none]
          have rB := res_blk HB2.out
          have r0 := rB.cell 0 (by simp)
          have r1 := rB.cell 1 (by simp)
          have r2 := rB.cell 2 (by simp)
          have r3 := rB.cell 3 (by simp)
          have r4 := rB.cell 4 (by simp)
          have rf := fun j => rB.free j
          simp only [List.getElem_cons_zero, List.getElem_cons_succ] at r0 r1 r2 r3 r4
          have RB := Lib.hid rB
          clear rB
          go_wp2_with fail
          refine bodyPost_ret (parse_results _ _ w.heap.size 0 0 0 0 0 rfl (five_set RB.out 0 0 0 0 0)) rfl ?_
          rw [← HP1.out]
          exact ⟨.slice none 0 0, rfl, ⟨_, Nat.le_refl _, Kd.R_nil _ _ _ _ _⟩, ret_below HB2.out (five_below _ _ 0 0 0 0 0)⟩
        | some r =>
          obtain ⟨cs', es'⟩ := r
          obtain ⟨esv', hr3⟩ := hr2 cs' es' hwp
          have HR3 := Lib.hid hr3
          have HP1 := Lib.hid ((runP_good HNC.out hwp).symm.trans HP.out)
          have HL := Lib.hid (wordsP_len hwp)
          have HRS := Lib.hid (rest_size cur HNC.out)
          clear hr2 hwp hr3
          simp only [Option.isSome_some]
          have hn9 : n ≤ 131073 := by have := HC.out; omega
          go_wp2_with fail
          go_roundg (gk - 1)
          case measure => have := HRS.out; have := HC.out; omega
          case rel =>
            have e : gk - 1 + 1 = gk := by have := HRS.out; have := HC.out; omega
            exact ⟨rest cur, n + 1, cs', es', esv', rfl, by go_num, Lib.hid (by have := HRS.out; have := HC.out; have := HL.out; omega), Lib.hid (by rw [e]; exact HP1.out), HB2, HR3⟩
end Go.Proofs.YtipccndoffcfiaaDoor.Script
end

section
namespace Go.Proofs.YtipccndoffcfiaaDoor.Script
open Go.RowKit Go.Proofs.YtipccndoffcfiaaDoor.PRef
/-- A text's first line and the rest, over bytes. -/
def oneL : List UInt8 → List UInt8
  | [] => []
  | b :: l => if b = 10 then [] else b :: oneL l
def restL : List UInt8 → List UInt8
  | [] => []
  | b :: l => if b = 10 then l else restL l
theorem index10 : ∀ l : List UInt8, (Lib.index l [10] = -1 ∧ oneL l = l ∧ restL l = [] ∧ 10 ∉ l) ∨ (∃ i : Nat, Lib.index l [10] = i ∧ l.take i = oneL l ∧ l.drop (i + 1) = restL l ∧ 10 ∈ l)
  | [] => .inl ⟨by simp [Lib.index], rfl, rfl, by simp⟩
  | b :: l => by
    by_cases hb : b = 10
    · subst hb
      refine .inr ⟨0, ?_, by simp [oneL], by simp [restL], by simp⟩
      rw [Lib.index]; simp [List.isPrefixOf]
    · have hp : ([10] : List UInt8).isPrefixOf (b :: l) = false := by simp [List.isPrefixOf, Ne.symm hb]
      have hix : Lib.index (b :: l) [10] = if Lib.index l [10] == -1 then -1 else Lib.index l [10] + 1 := by rw [Lib.index, hp]; simp
      rcases index10 l with ⟨h1, h2, h3, h4⟩ | ⟨i, h1, h2, h3, h4⟩
      · refine .inl ⟨by rw [hix, h1]; rfl, by rw [oneL, if_neg hb, h2], by rw [restL, if_neg hb, h3], by simp [h4, Ne.symm hb]⟩
      · refine .inr ⟨i + 1, ?_, by rw [oneL, if_neg hb, List.take_succ_cons, h2], by rw [restL, if_neg hb, List.drop_succ_cons, h3], by simp [h4]⟩
        rw [hix, h1]
        have : ((i : Int) == -1) = false := by rw [beq_eq_false_iff_ne]; omega
        simp [this]
theorem one_eq (s : ByteArray) : one s = ⟨(oneL s.data.toList).toArray⟩ := by
  unfold one Lib.cut
  rcases index10 s.data.toList with ⟨h1, h2, _⟩ | ⟨i, h1, h2, _⟩
  · rw [h1, if_neg (by decide), h2]
  · rw [h1, if_pos (by omega), Int.toNat_natCast]
    simp only [h2]
theorem rest_eq (s : ByteArray) : rest s = ⟨(restL s.data.toList).toArray⟩ := by
  unfold rest Lib.cut
  rcases index10 s.data.toList with ⟨h1, _, h2, _⟩ | ⟨i, h1, _, h2, _⟩
  · rw [h1, if_neg (by decide), h2]
  · rw [h1, if_pos (by omega), Int.toNat_natCast]
    simp only [List.length_singleton, h2]
/-- Text with more behind it. -/
def more (l t : List UInt8) : List UInt8 := l ++ 10 :: t
theorem oneL_more (l t : List UInt8) : oneL (more l t) = oneL l := by
  induction l with
  | nil => simp [more, oneL]
  | cons b l ih =>
    simp only [more, List.cons_append] at ih ⊢
    by_cases hb : b = 10
    · simp [oneL, hb]
    · simp [oneL, hb, ih]
theorem restL_more (l t : List UInt8) (h : 10 ∈ l) : restL (more l t) = more (restL l) t := by
  induction l with
  | nil => simp at h
  | cons b l ih =>
    simp only [more, List.cons_append] at ih ⊢
    by_cases hb : b = 10
    · simp [restL, hb]
    · simp only [restL, if_neg hb]
      exact ih (by simpa [Ne.symm hb] using h)
theorem restL_none (l : List UInt8) (h : 10 ∉ l) : restL l = [] := by
  rcases index10 l with ⟨_, _, h3, _⟩ | ⟨_, _, _, _, h4⟩
  · exact h3
  · exact absurd h4 h
def B (l : List UInt8) : ByteArray := ⟨l.toArray⟩
theorem B_nil {l : List UInt8} : B l = ⟨#[]⟩ ↔ l = [] := by
  unfold B
  constructor
  · intro h
    have := congrArg (fun x : ByteArray => x.data.toList) h
    simpa using this
  · rintro rfl; rfl
theorem one_B (l : List UInt8) : one (B l) = B (oneL l) := by rw [one_eq]; rfl
theorem rest_B (l : List UInt8) : rest (B l) = B (restL l) := by rw [rest_eq]; rfl
theorem B_size (l : List UInt8) : (B l).size = l.length := by unfold B; simp [ByteArray.size]
theorem restL_len (l : List UInt8) (h : l ≠ []) : (restL l).length < l.length := by
  have := rest_size (B l) (fun e => h (B_nil.1 e))
  rwa [rest_B, B_size, B_size] at this
/-- Either all is well, or a line is refused. -/
theorem runP_ends (k : Nat) : ∀ (cs : List Int) (es : List S47) (n : Nat) (s : ByteArray), (∃ cs' es', runP k cs es n s = (cs', es', 0, 0)) ∨ ∃ m, n ≤ m ∧ m ≤ n + k ∧ runP k cs es n s = ([0, 0, 0, 0, 0], [], m, 10) := by
  induction k with
  | zero => intro cs es n s; exact .inr ⟨n, Nat.le_refl _, Nat.le_refl _, rfl⟩
  | succ k ih =>
    intro cs es n s
    by_cases hs : s = ⟨#[]⟩
    · subst hs; exact .inl ⟨cs, es, runP_nil ..⟩
    · cases hw : wordsP cs es (words (one s)) with
      | none => exact .inr ⟨n, Nat.le_refl _, by omega, runP_bad hs hw⟩
      | some r =>
        rw [runP_good hs hw]
        rcases ih r.1 r.2 (n + 1) (rest s) with h | ⟨m, h1, h2, h3⟩
        · exact .inl h
        · exact .inr ⟨m, by omega, by omega, h3⟩
/-- What is refused is refused with more behind it. -/
theorem runP_more (k : Nat) : ∀ (k' : Nat) (cs : List Int) (es : List S47) (n m : Nat) (l t : List UInt8), l.length < k → (more l t).length < k' → runP k cs es n (B l) = ([0, 0, 0, 0, 0], [], m, 10) →
    runP k' cs es n (B (more l t)) = ([0, 0, 0, 0, 0], [], m, 10) := by
  induction k with
  | zero => intro k' cs es n m l t h; exact absurd h (Nat.not_lt_zero _)
  | succ k ih =>
    intro k' cs es n m l t hl hk h
    match k', hk with
    | k' + 1, hk =>
    have hs : ¬ B l = ⟨#[]⟩ := fun e => by
      rw [e, runP_nil] at h
      have := congrArg (fun x => x.2.2.2) h
      simp at this
    have hne : l ≠ [] := fun e => hs (B_nil.2 e)
    have hs' : ¬ B (more l t) = ⟨#[]⟩ := fun e => by
      have := B_nil.1 e
      simp [more] at this
    have ho : one (B (more l t)) = one (B l) := by rw [one_B, one_B, oneL_more]
    cases hw : wordsP cs es (words (one (B l))) with
    | none =>
      rw [runP_bad hs hw] at h
      rw [runP_bad hs' (by rw [ho]; exact hw), h]
    | some r =>
      rw [runP_good hs hw, rest_B] at h
      rw [runP_good hs' (by rw [ho]; exact hw), rest_B]
      by_cases h10 : 10 ∈ l
      · rw [restL_more l t h10]
        have hlt := restL_len l hne
        refine ih k' _ _ _ _ _ _ (by omega) ?_ h
        have e : (more (restL l) t).length = (restL l).length + (t.length + 1) := by simp [more]
        have e2 : (more l t).length = l.length + (t.length + 1) := by simp [more]
        omega
      · rw [restL_none l h10] at h
        match k, hl with
        | k + 1, _ =>
          rw [show B [] = ⟨#[]⟩ from rfl, runP_nil] at h
          have := congrArg (fun x => x.2.2.2) h
          simp at this
        | 0, hl => exact absurd (List.length_eq_zero_iff.1 (by omega)) hne
/-- What ScriptParts holds to be so. -/
theorem parts_plain (s t : ByteArray) (hs : s.size ≤ 10000) (ht : t.size ≤ 10000) :
    (∃ cs es, parseP s = (cs, es, 0, 0) ∧ ((∃ cs' es', parseP (s ++ ⟨#[10]⟩ ++ t) = (cs', es', 0, 0)) ∨ ∃ m, 1 ≤ m ∧ m ≤ 100000 ∧ parseP (s ++ ⟨#[10]⟩ ++ t) = ([0, 0, 0, 0, 0], [], m, 10))) ∨
    (∃ m, 1 ≤ m ∧ m ≤ 100000 ∧ parseP s = ([0, 0, 0, 0, 0], [], m, 10) ∧ parseP (s ++ ⟨#[10]⟩ ++ t) = ([0, 0, 0, 0, 0], [], m, 10)) := by
  have e : s ++ ⟨#[10]⟩ ++ t = B (more s.data.toList t.data.toList) := by
    apply ByteArray.ext
    apply Array.ext'
    simp [B, more]
  have es : s = B s.data.toList := by
    apply ByteArray.ext
    simp [B]
  have hl := size_toList s
  have hl2 := size_toList t
  have hz : (more s.data.toList t.data.toList).length = s.size + (t.size + 1) := by rw [more, List.length_append, List.length_cons, hl, hl2]
  rw [e]
  unfold parseP
  rw [if_neg (by omega), if_neg (by rw [B_size]; omega), B_size, hz]
  rcases runP_ends (s.size + 1) [0, 0, 0, 0, 0] [] 1 s with ⟨cs', es', h⟩ | ⟨m, h1, h2, h3⟩
  · refine .inl ⟨cs', es', h, ?_⟩
    rcases runP_ends (s.size + (t.size + 1) + 1) [0, 0, 0, 0, 0] [] 1 (B (more s.data.toList t.data.toList)) with h | ⟨m, h1, h2, h3⟩
    · exact .inl h
    · exact .inr ⟨m, h1, by omega, h3⟩
  · refine .inr ⟨m, h1, by omega, h3, ?_⟩
    refine runP_more (s.size + 1) _ _ _ _ _ _ _ (by omega) (by omega) ?_
    rw [← es]
    exact h3
end Go.Proofs.YtipccndoffcfiaaDoor.Script
end
