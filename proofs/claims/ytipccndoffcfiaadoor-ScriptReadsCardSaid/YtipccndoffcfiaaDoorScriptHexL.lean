/- Bytes' digits of base 16, plainly; what script.Bytes and the document's Bytes come to. -/
import Derived.Test.YtipccndoffcfiaaDoorScriptNum
import Derived.Test.YtipccndoffcfiaaDoorRounds
import Derived.Test.YtipccndoffcfiaaDoorPRefx2
import Derived.KernelRfl
namespace Go.Proofs.YtipccndoffcfiaaDoor.Script
open Go.RowKit Go.IntWalk Go.Proofs.YtipccndoffcfiaaDoor.PRef Go.Proofs.YtipccndoffcfiaaDoorW.PrintWords Go.Proofs.YtipccndoffcfiaaDoorW.PrintLast Go.Proofs.YtipccndoffcfiaaDoorW.PrintMore Go.Proofs.YtipccndoffcfiaaDoor.Rounds
set_option linter.unusedVariables false
def digL : List UInt8 := [48, 49, 50, 51, 52, 53, 54, 55, 56, 57, 97, 98, 99, 100, 101, 102]
def digB : ByteArray := ⟨#[48, 49, 50, 51, 52, 53, 54, 55, 56, 57, 97, 98, 99, 100, 101, 102]⟩
/-- A digit's value. -/
def hexv (c : UInt8) : Option Nat := if 48 ≤ c.toNat ∧ c.toNat ≤ 57 then some (c.toNat - 48) else if 97 ≤ c.toNat ∧ c.toNat ≤ 102 then some (c.toNat - 87) else none
def hexI (c : UInt8) : Int := match hexv c with | some v => (v : Int) | none => -1
theorem hexv_lt {c : UInt8} {v : Nat} (h : hexv c = some v) : v < 16 := by
  unfold hexv at h
  split at h
  · cases h; omega
  · split at h
    · cases h; omega
    · cases h
theorem byte_all (p : UInt8 → Bool) (h : ((List.range 256).all fun n => p (UInt8.ofNat n)) = true) (c : UInt8) : p c = true := by
  have := List.all_eq_true.1 h c.toNat (List.mem_range.2 c.toNat_lt)
  rwa [UInt8.ofNat_toNat] at this
theorem index_hex (c : UInt8) : Lib.indexByte digL c = hexI c :=
  of_decide_eq_true (byte_all (fun c => decide (Lib.indexByte digL c = hexI c)) (by kernel_rfl) c)
theorem bt_nat (s : ByteArray) (i : Nat) (h : i < s.data.toList.length) : bt s (i : Int) = ((s.data.toList[i]).toNat : Int) := by
  have hs : i < s.size := by simpa using h
  unfold bt
  rw [dif_pos (by simpa using hs)]
  rfl
theorem size_toList (s : ByteArray) : s.data.toList.length = s.size := by simp
/-- Two digits a byte. -/
def pairs : List UInt8 → Option (List UInt8)
  | [] => some []
  | [_] => none
  | a :: b :: r => match hexv a, hexv b with
    | some x, some y => (pairs r).map fun l => UInt8.ofNat (16 * x + y) :: l
    | _, _ => none
def bytesL (l : List UInt8) : Option (List UInt8) := if l = [45] then some [] else if l = [] ∨ l.length % 2 ≠ 0 then none else pairs l
/-- The bytes of digits. -/
def bytesP (s : ByteArray) : Option ByteArray := (bytesL s.data.toList).map fun l => ⟨l.toArray⟩
theorem strOf_toNat (l : List UInt8) : strOfNums (l.map fun b => (b.toNat : Int)) = ⟨l.toArray⟩ := by
  unfold strOfNums
  rw [List.map_map]
  congr 2
  conv => rhs; rw [← List.map_id l]
  refine List.map_congr_left fun b _ => ?_
  simp
def outOf (out : List Int) (r : Option (List UInt8)) : ByteArray × Bool := match r with | some l => (strOfNums (out ++ l.map fun b => (b.toNat : Int)), true) | none => (⟨#[]⟩, false)
theorem at_of {α : Type} {g : Nat → Option α} (hm : ∀ k, LeO (g k) (g (k + 1))) {n : Nat} {r : α} (h : g n = some r) : At g r := by
  refine At.of_late n (fun k hk => ?_)
  induction k with
  | zero => have : n = 0 := by omega
            subst this; exact h
  | succ k ih =>
    by_cases e : n = k + 1
    · subst e; exact h
    · exact hm k _ (ih (by omega))
theorem byte_val (x y : Nat) (hx : x < 16) (hy : y < 16) : (wrap64 (wrap64 (16 * (x : Int)) + (y : Int))) % 256 = ((UInt8.ofNat (16 * x + y)).toNat : Int) := by
  rw [UInt8.toNat_ofNat', wrap64_in (16 * (x : Int)) (by omega), wrap64_in _ (by omega)]
  omega
theorem ib_f (c : UInt8) : strings_IndexByte.f digB (c.toNat : Int) = some (hexI c) := by
  unfold strings_IndexByte.f
  have e : ((c.toNat : Int)).toNat.toUInt8 = c := by
    rw [Int.toNat_natCast]
    exact UInt8.ofNat_toNat
  rw [e]
  exact congrArg some (index_hex c)
theorem digit_at (c : UInt8) : At (fun k => cortegeref27_digit.f k (c.toNat : Int)) (hexI c) :=
  at_of (fun k => cortegeref27_digit.mono _ k) (n := 20) (of_decide_eq_true (byte_all (fun c => decide (cortegeref27_digit.f 20 (c.toNat : Int) = some (hexI c))) (by kernel_rfl) c))
theorem hexI_none {c : UInt8} (h : hexv c = none) : hexI c = -1 := by unfold hexI; rw [h]
theorem hexI_some {c : UInt8} {v : Nat} (h : hexv c = some v) : hexI c = (v : Int) := by unfold hexI; rw [h]
theorem prog_loop (s : ByteArray) (hs : s.size ≤ 1000000) : ∀ (d i : Nat) (out : List Int), i + 2 * d = s.size → out.length ≤ i → At (fun k => script_Bytes.l0 k s out (i : Int)) (outOf out (pairs (s.data.toList.drop i))) := by
  intro d
  induction d with
  | zero =>
    intro i out hi ho
    rw [List.drop_of_length_le (by rw [size_toList]; omega)]
    refine To.step fun k => ?_
    simp only [script_Bytes.l0]
    rw [if_neg (by omega)]
    simp [outOf, pairs]
  | succ d ih =>
    intro i out hi ho
    have h1 : i < s.data.toList.length := by rw [size_toList]; omega
    have h2 : i + 1 < s.data.toList.length := by rw [size_toList]; omega
    rw [List.drop_eq_getElem_cons h1, List.drop_eq_getElem_cons h2, pairs]
    have b1 := bt_nat s i h1
    have b2 := bt_nat s (i + 1) h2
    have w2 : wrap64 ((i : Int) + 2) = ((i + 2 : Nat) : Int) := by rw [wrap64_in _ (by omega)]; omega
    generalize s.data.toList[i] = p at b1 ⊢
    generalize s.data.toList[i + 1] = q at b2 ⊢
    refine To.step_trans (h := fun k => (strings_IndexByte.f (⟨#[48, 49, 50, 51, 52, 53, 54, 55, 56, 57, 97, 98, 99, 100, 101, 102]⟩ : ByteArray) (p.toNat : Int)).bind fun t1 => (strings_IndexByte.f (⟨#[48, 49, 50, 51, 52, 53, 54, 55, 56, 57, 97, 98, 99, 100, 101, 102]⟩ : ByteArray) (q.toNat : Int)).bind fun t2 => (if t1 < 0 then (some ((⟨#[]⟩ : ByteArray), false)) else (if t2 < 0 then (some ((⟨#[]⟩ : ByteArray), false)) else (if out.length < 140737488355328 then (script_Bytes.l0 k s (out ++ [(wrap64 ((wrap64 (16 * t1)) + t2)) % 256]) ((i + 2 : Nat) : Int)) else (none))))) (fun k => ?_) ?_
    · simp only [script_Bytes.l0]
      rw [if_pos (by omega), if_pos (by omega), b1, w1 (by omega), w2]
      refine congrArg _ (funext fun t => ?_)
      rw [if_pos (by omega), if_pos (by omega), b2]
    refine (To.eq fun k => ?_).trans (h := fun k => (if hexI p < 0 then (some ((⟨#[]⟩ : ByteArray), false)) else (if hexI q < 0 then (some ((⟨#[]⟩ : ByteArray), false)) else (if out.length < 140737488355328 then (script_Bytes.l0 k s (out ++ [(wrap64 ((wrap64 (16 * hexI p)) + hexI q)) % 256]) ((i + 2 : Nat) : Int)) else (none))))) ?_
    · rw [show (⟨#[48, 49, 50, 51, 52, 53, 54, 55, 56, 57, 97, 98, 99, 100, 101, 102]⟩ : ByteArray) = digB from rfl, ib_f, Option.bind_some, ib_f, Option.bind_some]
    cases hp : hexv p with
    | none =>
      refine To.eq fun k => ?_
      rw [hexI_none hp, if_pos (by omega)]
      rfl
    | some x =>
      cases hq : hexv q with
      | none =>
        refine To.eq fun k => ?_
        rw [hexI_some hp, hexI_none hq, if_neg (by omega), if_pos (by omega)]
        rfl
      | some y =>
        have hx := hexv_lt hp
        have hy := hexv_lt hq
        refine (To.eq fun k => ?_).trans (Eq.mp (congrArg (At _) ?_) (ih (i + 2) (out ++ [((UInt8.ofNat (16 * x + y)).toNat : Int)]) (by omega) (by simp; omega)))
        · rw [hexI_some hp, hexI_some hq, if_neg (by omega), if_neg (by omega), if_pos (by omega), byte_val x y hx hy]
        · show outOf _ (pairs (s.data.toList.drop (i + 2))) = outOf out ((pairs (s.data.toList.drop (i + 2))).map fun l => UInt8.ofNat (16 * x + y) :: l)
          cases pairs (s.data.toList.drop (i + 2)) <;> simp [outOf]
theorem prog_bytes (s : ByteArray) (hs : s.size ≤ 1000000) : At (fun k => script_Bytes.f k s) ((bytesP s).getD ⟨#[]⟩, (bytesP s).isSome) := by
  have e0 : s.toList = s.data.toList := ByteArray.toList_eq ..
  have hl := size_toList s
  by_cases h1 : s.data.toList = [45]
  · refine To.eq fun k => ?_
    unfold script_Bytes.f bytesP bytesL
    rw [e0, if_pos h1, if_pos h1]
    rfl
  by_cases h2 : s.data.toList = []
  · refine To.step fun k => ?_
    unfold script_Bytes.f bytesP bytesL
    rw [e0, if_neg h1, if_pos h2, if_neg h1, if_pos (Or.inl h2)]
    simp only [script_Bytes.j0]
    rfl
  by_cases h3 : s.data.toList.length % 2 ≠ 0
  · refine To.step fun k => ?_
    unfold script_Bytes.f bytesP bytesL
    rw [e0, if_neg h1, if_neg h2, if_neg h1, if_pos (Or.inr h3)]
    have h4 : (((s.size : Int) % 2) != 0) = true := by rw [bne_iff_ne]; omega
    rw [h4]
    simp only [script_Bytes.j0]
    rfl
  · have h4 : (((s.size : Int) % 2) != 0) = false := by rw [bne_eq_false_iff_eq]; omega
    have hb : bytesL s.data.toList = pairs s.data.toList := by unfold bytesL; rw [if_neg h1, if_neg (fun h => h.elim h2 h3)]
    have := prog_loop s hs (s.size / 2) 0 [] (by omega) (by simp)
    rw [List.drop_zero] at this
    refine To.step_trans (h := fun k => script_Bytes.l0 k s [] 0) (fun k => ?_) (Eq.mp (congrArg (At _) ?_) this)
    · unfold script_Bytes.f
      rw [e0, if_neg h1, if_neg h2, h4]
      simp only [script_Bytes.j0]
      rfl
    · unfold bytesP
      rw [hb]
      cases hp : pairs s.data.toList with
      | none => rfl
      | some l => simp only [outOf, Option.map_some, Option.getD_some, Option.isSome_some, List.nil_append, strOf_toNat]
theorem ref_loop (s : ByteArray) (hs : s.size ≤ 1000000) : ∀ (d i : Nat) (out : List Int), i + 2 * d = s.size → out.length ≤ i → At (fun k => cortegeref27_Bytes.l0 k s out (i : Int)) (outOf out (pairs (s.data.toList.drop i))) := by
  intro d
  induction d with
  | zero =>
    intro i out hi ho
    rw [List.drop_of_length_le (by rw [size_toList]; omega)]
    refine To.step fun k => ?_
    simp only [cortegeref27_Bytes.l0]
    rw [if_neg (by omega)]
    simp [outOf, pairs]
  | succ d ih =>
    intro i out hi ho
    have h1 : i < s.data.toList.length := by rw [size_toList]; omega
    have h2 : i + 1 < s.data.toList.length := by rw [size_toList]; omega
    rw [List.drop_eq_getElem_cons h1, List.drop_eq_getElem_cons h2, pairs]
    have b1 := bt_nat s i h1
    have b2 := bt_nat s (i + 1) h2
    have w2 : wrap64 ((i : Int) + 2) = ((i + 2 : Nat) : Int) := by rw [wrap64_in _ (by omega)]; omega
    generalize s.data.toList[i] = p at b1 ⊢
    generalize s.data.toList[i + 1] = q at b2 ⊢
    refine To.step_trans (h := fun k => (cortegeref27_digit.f k (p.toNat : Int)).bind fun t1 => (cortegeref27_digit.f k (q.toNat : Int)).bind fun t2 => (if t1 < 0 then (some ((⟨#[]⟩ : ByteArray), false)) else (if t2 < 0 then (some ((⟨#[]⟩ : ByteArray), false)) else (if out.length < 140737488355328 then (cortegeref27_Bytes.l0 k s (out ++ [(wrap64 ((wrap64 (16 * t1)) + t2)) % 256]) ((i + 2 : Nat) : Int)) else (none))))) (fun k => ?_) ?_
    · simp only [cortegeref27_Bytes.l0]
      rw [if_pos (by omega), if_pos (by omega), b1, w1 (by omega), w2]
      refine congrArg _ (funext fun t => ?_)
      rw [if_pos (by omega), if_pos (by omega), b2]
    refine (digit_at p).bind_at (F := fun k t1 => (cortegeref27_digit.f k (q.toNat : Int)).bind fun t2 => (if t1 < 0 then (some ((⟨#[]⟩ : ByteArray), false)) else (if t2 < 0 then (some ((⟨#[]⟩ : ByteArray), false)) else (if out.length < 140737488355328 then (cortegeref27_Bytes.l0 k s (out ++ [(wrap64 ((wrap64 (16 * t1)) + t2)) % 256]) ((i + 2 : Nat) : Int)) else (none))))) ?_
    refine (digit_at q).bind_at (F := fun k t2 => (if hexI p < 0 then (some ((⟨#[]⟩ : ByteArray), false)) else (if t2 < 0 then (some ((⟨#[]⟩ : ByteArray), false)) else (if out.length < 140737488355328 then (cortegeref27_Bytes.l0 k s (out ++ [(wrap64 ((wrap64 (16 * hexI p)) + t2)) % 256]) ((i + 2 : Nat) : Int)) else (none))))) ?_
    cases hp : hexv p with
    | none =>
      refine To.eq fun k => ?_
      rw [hexI_none hp, if_pos (by omega)]
      rfl
    | some x =>
      cases hq : hexv q with
      | none =>
        refine To.eq fun k => ?_
        rw [hexI_some hp, hexI_none hq, if_neg (by omega), if_pos (by omega)]
        rfl
      | some y =>
        have hx := hexv_lt hp
        have hy := hexv_lt hq
        refine (To.eq fun k => ?_).trans (Eq.mp (congrArg (At _) ?_) (ih (i + 2) (out ++ [((UInt8.ofNat (16 * x + y)).toNat : Int)]) (by omega) (by simp; omega)))
        · rw [hexI_some hp, hexI_some hq, if_neg (by omega), if_neg (by omega), if_pos (by omega), byte_val x y hx hy]
        · show outOf _ (pairs (s.data.toList.drop (i + 2))) = outOf out ((pairs (s.data.toList.drop (i + 2))).map fun l => UInt8.ofNat (16 * x + y) :: l)
          cases pairs (s.data.toList.drop (i + 2)) <;> simp [outOf]
theorem ref_bytes (s : ByteArray) (hs : s.size ≤ 1000000) : At (fun k => cortegeref27_Bytes.f k s) ((bytesP s).getD ⟨#[]⟩, (bytesP s).isSome) := by
  have e0 : s.toList = s.data.toList := ByteArray.toList_eq ..
  have hl := size_toList s
  by_cases h1 : s.data.toList = [45]
  · refine To.eq fun k => ?_
    unfold cortegeref27_Bytes.f bytesP bytesL
    rw [e0, if_pos h1, if_pos h1]
    rfl
  by_cases h2 : s.data.toList = []
  · refine To.step fun k => ?_
    unfold cortegeref27_Bytes.f bytesP bytesL
    rw [e0, if_neg h1, if_pos h2, if_neg h1, if_pos (Or.inl h2)]
    simp only [cortegeref27_Bytes.j0]
    rfl
  by_cases h3 : s.data.toList.length % 2 ≠ 0
  · refine To.step fun k => ?_
    unfold cortegeref27_Bytes.f bytesP bytesL
    rw [e0, if_neg h1, if_neg h2, if_neg h1, if_pos (Or.inr h3)]
    have h4 : (((s.size : Int) % 2) != 0) = true := by rw [bne_iff_ne]; omega
    rw [h4]
    simp only [cortegeref27_Bytes.j0]
    rfl
  · have h4 : (((s.size : Int) % 2) != 0) = false := by rw [bne_eq_false_iff_eq]; omega
    have hb : bytesL s.data.toList = pairs s.data.toList := by unfold bytesL; rw [if_neg h1, if_neg (fun h => h.elim h2 h3)]
    have := ref_loop s hs (s.size / 2) 0 [] (by omega) (by simp)
    rw [List.drop_zero] at this
    refine To.step_trans (h := fun k => cortegeref27_Bytes.l0 k s [] 0) (fun k => ?_) (Eq.mp (congrArg (At _) ?_) this)
    · unfold cortegeref27_Bytes.f
      rw [e0, if_neg h1, if_neg h2, h4]
      simp only [cortegeref27_Bytes.j0]
      rfl
    · unfold bytesP
      rw [hb]
      cases hp : pairs s.data.toList with
      | none => rfl
      | some l => simp only [outOf, Option.map_some, Option.getD_some, Option.isSome_some, List.nil_append, strOf_toNat]

end Go.Proofs.YtipccndoffcfiaaDoor.Script
