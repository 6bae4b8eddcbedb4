/- The digits of bytes, plainly; what script.Hex and the document's Hex come to; they are read again. -/
import Derived.Test.YtipccndoffcfiaaDoorScriptHexL
import Derived.Test.YtipccndoffcfiaaDoorPHexx1
namespace Go.Proofs.YtipccndoffcfiaaDoor.Script
open Go.RowKit Go.IntWalk Go.Proofs.YtipccndoffcfiaaDoor.PHex Go.Proofs.YtipccndoffcfiaaDoorW.PrintWords Go.Proofs.YtipccndoffcfiaaDoorW.PrintLast Go.Proofs.YtipccndoffcfiaaDoorW.PrintMore Go.Proofs.YtipccndoffcfiaaDoor.Rounds
set_option linter.unusedVariables false
def hdig (n : Nat) : UInt8 := digL.getD n 0
def hexL (l : List UInt8) : List UInt8 := l.flatMap fun b => [hdig (b.toNat / 16), hdig (b.toNat % 16)]
/-- Bytes' digits. -/
def hexP (s : ByteArray) : ByteArray := if s.data.toList = [] then ⟨#[45]⟩ else ⟨(hexL s.data.toList).toArray⟩
structure Digs (c : UInt8) : Prop where
  a0 : 0 ≤ Int.tdiv (c.toNat : Int) 16 % 256
  a1 : Int.tdiv (c.toNat : Int) 16 % 256 < 16
  b0 : 0 ≤ Int.tmod (c.toNat : Int) 16
  b1 : Int.tmod (c.toNat : Int) 16 < 16
  a : bt digB (Int.tdiv (c.toNat : Int) 16 % 256) = ((hdig (c.toNat / 16)).toNat : Int)
  b : bt digB (Int.tmod (c.toNat : Int) 16) = ((hdig (c.toNat % 16)).toNat : Int)
  va : hexv (hdig (c.toNat / 16)) = some (c.toNat / 16)
  vb : hexv (hdig (c.toNat % 16)) = some (c.toNat % 16)
theorem digs (c : UInt8) : Digs c := by
  have h := byte_all (fun c => decide (0 ≤ Int.tdiv (c.toNat : Int) 16 % 256 ∧ Int.tdiv (c.toNat : Int) 16 % 256 < 16 ∧ 0 ≤ Int.tmod (c.toNat : Int) 16 ∧ Int.tmod (c.toNat : Int) 16 < 16 ∧ bt digB (Int.tdiv (c.toNat : Int) 16 % 256) = ((hdig (c.toNat / 16)).toNat : Int) ∧ bt digB (Int.tmod (c.toNat : Int) 16) = ((hdig (c.toNat % 16)).toNat : Int) ∧ hexv (hdig (c.toNat / 16)) = some (c.toNat / 16) ∧ hexv (hdig (c.toNat % 16)) = some (c.toNat % 16))) (by kernel_rfl) c
  obtain ⟨h1, h2, h3, h4, h5, h6, h7, h8⟩ := of_decide_eq_true h
  exact ⟨h1, h2, h3, h4, h5, h6, h7, h8⟩
theorem hexL_cons (b : UInt8) (l : List UInt8) : hexL (b :: l) = hdig (b.toNat / 16) :: hdig (b.toNat % 16) :: hexL l := by simp [hexL]
theorem hexL_len (l : List UInt8) : (hexL l).length = 2 * l.length := by
  induction l with
  | nil => rfl
  | cons b l ih => rw [hexL_cons]; simp [ih]; omega
theorem pairs_hex (l : List UInt8) : pairs (hexL l) = some l := by
  induction l with
  | nil => rfl
  | cons b l ih =>
    rw [hexL_cons, pairs, (digs b).va, (digs b).vb, ih]
    have e : 16 * (b.toNat / 16) + b.toNat % 16 = b.toNat := by omega
    simp [e]
/-- What is written is read again. -/
theorem bytes_hex (s : ByteArray) : bytesP (hexP s) = some s := by
  unfold hexP
  by_cases h : s.data.toList = []
  · rw [if_pos h]
    have e : s = ⟨#[]⟩ := ByteArray.ext (by simpa using h)
    rw [e]
    rfl
  · rw [if_neg h]
    have hl := hexL_len s.data.toList
    have hp : 0 < s.data.toList.length := List.length_pos_iff.2 h
    unfold bytesP bytesL
    show ((if hexL s.data.toList = [45] then some [] else if hexL s.data.toList = [] ∨ (hexL s.data.toList).length % 2 ≠ 0 then none else pairs (hexL s.data.toList)).map fun l => (⟨l.toArray⟩ : ByteArray)) = some s
    have n1 : ¬ hexL s.data.toList = [45] := by
      intro e
      rw [e] at hl
      simp only [List.length_singleton] at hl
      omega
    have n2 : ¬ (hexL s.data.toList = [] ∨ (hexL s.data.toList).length % 2 ≠ 0) := by
      intro e
      rcases e with e | e
      · rw [e] at hl
        simp only [List.length_nil] at hl
        omega
      · omega
    rw [if_neg n1, if_neg n2, pairs_hex]
    rfl
theorem prog_hexloop (s : ByteArray) (hs : s.size ≤ 1000000) : ∀ (d i : Nat) (out : List Int), i + d = s.size → out.length ≤ 2 * i → At (fun k => script_Hex.l0 k s out (s.size : Int) (i : Int)) (strOfNums (out ++ (hexL (s.data.toList.drop i)).map fun b => (b.toNat : Int))) := by
  intro d
  induction d with
  | zero =>
    intro i out hi ho
    rw [List.drop_of_length_le (by rw [size_toList]; omega)]
    refine To.step fun k => ?_
    simp only [script_Hex.l0]
    rw [if_neg (by omega)]
    simp [hexL]
  | succ d ih =>
    intro i out hi ho
    have h1 : i < s.data.toList.length := by rw [size_toList]; omega
    rw [List.drop_eq_getElem_cons h1, hexL_cons]
    have b1 := bt_nat s i h1
    have w2 : wrap64 ((i : Int) + 1) = ((i + 1 : Nat) : Int) := by rw [wrap64_in _ (by omega)]; omega
    generalize s.data.toList[i] = p at b1 ⊢
    have D := digs p
    refine To.step_trans (h := fun k => script_Hex.l0 k s (out ++ [((hdig (p.toNat / 16)).toNat : Int), ((hdig (p.toNat % 16)).toNat : Int)]) (s.size : Int) ((i + 1 : Nat) : Int)) (fun k => ?_) ?_
    · simp only [script_Hex.l0]
      rw [if_pos (by omega), if_pos (by omega), if_pos (by omega), b1, if_pos D.a0, if_pos D.a1, if_pos D.b0, if_pos D.b1, show (⟨#[48, 49, 50, 51, 52, 53, 54, 55, 56, 57, 97, 98, 99, 100, 101, 102]⟩ : ByteArray) = digB from rfl, D.a, D.b, Option.bind_some, if_pos (by simp; omega), w2]
    · refine Eq.mp (congrArg (At _) ?_) (ih (i + 1) _ (by omega) (by simp; omega))
      simp
theorem prog_hex (s : ByteArray) (hs : s.size ≤ 1000000) : At (fun k => script_Hex.f k s) (hexP s) := by
  have e0 : s.toList = s.data.toList := ByteArray.toList_eq ..
  by_cases h : s.data.toList = []
  · refine To.eq fun k => ?_
    unfold script_Hex.f hexP
    rw [e0, if_pos h, if_pos h]
  · have := prog_hexloop s hs s.size 0 [] (by omega) (by simp)
    refine (To.eq fun k => ?_).trans (h := fun k => script_Hex.l0 k s [] (s.size : Int) 0) (Eq.mp (congrArg (At _) ?_) this)
    · unfold script_Hex.f
      rw [e0, if_neg h]
    · rw [List.drop_zero, List.nil_append, strOf_toNat]
      unfold hexP
      rw [if_neg h]
theorem ref_hexloop (s : ByteArray) (hs : s.size ≤ 1000000) : ∀ (d i : Nat) (out : List Int), i + d = s.size → out.length ≤ 2 * i → At (fun k => cortegeref27_Hex.l0 k s out (i : Int)) (strOfNums (out ++ (hexL (s.data.toList.drop i)).map fun b => (b.toNat : Int))) := by
  intro d
  induction d with
  | zero =>
    intro i out hi ho
    rw [List.drop_of_length_le (by rw [size_toList]; omega)]
    refine To.step fun k => ?_
    simp only [cortegeref27_Hex.l0]
    rw [if_neg (by omega)]
    simp [hexL]
  | succ d ih =>
    intro i out hi ho
    have h1 : i < s.data.toList.length := by rw [size_toList]; omega
    rw [List.drop_eq_getElem_cons h1, hexL_cons]
    have b1 := bt_nat s i h1
    have w2 : wrap64 ((i : Int) + 1) = ((i + 1 : Nat) : Int) := by rw [wrap64_in _ (by omega)]; omega
    generalize s.data.toList[i] = p at b1 ⊢
    have D := digs p
    refine To.step_trans (h := fun k => cortegeref27_Hex.l0 k s (out ++ [((hdig (p.toNat / 16)).toNat : Int), ((hdig (p.toNat % 16)).toNat : Int)]) ((i + 1 : Nat) : Int)) (fun k => ?_) ?_
    · simp only [cortegeref27_Hex.l0]
      rw [if_pos (by omega), if_pos (by omega), b1, if_pos D.a0, if_pos D.a1, if_pos D.b0, if_pos D.b1, show (⟨#[48, 49, 50, 51, 52, 53, 54, 55, 56, 57, 97, 98, 99, 100, 101, 102]⟩ : ByteArray) = digB from rfl, D.a, D.b, Option.bind_some, if_pos (by simp; omega), w2]
    · refine Eq.mp (congrArg (At _) ?_) (ih (i + 1) _ (by omega) (by simp; omega))
      simp
theorem ref_hex (s : ByteArray) (hs : s.size ≤ 1000000) : At (fun k => cortegeref27_Hex.f k s) (hexP s) := by
  have e0 : s.toList = s.data.toList := ByteArray.toList_eq ..
  by_cases h : s.data.toList = []
  · refine To.eq fun k => ?_
    unfold cortegeref27_Hex.f hexP
    rw [e0, if_pos h, if_pos h]
  · have := ref_hexloop s hs s.size 0 [] (by omega) (by simp)
    refine (To.eq fun k => ?_).trans (h := fun k => cortegeref27_Hex.l0 k s [] 0) (Eq.mp (congrArg (At _) ?_) this)
    · unfold cortegeref27_Hex.f
      rw [e0, if_neg h]
    · rw [List.drop_zero, List.nil_append, strOf_toNat]
      unfold hexP
      rw [if_neg h]
theorem hex_calls (s : ByteArray) (hs : s.size ≤ 1000000) (w : World) : Calls Tryd.prog 10 #[.string s] w fun e w' => e = .returned (.string (hexP s)) ∧ Below w.heap.size w w' := by
  obtain ⟨k, m, hk⟩ := prog_hex s hs
  exact script_Hex.calls (m + k) s _ w (hk m (Nat.le_refl m))
theorem refhex_calls (s : ByteArray) (hs : s.size ≤ 1000000) (w : World) : Calls Tryd.prog 13 #[.string s] w fun e w' => e = .returned (.string (hexP s)) ∧ Below w.heap.size w w' := by
  obtain ⟨k, m, hk⟩ := ref_hex s hs
  exact cortegeref27_Hex.calls (m + k) s _ w (hk m (Nat.le_refl m))
end Go.Proofs.YtipccndoffcfiaaDoor.Script
