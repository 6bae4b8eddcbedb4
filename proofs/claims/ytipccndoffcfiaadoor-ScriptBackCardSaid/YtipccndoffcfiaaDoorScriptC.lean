/- The digits of bytes, plainly; what script.Hex and the document's Hex come to; they are read again. -/
import Derived.Test.YtipccndoffcfiaaDoorScriptB
import Derived.Test.YtipccndoffcfiaaDoorPHexx1
import Derived.Test.YtipccndoffcfiaaDoorPRefx2
section
namespace Go.Proofs.YtipccndoffcfiaaDoor.Script
open Go.RowKit Go.IntWalk Go.Proofs.YtipccndoffcfiaaDoor.PHex Go.Proofs.YtipccndoffcfiaaDoorW.PrintWords Go.Proofs.YtipccndoffcfiaaDoorW.PrintLast Go.Proofs.YtipccndoffcfiaaDoorW.PrintMore Go.Proofs.YtipccndoffcfiaaDoor.Rounds
set_option linter.unusedVariables false
def hdig (n : Nat) : UInt8 := digL.getD n 0
def hexL (l : List UInt8) : List UInt8 := l.flatMap fun b => [hdig (b.toNat / 16), hdig (b.toNat % 16)]
/-- Bytes' digits. -/
def hexP (s : ByteArray) : ByteArray := if s.data.toList = [] then ⟨#[45]⟩ else ⟨(hexL s.data.toList).toArray⟩
structure Digs (c : UInt8) : Prop where
  a0 : 0 ≤ Int.tdiv (c.toNat : Int) 16 % 256
  a1 : Int.tdiv (c.toNat : Int) 16 % 256 < 16
  b0 : 0 ≤ Int.tmod (c.toNat : Int) 16
  b1 : Int.tmod (c.toNat : Int) 16 < 16
  a : bt digB (Int.tdiv (c.toNat : Int) 16 % 256) = ((hdig (c.toNat / 16)).toNat : Int)
  b : bt digB (Int.tmod (c.toNat : Int) 16) = ((hdig (c.toNat % 16)).toNat : Int)
  va : hexv (hdig (c.toNat / 16)) = some (c.toNat / 16)
  vb : hexv (hdig (c.toNat % 16)) = some (c.toNat % 16)
theorem digs (c : UInt8) : Digs c := by
  have h := byte_all (fun c => decide (0 ≤ Int.tdiv (c.toNat : Int) 16 % 256 ∧ Int.tdiv (c.toNat : Int) 16 % 256 < 16 ∧ 0 ≤ Int.tmod (c.toNat : Int) 16 ∧ Int.tmod (c.toNat : Int) 16 < 16 ∧ bt digB (Int.tdiv (c.toNat : Int) 16 % 256) = ((hdig (c.toNat / 16)).toNat : Int) ∧ bt digB (Int.tmod (c.toNat : Int) 16) = ((hdig (c.toNat % 16)).toNat : Int) ∧ hexv (hdig (c.toNat / 16)) = some (c.toNat / 16) ∧ hexv (hdig (c.toNat % 16)) = some (c.toNat % 16))) (by kernel_rfl) c
  obtain ⟨h1, h2, h3, h4, h5, h6, h7, h8⟩ := of_decide_eq_true h
  exact ⟨h1, h2, h3, h4, h5, h6, h7, h8⟩
theorem hexL_cons (b : UInt8) (l : List UInt8) : hexL (b :: l) = hdig (b.toNat / 16) :: hdig (b.toNat % 16) :: hexL l := by simp [hexL]
theorem hexL_len (l : List UInt8) : (hexL l).length = 2 * l.length := by
  induction l with
  | nil => rfl
  | cons b l ih => rw [hexL_cons]; simp [ih]; omega
theorem pairs_hex (l : List UInt8) : pairs (hexL l) = some l := by
  induction l with
  | nil => rfl
  | cons b l ih =>
    rw [hexL_cons, pairs, (digs b).va, (digs b).vb, ih]
    have e : 16 * (b.toNat / 16) + b.toNat % 16 = b.toNat := by omega
    simp [e]
/-- What is written is read again. -/
theorem bytes_hex (s : ByteArray) : bytesP (hexP s) = some s := by
  unfold hexP
  by_cases h : s.data.toList = []
  · rw [if_pos h]
    have e : s = ⟨#[]⟩ := ByteArray.ext (by simpa using h)
    rw [e]
    rfl
  · rw [if_neg h]
    have hl := hexL_len s.data.toList
    have hp : 0 < s.data.toList.length := List.length_pos_iff.2 h
    unfold bytesP bytesL
    show ((if hexL s.data.toList = [45] then some [] else if hexL s.data.toList = [] ∨ (hexL s.data.toList).length % 2 ≠ 0 then none else pairs (hexL s.data.toList)).map fun l => (⟨l.toArray⟩ : ByteArray)) = some s
    have n1 : ¬ hexL s.data.toList = [45] := by
      intro e
      rw [e] at hl
      simp only [List.length_singleton] at hl
      omega
    have n2 : ¬ (hexL s.data.toList = [] ∨ (hexL s.data.toList).length % 2 ≠ 0) := by
      intro e
      rcases e with e | e
      · rw [e] at hl
        simp only [List.length_nil] at hl
        omega
      · omega
    rw [if_neg n1, if_neg n2, pairs_hex]
    rfl
theorem prog_hexloop (s : ByteArray) (hs : s.size ≤ 1000000) : ∀ (d i : Nat) (out : List Int), i + d = s.size → out.length ≤ 2 * i → At (fun k => script_Hex.l0 k s out (s.size : Int) (i : Int)) (strOfNums (out ++ (hexL (s.data.toList.drop i)).map fun b => (b.toNat : Int))) := by
  intro d
  induction d with
  | zero =>
    intro i out hi ho
    rw [List.drop_of_length_le (by rw [size_toList]; omega)]
    refine To.step fun k => ?_
    simp only [script_Hex.l0]
    rw [if_neg (by omega)]
    simp [hexL]
  | succ d ih =>
    intro i out hi ho
    have h1 : i < s.data.toList.length := by rw [size_toList]; omega
    rw [List.drop_eq_getElem_cons h1, hexL_cons]
    have b1 := bt_nat s i h1
    have w2 : wrap64 ((i : Int) + 1) = ((i + 1 : Nat) : Int) := by rw [wrap64_in _ (by omega)]; omega
    generalize s.data.toList[i] = p at b1 ⊢
    have D := digs p
    refine To.step_trans (h := fun k => script_Hex.l0 k s (out ++ [((hdig (p.toNat / 16)).toNat : Int), ((hdig (p.toNat % 16)).toNat : Int)]) (s.size : Int) ((i + 1 : Nat) : Int)) (fun k => ?_) ?_
    · simp only [script_Hex.l0]
      rw [if_pos (by omega), if_pos (by omega), if_pos (by omega), b1, if_pos D.a0, if_pos D.a1, if_pos D.b0, if_pos D.b1, show (⟨#[48, 49, 50, 51, 52, 53, 54, 55, 56, 57, 97, 98, 99, 100, 101, 102]⟩ : ByteArray) = digB from rfl, D.a, D.b, Option.bind_some, if_pos (by simp; omega), w2]
    · refine Eq.mp (congrArg (At _) ?_) (ih (i + 1) _ (by omega) (by simp; omega))
      simp
theorem prog_hex (s : ByteArray) (hs : s.size ≤ 1000000) : At (fun k => script_Hex.f k s) (hexP s) := by
  have e0 : s.toList = s.data.toList := ByteArray.toList_eq ..
  by_cases h : s.data.toList = []
  · refine To.eq fun k => ?_
    unfold script_Hex.f hexP
    rw [e0, if_pos h, if_pos h]
  · have := prog_hexloop s hs s.size 0 [] (by omega) (by simp)
    refine (To.eq fun k => ?_).trans (h := fun k => script_Hex.l0 k s [] (s.size : Int) 0) (Eq.mp (congrArg (At _) ?_) this)
    · unfold script_Hex.f
      rw [e0, if_neg h]
    · rw [List.drop_zero, List.nil_append, strOf_toNat]
      unfold hexP
      rw [if_neg h]
theorem ref_hexloop (s : ByteArray) (hs : s.size ≤ 1000000) : ∀ (d i : Nat) (out : List Int), i + d = s.size → out.length ≤ 2 * i → At (fun k => cortegeref27_Hex.l0 k s out (i : Int)) (strOfNums (out ++ (hexL (s.data.toList.drop i)).map fun b => (b.toNat : Int))) := by
  intro d
  induction d with
  | zero =>
    intro i out hi ho
    rw [List.drop_of_length_le (by rw [size_toList]; omega)]
    refine To.step fun k => ?_
    simp only [cortegeref27_Hex.l0]
    rw [if_neg (by omega)]
    simp [hexL]
  | succ d ih =>
    intro i out hi ho
    have h1 : i < s.data.toList.length := by rw [size_toList]; omega
    rw [List.drop_eq_getElem_cons h1, hexL_cons]
    have b1 := bt_nat s i h1
    have w2 : wrap64 ((i : Int) + 1) = ((i + 1 : Nat) : Int) := by rw [wrap64_in _ (by omega)]; omega
    generalize s.data.toList[i] = p at b1 ⊢
    have D := digs p
    refine To.step_trans (h := fun k => cortegeref27_Hex.l0 k s (out ++ [((hdig (p.toNat / 16)).toNat : Int), ((hdig (p.toNat % 16)).toNat : Int)]) ((i + 1 : Nat) : Int)) (fun k => ?_) ?_
    · simp only [cortegeref27_Hex.l0]
      rw [if_pos (by omega), if_pos (by omega), b1, if_pos D.a0, if_pos D.a1, if_pos D.b0, if_pos D.b1, show (⟨#[48, 49, 50, 51, 52, 53, 54, 55, 56, 57, 97, 98, 99, 100, 101, 102]⟩ : ByteArray) = digB from rfl, D.a, D.b, Option.bind_some, if_pos (by simp; omega), w2]
    · refine Eq.mp (congrArg (At _) ?_) (ih (i + 1) _ (by omega) (by simp; omega))
      simp
theorem ref_hex (s : ByteArray) (hs : s.size ≤ 1000000) : At (fun k => cortegeref27_Hex.f k s) (hexP s) := by
  have e0 : s.toList = s.data.toList := ByteArray.toList_eq ..
  by_cases h : s.data.toList = []
  · refine To.eq fun k => ?_
    unfold cortegeref27_Hex.f hexP
    rw [e0, if_pos h, if_pos h]
  · have := ref_hexloop s hs s.size 0 [] (by omega) (by simp)
    refine (To.eq fun k => ?_).trans (h := fun k => cortegeref27_Hex.l0 k s [] 0) (Eq.mp (congrArg (At _) ?_) this)
    · unfold cortegeref27_Hex.f
      rw [e0, if_neg h]
    · rw [List.drop_zero, List.nil_append, strOf_toNat]
      unfold hexP
      rw [if_neg h]
theorem hex_calls (s : ByteArray) (hs : s.size ≤ 1000000) (w : World) : Calls Tryd.prog 10 #[.string s] w fun e w' => e = .returned (.string (hexP s)) ∧ Below w.heap.size w w' := by
  obtain ⟨k, m, hk⟩ := prog_hex s hs
  exact script_Hex.calls (m + k) s _ w (hk m (Nat.le_refl m))
theorem refhex_calls (s : ByteArray) (hs : s.size ≤ 1000000) (w : World) : Calls Tryd.prog 13 #[.string s] w fun e w' => e = .returned (.string (hexP s)) ∧ Below w.heap.size w w' := by
  obtain ⟨k, m, hk⟩ := ref_hex s hs
  exact cortegeref27_Hex.calls (m + k) s _ w (hk m (Nat.le_refl m))
end Go.Proofs.YtipccndoffcfiaaDoor.Script
end

section
namespace Go.Proofs.YtipccndoffcfiaaDoor.Script
open Go.RowKit Go.Proofs.YtipccndoffcfiaaDoor.PRef
set_option maxRecDepth 100000 in
theorem awake_one : parseP ⟨#[115, 101, 116, 32, 49, 32, 50, 32, 51, 32, 52, 32, 53, 10, 101, 118, 32, 50, 32, 57, 10, 97, 115, 107, 32, 48, 102, 10]⟩ = ([1, 2, 3, 4, 5], [⟨2, 9, ⟨#[]⟩⟩, ⟨1, 0, ⟨#[15]⟩⟩], 0, 0) := by kernel_rfl
set_option maxRecDepth 100000 in
theorem awake_two : parseP ⟨#[101, 118, 32, 50, 32, 49, 10, 101, 118, 32, 49, 32, 48]⟩ = ([0, 0, 0, 0, 0], [], 2, 10) := by kernel_rfl
theorem awake_hex : hexP ⟨#[15, 122]⟩ = ⟨#[48, 102, 55, 97]⟩ := by kernel_rfl
end Go.Proofs.YtipccndoffcfiaaDoor.Script
end

section
namespace Go.Proofs.YtipccndoffcfiaaDoor.Script
open Go.RowKit Go.Proofs.YtipccndoffcfiaaDoor.PRef Go.Proofs.YtipccndoffcfiaaDoorW.PrintWords Go.Proofs.YtipccndoffcfiaaDoorW.PrintLast Go.Proofs.YtipccndoffcfiaaDoor.Rounds
attribute [local go_sem] Oper.semAt_some
set_option linter.unusedVariables false
set_option linter.unusedSimpArgs false
def text1 : ByteArray := ⟨#[115, 101, 116, 32, 49, 32, 50, 32, 51, 32, 52, 32, 53, 10, 101, 118, 32, 50, 32, 57, 10, 97, 115, 107, 32, 48, 102, 10]⟩
def text2 : ByteArray := ⟨#[101, 118, 32, 50, 32, 49, 10, 101, 118, 32, 49, 32, 48]⟩
def evs : List S47 := [⟨2, 9, ⟨#[]⟩⟩, ⟨1, 0, ⟨#[15]⟩⟩]
theorem awake_first (w : World) (he : Env w) : Calls Tryd.prog 14 #[.string text1] w fun e w' =>
    ∃ (A : Option Addr) (c : Nat), e = .returned (.tuple #[.agg #[.int .i64 1, .int .i64 2, .int .i64 3, .int .i64 4, .int .i64 5], .slice A 2 c, .int .i64 0, .int .i64 0]) ∧ 2 ≤ c ∧ Kd.C k47 w' A 2 evs ∧ Below w.heap.size w w' := by
  refine (parse_calls text1 w (by decide) he).mono ?_
  rw [show parseP text1 = _ from awake_one]
  rintro e w' ⟨esv, rfl, ⟨base, hb0, hr⟩, hb⟩
  obtain ⟨A, c, rfl⟩ := Kd.R_slice hr
  have h := Kd.R_reads' hr
  exact ⟨A, c, rfl, h.2.1, h.2.2, hb⟩
theorem awake_second (w : World) (he : Env w) : Calls Tryd.prog 14 #[.string text2] w fun e w' =>
    ∃ (v : Value), e = .returned (.tuple #[.agg #[.int .i64 0, .int .i64 0, .int .i64 0, .int .i64 0, .int .i64 0], v, .int .i64 2, .int .i64 10]) ∧ Below w.heap.size w w' := by
  refine (parse_calls text2 w (by decide) he).mono ?_
  rw [show parseP text2 = _ from awake_two]
  rintro e w' ⟨esv, rfl, _, hb⟩
  exact ⟨esv, rfl, hb⟩
theorem same_evs : cortegelaw0_SameEvents.f 10 evs evs = some true := by kernel_rfl
theorem evs_alloc (w : World) : Kd.C k47 (w.alloc (.cells #[.int .i64 2, .int .i64 9, .string ⟨#[]⟩, .int .i64 1, .int .i64 0, .string ⟨#[15]⟩] 47)) (some ⟨w.heap.size, 0, none⟩) 2 evs := by
  have hb := ptrs_alloc w 0 47 [.int .i64 2, .int .i64 9, .string ⟨#[]⟩, .int .i64 1, .int .i64 0, .string ⟨#[15]⟩]
  have c0 := hb.cell 0 (by simp)
  have c1 := hb.cell 1 (by simp)
  have c2 := hb.cell 2 (by simp)
  have c3 := hb.cell 3 (by simp)
  have c4 := hb.cell 4 (by simp)
  have c5 := hb.cell 5 (by simp)
  refine ⟨rfl, by omega, fun _ => ⟨_, rfl, fun j p hj => ?_⟩⟩
  match j, hj with
  | 0, hj =>
    cases hj
    refine ⟨_, rfl, k47_mk _ ⟨2, 9, ⟨#[]⟩⟩, fun i u hu => ?_⟩
    match i, hu with
    | 0, hu => cases hu; exact c0
    | 1, hu => cases hu; exact c1
    | 2, hu => cases hu; exact c2
    | i + 3, hu => simp at hu
  | 1, hj =>
    cases hj
    refine ⟨_, rfl, k47_mk _ ⟨1, 0, ⟨#[15]⟩⟩, fun i u hu => ?_⟩
    match i, hu with
    | 0, hu => cases hu; exact c3
    | 1, hu => cases hu; exact c4
    | 2, hu => cases hu; exact c5
    | i + 3, hu => simp at hu
  | j + 2, hj => simp [evs] at hj
theorem awake_hexc (w : World) : Calls Tryd.prog 10 #[.string ⟨#[15, 122]⟩] w fun e w' => e = .returned (.string ⟨#[48, 102, 55, 97]⟩) ∧ Below w.heap.size w w' := by
  have := hex_calls ⟨#[15, 122]⟩ (by decide) w
  rwa [awake_hex] at this
theorem awake_below {w w3 w5 : World} {o : Obj} {nd : Nat} (h3 : Below w.heap.size w w3) (h5 : Below ((w3.alloc o).drewN nd).heap.size ((w3.alloc o).drewN nd) w5) : Below w.heap.size w w5 := by
  have h4 : Below w3.heap.size w3 ((w3.alloc o).drewN nd) := (below_push w3 o).trans ⟨rfl, rfl, rfl, Nat.le_refl _, fun _ _ => rfl⟩
  have hs := h3.size
  have hs4 := h4.size
  exact h3.trans ((h4.mono hs).trans (h5.mono (by omega)))
def W1 (w : World) : World := w.alloc (.cells #[.int .i64 1, .int .i64 2, .int .i64 3, .int .i64 4, .int .i64 5] 28)
set_option maxHeartbeats 4000000 in
set_option maxRecDepth 100000 in
theorem awake_calls (w : World) (he : Env w) : Calls Tryd.prog 9 #[] w fun e w' => e = .returned (.bool true) ∧ Below w.heap.size w w' := by
  go_enter Tryd.func9, Tryd.ntmps9
  go_wp2_with fail
  refine (awake_first _ he).mono ?_
  rintro e w1 ⟨A, c, rfl, hc, hC, hb1⟩
  have he1 := he.below hb1
  have HC := Lib.hid hC
  have HB1 := Lib.hid hb1
  clear hC hb1 he
  go_wp2_with fail
  refine (awake_second _ (he1.below (below_push w1 _))).mono ?_
  rintro e w2 ⟨v, rfl, hb2⟩
  have hblk := ((ptrs_alloc w1 0 28 [.int .i64 1, .int .i64 2, .int .i64 3, .int .i64 4, .int .i64 5]).below hb2).below (below_push w2 (.cells #[.int .i64 0, .int .i64 0, .int .i64 0, .int .i64 0, .int .i64 0] 28))
  have k0 := hblk.cell 0 (by simp)
  have k1 := hblk.cell 1 (by simp)
  have k2 := hblk.cell 2 (by simp)
  have k3 := hblk.cell 3 (by simp)
  have k4 := hblk.cell 4 (by simp)
  simp only [List.getElem_cons_zero, List.getElem_cons_succ] at k0 k1 k2 k3 k4
  have hb12 : Below w1.heap.size w1 (w2.alloc (.cells #[.int .i64 0, .int .i64 0, .int .i64 0, .int .i64 0, .int .i64 0] 28)) := (below_push w1 _).trans ((hb2.mono (by simp)).trans ((below_push w2 _).mono (by have := hb2.size; simp at this; omega)))
  have HB3 := Lib.hid (HB1.out.trans (hb12.mono (by have := HB1.out.size; omega)))
  have HC3 := Lib.hid (Kd.C_below HC.out hb12)
  clear hb2 hblk hb12 he1 HC HB1
  have hE := evs_alloc (w2.alloc (.cells #[.int .i64 0, .int .i64 0, .int .i64 0, .int .i64 0, .int .i64 0] 28))
  rw [show (w2.alloc (.cells #[.int .i64 0, .int .i64 0, .int .i64 0, .int .i64 0, .int .i64 0] 28)).heap.size = w2.heap.size + 1 by simp] at hE
  have HE := Lib.hid hE
  clear hE
  go_wp2_with fail
  refine (cortegelaw0_SameEvents.calls 10 A c evs (some ⟨w2.heap.size + 1, 0, none⟩) 2 evs true _ (Kd.C_below HC3.out (below_push _ _)) hc HE.out (Nat.le_refl _) same_evs).mono ?_
  rintro e w4 ⟨rfl, ⟨nd, rfl⟩⟩
  go_wp2_with fail
  refine (awake_hexc _).mono ?_
  rintro e w5 ⟨rfl, hb5⟩
  have HB5 := Lib.hid hb5
  clear hb5
  go_wp2_with fail
  go_ret
  exact ⟨rfl, awake_below HB3.out HB5.out⟩
end Go.Proofs.YtipccndoffcfiaaDoor.Script
end

section
namespace Go.Proofs.YtipccndoffcfiaaDoor.Script
open Go.RowKit Go.Proofs.YtipccndoffcfiaaDoor.PRef Go.Proofs.YtipccndoffcfiaaDoorW.PrintWords Go.Proofs.YtipccndoffcfiaaDoorW.PrintLast Go.Proofs.YtipccndoffcfiaaDoor.Rounds
attribute [local go_sem] Oper.semAt_some
set_option linter.unusedVariables false
set_option linter.unusedSimpArgs false
theorem refbytes_calls (s : ByteArray) (hs : s.size ≤ 1000000) (w : World) : Calls Tryd.prog 12 #[.string s] w fun e w' => e = .returned (.tuple #[.string ((bytesP s).getD ⟨#[]⟩), .bool (bytesP s).isSome]) ∧ Below w.heap.size w w' := by
  obtain ⟨k, m, hk⟩ := ref_bytes s hs
  exact cortegeref27_Bytes.calls (m + k) s _ _ w (hk m (Nat.le_refl m))
theorem hexP_size (s : ByteArray) : (hexP s).size ≤ 2 * s.size + 1 := by
  unfold hexP
  split
  · show 1 ≤ _
    omega
  · show ((hexL s.data.toList).toArray).size ≤ _
    have := hexL_len s.data.toList
    have h2 := size_toList s
    simp only [List.size_toArray]
    omega
theorem then_below {w w1 w2 : World} (h1 : Below w.heap.size w w1) (h2 : Below w1.heap.size w1 w2) : Below w.heap.size w w2 := h1.trans (h2.mono h1.size)
set_option maxHeartbeats 4000000 in
set_option maxRecDepth 100000 in
theorem hex_law (b s : ByteArray) (w : World) (he : Env w) : Calls Tryd.prog 3 #[.string b, .string s] w fun e w' => e = .returned (.bool true) ∧ Below w.heap.size w w' := by
  by_cases h1 : (500 : Int) < (b.size : Int)
  · have d1 : decide ((500 : Int) < (b.size : Int)) = true := decide_eq_true h1
    go_enter Tryd.func3, Tryd.ntmps3
    go_wp2_with fail
    refine (awake_calls _ he).mono ?_
    rintro e w1 ⟨rfl, hb⟩
    go_wp2_with fail
    go_ret
    exact ⟨rfl, hb⟩
  · have d1 : decide ((500 : Int) < (b.size : Int)) = false := decide_eq_false h1
    by_cases h2 : (500 : Int) < (s.size : Int)
    · have d2 : decide ((500 : Int) < (s.size : Int)) = true := decide_eq_true h2
      go_enter Tryd.func3, Tryd.ntmps3
      go_wp2_with fail
      refine (awake_calls _ he).mono ?_
      rintro e w1 ⟨rfl, hb⟩
      go_wp2_with fail
      go_ret
      exact ⟨rfl, hb⟩
    · have d2 : decide ((500 : Int) < (s.size : Int)) = false := decide_eq_false h2
      have hs1 : b.size ≤ 1000000 := by omega
      have hs2 : s.size ≤ 1000000 := by omega
      have hs3 : (hexP b).size ≤ 1000000 := by have := hexP_size b; omega
      have hbh := bytes_hex b
      have HXC := hex_calls b hs1
      have RXC := refhex_calls b hs1
      have BHC := bytes_calls (hexP b) hs3
      have BSC := bytes_calls s hs2
      have RSC := refbytes_calls s hs2
      rw [hbh] at BHC
      simp only [Option.getD_some, Option.isSome_some] at BHC
      generalize hexP b = hx at HXC RXC BHC
      generalize bytesP s = bs at BSC RSC
      have HC1 := Lib.hid HXC
      have HC2 := Lib.hid RXC
      have HC3 := Lib.hid BHC
      have HC4 := Lib.hid BSC
      have HC5 := Lib.hid RSC
      clear HXC RXC BHC BSC RSC hbh hs3
      go_enter Tryd.func3, Tryd.ntmps3
      go_wp2_with fail
      refine (HC1.out _).mono ?_
      rintro e w1 ⟨rfl, hb1⟩
      go_wp2_with fail
      refine (HC3.out _).mono ?_
      rintro e w2 ⟨rfl, hb2⟩
      replace hb2 := then_below hb1 hb2
      clear hb1
      go_wp2_with fail
      refine (HC4.out _).mono ?_
      rintro e w3 ⟨rfl, hb3⟩
      replace hb3 := then_below hb2 hb3
      clear hb2
      go_wp2_with fail
      refine (HC5.out _).mono ?_
      rintro e w4 ⟨rfl, hb4⟩
      replace hb4 := then_below hb3 hb4
      clear hb3
      go_wp2_with fail
      refine (HC2.out _).mono ?_
      rintro e w5 ⟨rfl, hb5⟩
      replace hb5 := then_below hb4 hb5
      clear hb4
      go_wp2_with fail
      refine (awake_calls _ (he.below hb5)).mono ?_
      rintro e w6 ⟨rfl, hb6⟩
      replace hb6 := then_below hb5 hb6
      clear hb5
      go_wp2_with fail
      go_ret
      exact ⟨rfl, hb6⟩
theorem hex_row (b s : ByteArray) (w : World) (_ : b.size ≤ 140737488351232) (_ : s.size ≤ 140737488351232) (he : Env w) : Calls Tryd.prog 3 #[.string b, .string s] w fun e w' => e = .returned (.bool true) ∧ Below w.heap.size w w' := hex_law b s w he
end Go.Proofs.YtipccndoffcfiaaDoor.Script
end

section
namespace Go.Proofs.YtipccndoffcfiaaDoor.Script
open Go.RowKit Go.Proofs.YtipccndoffcfiaaDoor.PRef Go.Proofs.YtipccndoffcfiaaDoorW.PrintWords Go.Proofs.YtipccndoffcfiaaDoorW.PrintLast Go.Proofs.YtipccndoffcfiaaDoor.Rounds
attribute [local go_sem] Oper.semAt_some
set_option linter.unusedVariables false
set_option linter.unusedSimpArgs false
theorem wordsP_cs {cs : List Int} {es : List S47} {l : List ByteArray} {cs' : List Int} {es' : List S47} (hc : cs.length = 5) (h : wordsP cs es l = some (cs', es')) : cs'.length = 5 := by
  match l with
  | [] => cases h
  | a :: t =>
    rw [wordsP_cons] at h
    split at h
    · obtain ⟨ns, h1, h⟩ := Option.map_eq_some_iff.1 h
      cases h
      rw [List.length_map]
      exact len5 h1.symm rfl
    · split at h
      · obtain ⟨_, _, h⟩ := Option.map_eq_some_iff.1 h
        cases h
        exact hc
      · split at h
        · obtain ⟨_, _, h⟩ := Option.map_eq_some_iff.1 h
          cases h
          exact hc
        · cases h
theorem runP_cs (k : Nat) : ∀ (cs : List Int) (es : List S47) (n : Nat) (s : ByteArray), cs.length = 5 → (runP k cs es n s).1.length = 5 := by
  induction k with
  | zero => intro cs es n s _; rfl
  | succ k ih =>
    intro cs es n s hc
    by_cases hs : s = ⟨#[]⟩
    · subst hs; rw [runP_nil]; exact hc
    · cases hw : wordsP cs es (words (one s)) with
      | none => rw [runP_bad hs hw]; rfl
      | some r => rw [runP_good hs hw]; exact ih _ _ _ _ (wordsP_cs hc hw)
theorem parseP_cs (s : ByteArray) : (parseP s).1.length = 5 := by
  unfold parseP
  split
  · rfl
  · exact runP_cs _ _ _ _ _ rfl
/-- A text that is read. -/
theorem parse_good (s : ByteArray) (w : World) (hs : s.size ≤ 100000000) (he : Env w) {cs : List Int} {es : List S47} (hp : parseP s = (cs, es, 0, 0)) : Calls Tryd.prog 14 #[.string s] w fun e w' =>
    ∃ (a0 a1 a2 a3 a4 : Int) (esv : Value), cs = [a0, a1, a2, a3, a4] ∧ e = .returned (.tuple #[.agg #[.int .i64 a0, .int .i64 a1, .int .i64 a2, .int .i64 a3, .int .i64 a4], esv, .int .i64 0, .int .i64 0]) ∧ (∃ base, w.heap.size ≤ base ∧ Kd.R k47 47 w' base (fun _ => True) esv es) ∧ Below w.heap.size w w' := by
  have hl := parseP_cs s
  refine (parse_calls s w hs he).mono ?_
  rw [hp] at hl ⊢
  rintro e w' ⟨esv, rfl, hr, hb⟩
  obtain ⟨a0, a1, a2, a3, a4, rfl⟩ := five cs hl
  exact ⟨a0, a1, a2, a3, a4, esv, rfl, rfl, hr, hb⟩
/-- A text that is refused. -/
theorem parse_bad (s : ByteArray) (w : World) (hs : s.size ≤ 100000000) (he : Env w) {m : Nat} {c : Int} (hp : parseP s = ([0, 0, 0, 0, 0], [], m, c)) : Calls Tryd.prog 14 #[.string s] w fun e w' =>
    ∃ (A : Option Addr) (cp : Nat), e = .returned (.tuple #[.agg #[.int .i64 0, .int .i64 0, .int .i64 0, .int .i64 0, .int .i64 0], .slice A 0 cp, .int .i64 (m : Int), .int .i64 c]) ∧ Below w.heap.size w w' := by
  refine (parse_calls s w hs he).mono ?_
  rw [hp]
  rintro e w' ⟨esv, rfl, ⟨base, hb0, hr⟩, hb⟩
  obtain ⟨A, cp, rfl⟩ := Kd.R_slice hr
  exact ⟨A, cp, rfl, hb⟩
theorem parts_below {w w1 w2 w3 : World} {o1 o2 : Obj} (h1 : Below w.heap.size w w1) (h2 : Below (w1.alloc o1).heap.size (w1.alloc o1) w2) (h3 : Below (w2.alloc o2).heap.size (w2.alloc o2) w3) : Below w.heap.size w w3 := by
  have p1 := then_below h1 (below_push w1 o1)
  have p2 := then_below p1 h2
  have p3 := then_below p2 (below_push w2 o2)
  exact then_below p3 h3
set_option maxHeartbeats 4000000 in
set_option maxRecDepth 100000 in
theorem parts_law (s t : ByteArray) (w : World) (he : Env w) : Calls Tryd.prog 5 #[.string s, .string t] w fun e w' => e = .returned (.bool true) ∧ Below w.heap.size w w' := by
  by_cases h1 : (10000 : Int) < (s.size : Int)
  · have d1 : decide ((10000 : Int) < (s.size : Int)) = true := decide_eq_true h1
    go_enter Tryd.func5, Tryd.ntmps5
    go_wp2_with fail
    refine (awake_calls _ he).mono ?_
    rintro e w1 ⟨rfl, hb⟩
    go_wp2_with fail
    go_ret
    exact ⟨rfl, hb⟩
  · have d1 : decide ((10000 : Int) < (s.size : Int)) = false := decide_eq_false h1
    by_cases h2 : (10000 : Int) < (t.size : Int)
    · have d2 : decide ((10000 : Int) < (t.size : Int)) = true := decide_eq_true h2
      go_enter Tryd.func5, Tryd.ntmps5
      go_wp2_with fail
      refine (awake_calls _ he).mono ?_
      rintro e w1 ⟨rfl, hb⟩
      go_wp2_with fail
      go_ret
      exact ⟨rfl, hb⟩
    · have d2 : decide ((10000 : Int) < (t.size : Int)) = false := decide_eq_false h2
      have hs1 : s.size ≤ 10000 := by omega
      have hs2 : t.size ≤ 10000 := by omega
      have hzz : (s ++ ⟨#[10]⟩ ++ t).size ≤ 100000000 := by
        rw [ByteArray.size_append, ByteArray.size_append]
        show s.size + 1 + t.size ≤ _
        omega
      rcases parts_plain s t hs1 hs2 with ⟨cs, es, hp1, hp2⟩ | ⟨m, hm1, hm2, hp1, hp2⟩
      · have G1 := parse_good s w (by omega) he hp1
        go_enter Tryd.func5, Tryd.ntmps5
        go_wp2_with fail
        refine G1.mono ?_
        rintro e w1 ⟨a0, a1, a2, a3, a4, esv, rfl, rfl, hr, hb1⟩
        have HB1 := Lib.hid hb1
        have HE1 := Lib.hid (he.below hb1)
        clear hb1 hr G1
        rcases hp2 with ⟨cs', es', hp2⟩ | ⟨m, hm1, hm2, hp2⟩
        · have G2 := fun w he => parse_good (s ++ ⟨#[10]⟩ ++ t) w hzz he hp2
          have HG2 := Lib.hid G2
          clear G2 hp1 hp2 he
          go_wp2_with fail
          refine (HG2.out _ (HE1.out.below (below_push w1 _))).mono ?_
          rintro e w2 ⟨b0, b1, b2, b3, b4, esv2, rfl, rfl, hr2, hb2⟩
          have HB2 := Lib.hid hb2
          have HE2 := Lib.hid ((HE1.out.below (below_push w1 _)).below hb2)
          clear hb2 hr2
          go_wp2_with fail
          refine (awake_calls _ (HE2.out.below (below_push w2 _))).mono ?_
          rintro e w3 ⟨rfl, hb3⟩
          have HB3 := Lib.hid hb3
          clear hb3
          go_wp2_with fail
          go_ret
          exact ⟨rfl, parts_below HB1.out HB2.out HB3.out⟩
        · have G2 := fun w he => parse_bad (s ++ ⟨#[10]⟩ ++ t) w hzz he hp2
          have HG2 := Lib.hid G2
          clear G2 hp1 hp2 he
          go_wp2_with fail
          refine (HG2.out _ (HE1.out.below (below_push w1 _))).mono ?_
          rintro e w2 ⟨A2, c2, rfl, hb2⟩
          have HB2 := Lib.hid hb2
          have HE2 := Lib.hid ((HE1.out.below (below_push w1 _)).below hb2)
          clear hb2
          have hblk := ptrs_alloc w2 0 28 [.int .i64 0, .int .i64 0, .int .i64 0, .int .i64 0, .int .i64 0]
          have k0 := hblk.cell 0 (by simp)
          have k1 := hblk.cell 1 (by simp)
          have k2 := hblk.cell 2 (by simp)
          have k3 := hblk.cell 3 (by simp)
          have k4 := hblk.cell 4 (by simp)
          simp only [List.getElem_cons_zero, List.getElem_cons_succ] at k0 k1 k2 k3 k4
          clear hblk
          have dm : decide ((0 : Int) < (m : Int)) = true := decide_eq_true (by omega)
          go_wp2_with fail
          refine (awake_calls _ (HE2.out.below (below_push w2 _))).mono ?_
          rintro e w3 ⟨rfl, hb3⟩
          have HB3 := Lib.hid hb3
          clear hb3
          go_wp2_with fail
          go_ret
          exact ⟨rfl, parts_below HB1.out HB2.out HB3.out⟩
      · have G1 := parse_bad s w (by omega) he hp1
        have hse : ¬ s = ⟨#[]⟩ := fun e => by
          rw [e] at hp1
          have h := (show parseP ⟨#[]⟩ = ([0, 0, 0, 0, 0], [], 0, 0) from rfl).symm.trans hp1
          have := congrArg (fun x => x.2.2.2) h
          simp at this
        have hsz : 0 < s.size := by
          rcases Nat.eq_zero_or_pos s.size with h0 | h0
          · exact absurd (ByteArray.ext (Array.eq_empty_of_size_eq_zero h0)) hse
          · exact h0
        have t1 : (s.toList == []) = false := tl_lit hse
        have t1d : ¬ s.toList = [] := fun e => by rw [e] at t1; exact absurd t1 (by decide)
        go_enter Tryd.func5, Tryd.ntmps5
        go_wp2_with fail
        refine G1.mono ?_
        rintro e w1 ⟨A1, c1, rfl, hb1⟩
        have HB1 := Lib.hid hb1
        have HE1 := Lib.hid (he.below hb1)
        clear hb1 G1
        have G2 := fun w he => parse_bad (s ++ ⟨#[10]⟩ ++ t) w hzz he hp2
        have HG2 := Lib.hid G2
        clear G2 hp1 hp2 he
        go_wp2_with fail
        refine (HG2.out _ (HE1.out.below (below_push w1 _))).mono ?_
        rintro e w2 ⟨A2, c2, rfl, hb2⟩
        have HB2 := Lib.hid hb2
        have HE2 := Lib.hid ((HE1.out.below (below_push w1 _)).below hb2)
        clear hb2
        go_wp2_with fail
        all_goals refine (awake_calls _ (HE2.out.below (below_push w2 _))).mono ?_
        all_goals rintro e w3 ⟨rfl, hb3⟩
        all_goals have HB3 := Lib.hid hb3
        all_goals clear hb3
        all_goals go_wp2_with fail
        all_goals go_ret
        all_goals exact ⟨rfl, parts_below HB1.out HB2.out HB3.out⟩
theorem parts_row (s t : ByteArray) (w : World) (_ : s.size ≤ 140737488351232) (_ : t.size ≤ 140737488351232) (he : Env w) : Calls Tryd.prog 5 #[.string s, .string t] w fun e w' => e = .returned (.bool true) ∧ Below w.heap.size w w' := parts_law s t w he
end Go.Proofs.YtipccndoffcfiaaDoor.Script
end
