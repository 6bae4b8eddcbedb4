/- Chapter 3's own answers, as plain functions: what they come to. -/
import Derived.Test.YthghpmnbnfbheaaRounds
import Derived.Test.YthghpmnbnfbheaaLinesMore
import Derived.Test.YthghpmnbnfbheaaPRefx6
namespace Go.Proofs.Ythghpmnbnfbheaa.LineRefs
open Go.RowKit Go.IntWalk Go.Proofs.Ythghpmnbnfbheaa.PRef Go.Proofs.YthghpmnbnfbheaaW.PrintWords Go.Proofs.YthghpmnbnfbheaaW.PrintLast Go.Proofs.YthghpmnbnfbheaaW.PrintMore Go.Proofs.Ythghpmnbnfbheaa.Rounds Go.Proofs.Ythghpmnbnfbheaa.Lines

theorem bt_nat (s : ByteArray) (i : Nat) (h : i < s.data.toList.length) : bt s (i : Int) = ((s.data.toList[i]).toNat : Int) := by
  have hs : i < s.size := by simpa using h
  unfold bt
  rw [dif_pos (by simpa using hs)]
  rfl
theorem ext_nat (s : ByteArray) (a b : Nat) : (s.extract a b).data.toList = (s.data.toList.drop a).take (b - a) := by
  simp only [ByteArray.data_extract, Array.toList_extract]
theorem bs_ext (s : ByteArray) (a b : Nat) : s.extract a b = bs ((s.data.toList.drop a).take (b - a)) := by
  apply ByteArray.ext
  apply Array.ext'
  rw [ext_nat]
  simp [bs]
theorem size_toList (s : ByteArray) : s.data.toList.length = s.size := by simp

theorem split_loop (s : ByteArray) (hs : s.size ≤ 1000000) : ∀ (d i at_ : Nat) (out : List ByteArray), i + d = s.size → at_ ≤ i → (i = s.size → at_ = i) → out.length ≤ i → (∀ c ∈ (s.data.toList.drop at_).take (i - at_), c ≠ 10) →
    At (fun k => cortegeref3_Split.l0 k s out (at_ : Int) (i : Int)) (out ++ (linesL (s.data.toList.drop at_)).map bs) := by
  intro d
  induction d with
  | zero =>
    intro i at_ out hi ha he _ _
    refine To.step fun k => ?_
    simp only [cortegeref3_Split.l0]
    rw [if_neg (by omega), he (by omega), List.drop_of_length_le (by rw [size_toList]; omega)]
    simp [linesL]
  | succ d ih =>
    intro i at_ out hi ha _ hol hno
    have hil : i < s.data.toList.length := by rw [size_toList]; omega
    have hcut : s.data.toList.drop at_ = (s.data.toList.drop at_).take (i - at_) ++ s.data.toList[i] :: s.data.toList.drop (i + 1) := by
      conv => lhs; rw [← List.take_append_drop (i - at_) (s.data.toList.drop at_)]
      rw [List.drop_drop, show at_ + (i - at_) = i by omega, List.drop_eq_getElem_cons hil]
    have hseg : (s.data.toList.drop at_).take (i + 1 - at_) = (s.data.toList.drop at_).take (i - at_) ++ [s.data.toList[i]] := by
      rw [show i + 1 - at_ = (i - at_) + 1 by omega, List.take_succ_eq_append_getElem (by rw [List.length_drop]; omega), List.getElem_drop]
      simp only [show at_ + (i - at_) = i by omega]
    by_cases h10 : s.data.toList[i] = 10
    · have hL : linesL (s.data.toList.drop at_) = ((s.data.toList.drop at_).take (i + 1 - at_)) :: linesL (s.data.toList.drop (i + 1)) := by
        rw [hseg, h10]
        conv => lhs; rw [hcut, h10]
        exact linesL_some _ _ hno
      rw [hL, List.map_cons, ← bs_ext, show out ++ s.extract at_ (i + 1) :: (linesL (s.data.toList.drop (i + 1))).map bs = (out ++ [s.extract at_ (i + 1)]) ++ (linesL (s.data.toList.drop (i + 1))).map bs by simp]
      refine To.step_trans (fun k => ?_) (ih (i + 1) (i + 1) (out ++ [s.extract at_ (i + 1)]) (by omega) (Nat.le_refl _) (fun _ => rfl) (by simp; omega) (by simp))
      simp only [cortegeref3_Split.l0]
      rw [if_pos (by omega), if_pos (by omega), bt_nat s i hil, h10, if_pos (by decide), if_pos (by omega), w1 (by omega), if_pos (by omega), if_pos (by omega), if_pos (by omega), Int.toNat_natCast, Int.toNat_natCast]
    · have hb : ¬ bt s (i : Int) = 10 := by
        rw [bt_nat s i hil]
        intro e
        exact h10 (UInt8.toNat_inj.1 (by simpa using (Int.ofNat_inj.1 e)))
      by_cases hend : i + 1 = s.size
      · have hL : linesL (s.data.toList.drop at_) = [(s.data.toList.drop at_).take (i + 1 - at_)] := by
          have hdr : s.data.toList.drop (i + 1) = [] := List.drop_of_length_le (by rw [size_toList]; omega)
          rw [hseg]
          conv => lhs; rw [hcut, hdr]
          refine linesL_none _ (by simp) fun c hc => ?_
          rcases List.mem_append.1 hc with h | h
          · exact hno c h
          · rw [List.mem_singleton] at h
            rw [h]; exact h10
        rw [hL, List.map_cons, ← bs_ext, List.map_nil]
        refine To.step_trans (fun k => ?_) (show At (fun k => cortegeref3_Split.l0 k s (out ++ [s.extract at_ (i + 1)]) ((i + 1 : Nat) : Int) ((i + 1 : Nat) : Int)) (out ++ [s.extract at_ (i + 1)]) from ?_)
        · simp only [cortegeref3_Split.l0]
          rw [if_pos (by omega), if_pos (by omega), if_neg hb, w1 (by omega), if_pos (by omega), if_pos (by omega), if_pos (by omega), if_pos (by omega), if_pos (by omega), Int.toNat_natCast, Int.toNat_natCast]
        · have := ih (i + 1) (i + 1) (out ++ [s.extract at_ (i + 1)]) (by omega) (Nat.le_refl _) (fun _ => rfl) (by simp; omega) (by simp)
          rw [List.drop_of_length_le (by rw [size_toList]; omega)] at this
          simpa [linesL] using this
      · refine To.step_trans (fun k => ?_) (ih (i + 1) at_ out (by omega) (by omega) (fun e => absurd e hend) (by omega) (fun c hc => ?_))
        · simp only [cortegeref3_Split.l0]
          rw [if_pos (by omega), if_pos (by omega), if_neg hb, w1 (by omega), if_neg (by omega)]
        · rw [hseg] at hc
          rcases List.mem_append.1 hc with h | h
          · exact hno c h
          · rw [List.mem_singleton] at h
            rw [h]; exact h10
theorem split (s : ByteArray) (hs : s.size ≤ 1000000) : At (fun k => cortegeref3_Split.f k s) (lines s) := by
  have h := split_loop s hs s.size 0 0 [] (by omega) (Nat.le_refl _) (fun e => rfl) (by simp) (by simp)
  show At (fun k => cortegeref3_Split.l0 k s ([] : List ByteArray) 0 0) (lines s)
  simpa [lines] using h
theorem few (s : ByteArray) (hs : s.size ≤ 1000000) : At (fun k => cortegeref3_Few.f k s) (decide ((lines s).length ≤ 60)) := by
  refine (split s hs).bind_at (F := fun _ t => some (decide ((t.length : Int) ≤ 60))) ?_
  have e : decide (((lines s).length : Int) ≤ 60) = decide ((lines s).length ≤ 60) := decide_eq_decide.2 (by omega)
  rw [e]
  exact At.now _

theorem nums_app (a b : List Int) : strOfNums (a ++ b) = ⟨((strOfNums a).data.toList ++ (strOfNums b).data.toList).toArray⟩ := by simp [strOfNums]
theorem nums_bytes (s : ByteArray) : (strOfNums (bytesOf s)).data.toList = s.data.toList := by
  simp only [strOfNums, bytesOf, List.map_map]
  rw [List.map_congr_left (g := id) (fun x _ => by simp)]
  simp
theorem join_loop (l : List ByteArray) (hl : l.length ≤ 1000) (hz : ∀ x ∈ l, x.size ≤ 1000) : ∀ (d i : Nat) (out : List Int), i + d = l.length → out.length ≤ i * 1000 →
    At (fun k => cortegeref3_Join.l0 k l out (i : Int)) (strOfNums (out ++ (l.drop i).flatMap bytesOf)) := by
  intro d
  induction d with
  | zero =>
    intro i out hi _
    refine To.step fun k => ?_
    simp only [cortegeref3_Join.l0]
    rw [if_neg (by omega), List.drop_of_length_le (by omega)]
    simp
  | succ d ih =>
    intro i out hi ho
    have h1 : i < l.length := by omega
    have hx := hz _ (List.getElem_mem h1)
    have hbl := bytesOf_length l[i]
    rw [List.drop_eq_getElem_cons h1, List.flatMap_cons, ← List.append_assoc]
    refine To.step_trans (fun k => ?_) (ih (i + 1) (out ++ bytesOf l[i]) (by omega) (by rw [List.length_append, hbl]; omega))
    simp only [cortegeref3_Join.l0]
    rw [if_pos (by omega), if_pos (by omega), rdOf_at _ _ h1, if_pos (by omega), w1 (by omega)]
theorem join (l : List ByteArray) (hl : l.length ≤ 1000) (hz : ∀ x ∈ l, x.size ≤ 1000) : At (fun k => cortegeref3_Join.f k l) (glue l) := by
  have h := join_loop l hl hz l.length 0 [] (by omega) (by simp)
  rw [List.drop_zero, List.nil_append] at h
  have e : strOfNums (l.flatMap bytesOf) = glue l := by
    unfold glue
    clear h hl hz
    induction l with
    | nil => rfl
    | cons x xs ih =>
      rw [List.flatMap_cons, List.flatMap_cons, nums_app, nums_bytes, ih]
  rw [e] at h
  exact h

theorem binary_loop (s : ByteArray) (hs : s.size ≤ 1000000) : ∀ (d i : Nat), i + d = s.size → At (fun k => cortegeref3_Binary.l0 k s (i : Int)) ((s.data.toList.drop i).any (· == 0)) := by
  intro d
  induction d with
  | zero =>
    intro i hi
    refine To.step fun k => ?_
    simp only [cortegeref3_Binary.l0]
    rw [if_neg (by omega), List.drop_of_length_le (by rw [size_toList]; omega)]
    rfl
  | succ d ih =>
    intro i hi
    have hil : i < s.data.toList.length := by rw [size_toList]; omega
    rw [List.drop_eq_getElem_cons hil, List.any_cons]
    by_cases h0 : s.data.toList[i] = 0
    · refine To.step fun k => ?_
      simp only [cortegeref3_Binary.l0]
      rw [if_pos (by omega), if_pos (by omega), bt_nat s i hil, h0, if_pos (by decide)]
      rfl
    · have hb : ¬ bt s (i : Int) = 0 := by
        rw [bt_nat s i hil]
        intro e
        exact h0 (UInt8.toNat_inj.1 (by simpa using (Int.ofNat_inj.1 e)))
      rw [show (s.data.toList[i] == 0) = false from beq_eq_false_iff_ne.2 h0, Bool.false_or]
      refine To.step_trans (fun k => ?_) (ih (i + 1) (by omega))
      simp only [cortegeref3_Binary.l0]
      rw [if_pos (by omega), if_pos (by omega), if_neg hb, w1 (by omega)]
theorem any_index (l : List UInt8) : l.any (· == 0) = decide (0 ≤ Go.Lib.indexByte l 0) := by
  by_cases h : Go.Lib.indexByte l 0 = -1
  · rw [h, decide_eq_false (by omega), List.any_eq_false]
    intro c hc
    obtain ⟨k, hk, rfl⟩ := List.getElem_of_mem hc
    have := Lib.indexByte_none h k
    rw [List.getElem?_eq_getElem hk] at this
    simpa using fun e => this (by rw [e])
  · have hge : 0 ≤ Go.Lib.indexByte l 0 := by
      have := Lib.indexByte_ge l 0
      omega
    obtain ⟨o, ho⟩ := Int.eq_ofNat_of_zero_le hge
    have h1 := (Lib.indexByte_some ho).1
    rw [decide_eq_true hge, List.any_eq_true]
    obtain ⟨hk, e⟩ := List.getElem?_eq_some_iff.1 h1
    exact ⟨_, List.getElem_mem hk, by rw [e]; rfl⟩
theorem binary (s : ByteArray) (hs : s.size ≤ 1000000) : At (fun k => cortegeref3_Binary.f k s) (decide (0 ≤ Go.Lib.indexByte s.data.toList 0)) := by
  have h := binary_loop s hs s.size 0 (by omega)
  rw [List.drop_zero, any_index] at h
  exact h

end Go.Proofs.Ythghpmnbnfbheaa.LineRefs
