/- The document's Split, Lines, Number and numbers come to what the program's words, lines and numbers come to: plainly. -/
import Derived.Test.YtipccndoffcfiaaDoorScriptB
import Derived.Test.YtipccndoffcfiaaDoorPRefx3
import Derived.Test.YtipccndoffcfiaaDoorScriptC
section
namespace Go.Proofs.YtipccndoffcfiaaDoor.Script
open Go.RowKit Go.IntWalk Go.Proofs.YtipccndoffcfiaaDoor.PRef Go.Proofs.YtipccndoffcfiaaDoorW.PrintWords Go.Proofs.YtipccndoffcfiaaDoorW.PrintLast Go.Proofs.YtipccndoffcfiaaDoor.Rounds
set_option linter.unusedVariables false
set_option linter.unusedSimpArgs false
/-- A text cut at each of a byte; cur: what is gathered. -/
def splitGo (c : UInt8) : List UInt8 → List UInt8 → List (List UInt8)
  | cur, [] => [cur]
  | cur, b :: l => if b = c then cur :: splitGo c [] l else splitGo c (cur ++ [b]) l
def oneC (c : UInt8) : List UInt8 → List UInt8
  | [] => []
  | b :: l => if b = c then [] else b :: oneC c l
def restC (c : UInt8) : List UInt8 → List UInt8
  | [] => []
  | b :: l => if b = c then l else restC c l
theorem oneC_10 : ∀ l : List UInt8, oneC 10 l = oneL l
  | [] => rfl
  | b :: l => by rw [oneC, oneL, oneC_10 l]
theorem restC_10 : ∀ l : List UInt8, restC 10 l = restL l
  | [] => rfl
  | b :: l => by rw [restC, restL, restC_10 l]
theorem splitGo_in (c : UInt8) : ∀ (l cur : List UInt8), c ∈ l → splitGo c cur l = (cur ++ oneC c l) :: splitGo c [] (restC c l)
  | [], cur, h => by simp at h
  | b :: l, cur, h => by
    by_cases hb : b = c
    · simp [splitGo, oneC, restC, hb]
    · have hl : c ∈ l := by simpa [Ne.symm hb] using h
      simp only [splitGo, oneC, restC, if_neg hb]
      rw [splitGo_in c l _ hl]
      simp
theorem splitGo_out (c : UInt8) : ∀ (l cur : List UInt8), c ∉ l → splitGo c cur l = [cur ++ l]
  | [], cur, h => by simp [splitGo]
  | b :: l, cur, h => by
    have hb : ¬ b = c := fun e => h (by simp [e])
    have hl : c ∉ l := fun e => h (by simp [e])
    simp only [splitGo, if_neg hb]
    rw [splitGo_out c l _ hl]
    simp
theorem indexC (c : UInt8) : ∀ l : List UInt8, (Lib.index l [c] = -1 ∧ c ∉ l) ∨ (∃ i : Nat, Lib.index l [c] = i ∧ l.take i = oneC c l ∧ l.drop (i + 1) = restC c l ∧ i < l.length ∧ c ∈ l)
  | [] => .inl ⟨by simp [Lib.index], by simp⟩
  | b :: l => by
    by_cases hb : b = c
    · subst hb
      refine .inr ⟨0, ?_, by simp [oneC], by simp [restC], by simp, by simp⟩
      rw [Lib.index]; simp [List.isPrefixOf]
    · have hp : ([c] : List UInt8).isPrefixOf (b :: l) = false := by simp [List.isPrefixOf, Ne.symm hb]
      have hix : Lib.index (b :: l) [c] = if Lib.index l [c] == -1 then -1 else Lib.index l [c] + 1 := by rw [Lib.index, hp]; simp
      rcases indexC c l with ⟨h1, h4⟩ | ⟨i, h1, h2, h3, h5, h4⟩
      · refine .inl ⟨by rw [hix, h1]; rfl, by simp [h4, Ne.symm hb]⟩
      · refine .inr ⟨i + 1, ?_, by rw [oneC, if_neg hb, List.take_succ_cons, h2], by rw [restC, if_neg hb, List.drop_succ_cons, h3], by simpa using h5, by simp [h4]⟩
        rw [hix, h1]
        have : ((i : Int) == -1) = false := by rw [beq_eq_false_iff_ne]; omega
        simp [this]
theorem B_inv (s : ByteArray) : B s.data.toList = s := by
  apply ByteArray.ext
  simp [B]
theorem extract_B (l : List UInt8) (i j : Nat) : (B l).extract i j = B ((l.take j).drop i) := by
  unfold B
  apply ByteArray.ext
  simp [List.extract_eq_take_drop, List.drop_take]
/-- A line's words are the text cut at each blank. -/
theorem words_go (n : Nat) : ∀ l : List UInt8, l.length ≤ n → ∀ k, Lib.countB (B l) spc = k → Lib.splitB spc 0 k (B l) = (splitGo 32 [] l).map B := by
  induction n with
  | zero =>
    intro l hl k hk
    obtain rfl : l = [] := List.length_eq_zero_iff.1 (by omega)
    have hx : Lib.indexB (B []) spc = -1 := by decide
    rw [Lib.splitB_miss spc 0 k _ hx]
    rfl
  | succ n ih =>
    intro l hl k hk
    have hd : Lib.indexB (B l) spc = Lib.index l [32] := rfl
    rcases indexC 32 l with ⟨h1, h4⟩ | ⟨i, h1, h2, h3, h5, h4⟩
    · rw [Lib.splitB_miss spc 0 k _ (hd.trans h1), splitGo_out 32 l [] h4]
      rfl
    · have hc := Lib.countB_hit (B l) spc i (by decide) (hd.trans h1)
      have hs : (B l).extract (i + spc.size) (B l).size = B (restC 32 l) := by
        rw [B_size, extract_B, List.take_length, ← h3]
        rfl
      rw [hs] at hc
      match k, hk with
      | 0, hk => omega
      | k + 1, hk =>
      have hlen : (restC 32 l).length ≤ n := by rw [← h3, List.length_drop]; omega
      rw [Lib.splitB_hit spc 0 k _ i (hd.trans h1), hs, ih (restC 32 l) hlen k (by omega), splitGo_in 32 l [] h4, List.map_cons]
      congr 1
      rw [extract_B, Nat.add_zero, h2, List.drop_zero]
      rfl
theorem words_eq (s : ByteArray) : words s = (splitGo 32 [] s.data.toList).map B := by
  have := words_go s.data.toList.length s.data.toList (Nat.le_refl _) _ rfl
  rw [B_inv] at this
  exact this
/-- A text's lines. -/
def linesGo : Nat → List UInt8 → List (List UInt8)
  | 0, _ => []
  | n + 1, l => if l = [] then [] else oneL l :: linesGo n (restL l)
def trimLast (S : List (List UInt8)) : List (List UInt8) := if S.getLast? = some [] then S.dropLast else S
theorem splitGo_ne (c : UInt8) : ∀ (l cur : List UInt8), splitGo c cur l ≠ []
  | [], cur => by simp [splitGo]
  | b :: l, cur => by
    rw [splitGo]
    split
    · simp
    · exact splitGo_ne c l _
theorem trimLast_cons (x : List UInt8) (S : List (List UInt8)) (h : S ≠ []) : trimLast (x :: S) = x :: trimLast S := by
  unfold trimLast
  have e : (x :: S).getLast? = S.getLast? := by
    cases S with
    | nil => exact absurd rfl h
    | cons a t => simp [List.getLast?_cons]
  rw [e]
  split
  · rw [List.dropLast_cons_of_ne_nil h]
  · rfl
theorem lines_go (n : Nat) : ∀ l : List UInt8, l.length < n → trimLast (splitGo 10 [] l) = linesGo n l := by
  induction n with
  | zero => intro l h; exact absurd h (Nat.not_lt_zero _)
  | succ n ih =>
    intro l hl
    by_cases hn : l = []
    · subst hn; rfl
    · rw [linesGo, if_neg hn]
      by_cases h10 : 10 ∈ l
      · rw [splitGo_in 10 l [] h10, trimLast_cons _ _ (splitGo_ne 10 _ _), oneC_10, restC_10, List.nil_append, ih _ (by have := restL_len l hn; omega)]
      · rw [splitGo_out 10 l [] h10, restL_none l h10]
        have ho : oneL l = l := by
          rcases index10 l with ⟨_, h2, _⟩ | ⟨_, _, _, _, h4⟩
          · exact h2
          · exact absurd h4 h10
        have : linesGo n [] = [] := by cases n <;> rfl
        rw [this, ho]
        unfold trimLast
        rw [List.nil_append, if_neg (by simpa using hn)]
/-- A text's lines as texts. -/
def lines (s : ByteArray) : List ByteArray := (linesGo (s.size + 1) s.data.toList).map B
/-- What lines say. -/
def readL : List Int → List S47 → Nat → List ByteArray → List Int × List S47 × Nat × Int
  | cs, es, _, [] => (cs, es, 0, 0)
  | cs, es, n, x :: r => match wordsP cs es (words x) with
    | none => ([0, 0, 0, 0, 0], [], n, 10)
    | some q => readL q.1 q.2 (n + 1) r
theorem readL_nil (cs : List Int) (es : List S47) (n : Nat) : readL cs es n [] = (cs, es, 0, 0) := rfl
theorem readL_bad {cs : List Int} {es : List S47} {n : Nat} {x : ByteArray} {r : List ByteArray} (h : wordsP cs es (words x) = none) : readL cs es n (x :: r) = ([0, 0, 0, 0, 0], [], n, 10) := by rw [readL, h]
theorem readL_good {cs : List Int} {es : List S47} {n : Nat} {x : ByteArray} {r : List ByteArray} {q : List Int × List S47} (h : wordsP cs es (words x) = some q) : readL cs es n (x :: r) = readL q.1 q.2 (n + 1) r := by rw [readL, h]
theorem runP_lines (k : Nat) : ∀ (cs : List Int) (es : List S47) (n : Nat) (l : List UInt8), l.length < k → runP k cs es n (B l) = readL cs es n ((linesGo k l).map B) := by
  induction k with
  | zero => intro cs es n l h; exact absurd h (Nat.not_lt_zero _)
  | succ k ih =>
    intro cs es n l hl
    by_cases hn : l = []
    · subst hn; rw [show B [] = ⟨#[]⟩ from rfl, runP_nil]; rfl
    · have hs : ¬ B l = ⟨#[]⟩ := fun e => hn (B_nil.1 e)
      rw [linesGo, if_neg hn, List.map_cons]
      cases hw : wordsP cs es (words (B (oneL l))) with
      | none => rw [readL_bad hw, runP_bad hs (by rw [one_B]; exact hw)]
      | some q =>
        rw [readL_good hw, runP_good hs (by rw [one_B]; exact hw), rest_B]
        exact ih _ _ _ _ (by have := restL_len l hn; omega)
/-- What the document says of a text. -/
theorem parseP_lines (s : ByteArray) : parseP s = if 131072 < s.size then ([0, 0, 0, 0, 0], [], 0, 3) else readL [0, 0, 0, 0, 0] [] 1 (lines s) := by
  unfold parseP lines
  split
  · rfl
  · have := runP_lines (s.size + 1) [0, 0, 0, 0, 0] [] 1 s.data.toList (by rw [size_toList]; omega)
    rw [B_inv] at this
    exact this
theorem splitGo_count (c : UInt8) : ∀ (l cur : List UInt8), (splitGo c cur l).length ≤ l.length + 1
  | [], cur => by simp [splitGo]
  | b :: l, cur => by
    rw [splitGo]
    have := splitGo_count c l
    split
    · rw [List.length_cons, List.length_cons]; have := this []; omega
    · rw [List.length_cons]; have := this (cur ++ [b]); omega
/-! ### The document's Split. -/
theorem split_loop (s : ByteArray) (c : UInt8) (hs : s.size ≤ 900000) : ∀ (d i a : Nat) (out : List ByteArray), i + d = s.size → a ≤ i → out.length ≤ i →
    At (fun k => cortegeref27_Split.l0 k s (c.toNat : Int) out (a : Int) (i : Int)) (out ++ (splitGo c ((s.data.toList.take i).drop a) (s.data.toList.drop i)).map B)
  | 0, i, a, out, hi, ha, ho => by
    have hil : s.data.toList.length = i := by rw [size_toList]; omega
    have hsi : s.size = i := by omega
    rw [List.drop_of_length_le (Nat.le_of_eq hil), splitGo]
    have hx : s.extract a i = B ((s.data.toList.take i).drop a) := by
      have := extract_B s.data.toList a i
      rwa [B_inv] at this
    refine ⟨2, 0, fun k _ => ?_⟩
    show cortegeref27_Split.l0 (k + 1 + 1) s _ out a i = _
    rw [cortegeref27_Split.l0, if_pos (by omega), if_pos (by omega), if_pos (by omega), if_pos (by omega), if_pos (by omega), w1 (by omega)]
    rw [cortegeref27_Split.l0, if_neg (by omega)]
    rw [Int.toNat_natCast, Int.toNat_natCast, hx]
    rfl
  | d + 1, i, a, out, hi, ha, ho => by
    have hil : i < s.data.toList.length := by rw [size_toList]; omega
    have hbt := bt_nat s i hil
    have hx : s.extract a i = B ((s.data.toList.take i).drop a) := by
      have := extract_B s.data.toList a i
      rwa [B_inv] at this
    have htk : (s.data.toList.take (i + 1)).drop a = (s.data.toList.take i).drop a ++ [s.data.toList[i]] := by
      rw [List.take_succ_eq_append_getElem hil, List.drop_append_of_le_length (by rw [List.length_take]; omega)]
    rw [List.drop_eq_getElem_cons hil, splitGo]
    by_cases hb : s.data.toList[i] = c
    · have hb' : bt s (i : Int) = (c.toNat : Int) := by rw [hbt, hb]
      rw [if_pos hb, List.map_cons]
      have ih := split_loop s c hs d (i + 1) (i + 1) (out ++ [B ((s.data.toList.take i).drop a)]) (by omega) (Nat.le_refl _) (by simp; omega)
      have hz0 : (s.data.toList.take (i + 1)).drop (i + 1) = [] := List.drop_of_length_le (by rw [List.length_take]; omega)
      rw [hz0, List.append_assoc, List.singleton_append] at ih
      refine To.step_trans (fun k => ?_) ih
      show cortegeref27_Split.l0 (k + 1) s _ out a i = _
      rw [cortegeref27_Split.l0, if_pos (by omega), if_neg (by omega), if_pos (by omega), if_pos (by omega), if_pos hb', if_pos (by omega), if_pos (by omega), if_pos (by omega), w1 (by omega), Int.toNat_natCast, Int.toNat_natCast, hx]
    · have hb' : ¬ bt s (i : Int) = (c.toNat : Int) := by
        rw [hbt]
        intro e
        exact hb (UInt8.toNat_inj.1 (by omega))
      rw [if_neg hb, ← htk]
      refine To.step_trans (fun k => ?_) (split_loop s c hs d (i + 1) a out (by omega) (by omega) (by omega))
      show cortegeref27_Split.l0 (k + 1) s _ out a i = _
      rw [cortegeref27_Split.l0, if_pos (by omega), if_neg (by omega), if_pos (by omega), if_pos (by omega), if_neg hb', w1 (by omega)]
theorem split_at (s : ByteArray) (c : UInt8) (hs : s.size ≤ 900000) : At (fun k => cortegeref27_Split.f k s (c.toNat : Int)) ((splitGo c [] s.data.toList).map B) := by
  have := split_loop s c hs s.size 0 0 [] (by omega) (Nat.le_refl _) (Nat.le_refl _)
  rw [List.nil_append, List.take_zero, List.drop_nil, List.drop_zero] at this
  exact this
theorem words_at (s : ByteArray) (hs : s.size ≤ 900000) : At (fun k => cortegeref27_Split.f k s 32) (words s) := by
  have := split_at s 32 hs
  rw [← words_eq] at this
  exact this
theorem getLast_B (S : List (List UInt8)) (h : S ≠ []) : rdOf ByteArray.empty (S.map B) ((S.length - 1 : Nat) : Int) = B (S.getLast h) := by
  have hp : 0 < S.length := List.length_pos_iff.2 h
  rw [rdOf_at _ _ (by rw [List.length_map]; omega), List.getElem_map, List.getLast_eq_getElem]
theorem B_tl (l : List UInt8) : (B l).toList = l := by
  unfold B
  rw [ByteArray.toList_eq]
theorem lines_at (s : ByteArray) (hs : s.size ≤ 900000) : At (fun k => cortegeref27_Lines.f k s) (lines s) := by
  have h1 := split_at s 10 hs
  have hc := splitGo_count 10 s.data.toList []
  have hne := splitGo_ne 10 s.data.toList []
  have hl : lines s = (trimLast (splitGo 10 [] s.data.toList)).map B := by
    unfold lines
    rw [lines_go (s.size + 1) _ (by rw [size_toList]; omega)]
  rw [hl]
  have hsz := size_toList s
  generalize splitGo 10 [] s.data.toList = S at h1 hc hne
  have hp : 0 < S.length := List.length_pos_iff.2 hne
  have hw : wrap64 ((S.length : Int) - 1) = ((S.length - 1 : Nat) : Int) := by rw [wrap64_in _ (by omega)]; omega
  unfold cortegeref27_Lines.f
  refine At.bind_at h1 ?_
  simp only [List.length_map]
  rw [hw, getLast_B S hne, B_tl]
  have hg : S.getLast? = some (S.getLast hne) := List.getLast?_eq_some_getLast hne
  unfold trimLast
  rw [hg]
  by_cases hz : S.getLast hne = []
  · rw [hz]
    refine To.eq (fun k => ?_)
    rw [if_pos (rfl : some ([] : List UInt8) = some [])]
    rw [if_pos (by omega), if_pos (by omega), if_pos rfl, if_pos (by omega), Int.toNat_natCast, List.dropLast_eq_take, List.map_take]
  · refine To.eq (fun k => ?_)
    have hz2 : ¬ some (S.getLast hne) = some [] := fun e => hz (Option.some.inj e)
    rw [if_neg hz2, if_pos (by omega), if_pos (by omega), if_neg hz]
/-! ### The document's Number and numbers. -/
def foldD (n : Nat) (l : List UInt8) : Nat := l.foldl (fun a c => a * 10 + (c.toNat - 48)) n
theorem number_loop (s : ByteArray) (hs : s.size ≤ 13) : ∀ (d i n : Nat), i + d = s.size → n < 10 ^ i →
    At (fun k => cortegeref27_Number.l0 k s (n : Int) (i : Int)) (if (s.data.toList.drop i).all dig = true ∧ foldD n (s.data.toList.drop i) ≤ most then ((foldD n (s.data.toList.drop i) : Int), true) else (0, false))
  | 0, i, n, hi, hn => by
    have hil : s.data.toList.length = i := by rw [size_toList]; omega
    rw [List.drop_of_length_le (by omega)]
    refine ⟨1, 0, fun k _ => ?_⟩
    show cortegeref27_Number.l0 (k + 1) s n i = _
    rw [cortegeref27_Number.l0, if_neg (by omega)]
    simp only [List.all_nil, true_and, foldD, List.foldl_nil]
    unfold most
    by_cases hm : n ≤ 1099511627776
    · rw [if_neg (by omega), if_pos hm]
    · rw [if_pos (by omega), if_neg hm]
  | d + 1, i, n, hi, hn => by
    have hil : i < s.data.toList.length := by rw [size_toList]; omega
    have hbt := bt_nat s i hil
    rw [List.drop_eq_getElem_cons hil]
    generalize s.data.toList[i] = c at hbt
    rw [List.all_cons]
    have hc := c.toNat_lt
    have hp : 10 ^ i ≤ 10 ^ 12 := Nat.pow_le_pow_right (by omega) (by omega)
    by_cases hd : dig c = true
    · have hd' := (dig_iff c).1 hd
      rw [hd, Bool.true_and]
      have hf : foldD n (c :: s.data.toList.drop (i + 1)) = foldD (n * 10 + (c.toNat - 48)) (s.data.toList.drop (i + 1)) := rfl
      rw [hf]
      refine To.step_trans (fun k => ?_) (number_loop s hs d (i + 1) (n * 10 + (c.toNat - 48)) (by omega) (by rw [Nat.pow_succ]; omega))
      show cortegeref27_Number.l0 (k + 1) s n i = _
      rw [cortegeref27_Number.l0, if_pos (by omega), if_pos (by omega), if_neg (by omega), if_neg (by omega), hbt, w1 (by omega)]
      congr 1
      rw [wrap64_in ((n : Int) * 10) (by omega), wrap64_in _ (by omega)]
      omega
    · rw [Bool.eq_false_iff.2 hd, Bool.false_and, if_neg (by simp)]
      have hd' : ¬ (48 ≤ c.toNat ∧ c.toNat ≤ 57) := fun h => hd ((dig_iff c).2 h)
      refine ⟨1, 0, fun k _ => ?_⟩
      show cortegeref27_Number.l0 (k + 1) s n i = _
      rw [cortegeref27_Number.l0, if_pos (by omega), if_pos (by omega)]
      by_cases hlo : c.toNat < 48
      · rw [if_pos (by omega)]
      · rw [if_neg (by omega), if_pos (by omega)]
theorem number_at (s : ByteArray) : At (fun k => cortegeref27_Number.f k s) ((((numB s).getD 0 : Nat) : Int), (numB s).isSome) := by
  unfold numB
  rw [numL_eq]
  have hsz := size_toList s
  have bad : ∀ r : Option Nat, r = none → (((r.getD 0 : Nat) : Int), r.isSome) = ((0 : Int), false) := fun r h => by rw [h]; rfl
  by_cases h0 : s.size < 1
  · rw [bad _ (by unfold refNum; rw [if_neg]; rintro ⟨⟨hne, _⟩, _⟩; exact hne (List.length_eq_zero_iff.1 (by omega)))]
    refine ⟨1, 0, fun k _ => ?_⟩
    show cortegeref27_Number.f (k + 1) s = _
    unfold cortegeref27_Number.f
    rw [if_pos (by omega), cortegeref27_Number.j0, if_pos rfl]
  · by_cases h13 : 13 < s.size
    · rw [bad _ (by unfold refNum; rw [if_neg]; rintro ⟨_, hle, _⟩; omega)]
      refine ⟨1, 0, fun k _ => ?_⟩
      show cortegeref27_Number.f (k + 1) s = _
      unfold cortegeref27_Number.f
      rw [if_neg (by omega), if_pos (by omega), cortegeref27_Number.j0, if_pos rfl]
    · have hil : 0 < s.data.toList.length := by omega
      have hbt := bt_nat s 0 hil
      have hL := number_loop s (by omega) s.size 0 0 (by omega) (by decide)
      have hj : ∀ k, cortegeref27_Number.j0 (k + 1) s false = cortegeref27_Number.l0 k s 0 0 := fun k => by rw [cortegeref27_Number.j0, if_neg (by simp)]
      have hh : s.data.toList.head? = some (s.data.toList[0]) := by rw [List.head?_eq_getElem?, List.getElem?_eq_getElem hil]
      have hne : s.data.toList ≠ [] := fun e => by rw [e] at hil; exact absurd hil (Nat.not_lt_zero _)
      have hbt0 : bt s 0 = ((s.data.toList[0]).toNat : Int) := hbt
      have good : ¬ (s.data.toList.head? = some 48 ∧ 1 < s.data.toList.length) → (((((refNum s.data.toList).getD 0 : Nat) : Int), (refNum s.data.toList).isSome) = (if (s.data.toList.drop 0).all dig = true ∧ foldD 0 (s.data.toList.drop 0) ≤ most then ((foldD 0 (s.data.toList.drop 0) : Int), true) else (0, false))) := fun hz => by
        rw [List.drop_zero]
        unfold refNum
        by_cases hp : s.data.toList.all dig = true ∧ foldD 0 s.data.toList ≤ most
        · rw [if_pos ⟨⟨hne, hp.1, fun e => by
            rcases Nat.lt_or_ge 1 s.data.toList.length with h | h
            · exact absurd ⟨e, h⟩ hz
            · exact h⟩, by omega, hp.2⟩, if_pos hp]
          rfl
        · rw [if_neg hp, if_neg (by rintro ⟨⟨_, ha, _⟩, _, hm⟩; exact hp ⟨ha, hm⟩)]
          rfl
      by_cases h48 : s.data.toList[0] = 48
      · have hb : bt s 0 = 48 := by rw [hbt0, h48]; rfl
        by_cases h1 : 1 < s.size
        · rw [bad _ (by unfold refNum; rw [if_neg]; rintro ⟨⟨_, _, hz⟩, _⟩; have := hz (by rw [hh, h48]); omega)]
          refine ⟨1, 0, fun k _ => ?_⟩
          show cortegeref27_Number.f (k + 1) s = _
          unfold cortegeref27_Number.f
          rw [if_neg (by omega), if_neg (by omega), if_pos (by omega), if_pos hb, decide_eq_true (by omega : (s.size : Int) > 1), cortegeref27_Number.j0, if_pos rfl]
        · rw [good (by rintro ⟨_, h⟩; omega)]
          refine To.step_trans (fun k => ?_) hL
          show cortegeref27_Number.f (k + 1) s = _
          unfold cortegeref27_Number.f
          rw [if_neg (by omega), if_neg (by omega), if_pos (by omega), if_pos hb, decide_eq_false (by omega : ¬ (s.size : Int) > 1), hj]
          rfl
      · have hb : ¬ bt s 0 = 48 := by
          rw [hbt0]
          intro e
          exact h48 (UInt8.toNat_inj.1 (by have : (48 : UInt8).toNat = 48 := rfl; omega))
        rw [good (by rintro ⟨h, _⟩; rw [hh] at h; exact h48 (Option.some.inj h))]
        refine To.step_trans (fun k => ?_) hL
        show cortegeref27_Number.f (k + 1) s = _
        unfold cortegeref27_Number.f
        rw [if_neg (by omega), if_neg (by omega), if_pos (by omega), if_neg hb, hj]
        rfl
/-- What the document's numbers come to. -/
def numsI (l : List ByteArray) : List Int × Bool := match l.mapM numB with | some ns => (ns.map fun (n : Nat) => (n : Int), true) | none => ([], false)
theorem numbers_loop (l : List ByteArray) (hl : l.length ≤ 1000000) : ∀ (d i : Nat) (ns : List Nat), i + d = l.length → (l.take i).mapM numB = some ns →
    At (fun k => cortegeref27_numbers.l0 k l (ns.map fun (n : Nat) => (n : Int)) (i : Int)) (numsI l)
  | 0, i, ns, hi, hm => by
    rw [List.take_of_length_le (by omega)] at hm
    refine ⟨1, 0, fun k _ => ?_⟩
    show cortegeref27_numbers.l0 (k + 1) l _ i = _
    rw [cortegeref27_numbers.l0, if_neg (by omega)]
    unfold numsI
    rw [hm]
  | d + 1, i, ns, hi, hm => by
    have hlt : i < l.length := by omega
    have hnl : ns.length = i := by rw [mapM_len _ _ hm, List.length_take]; omega
    have hN := number_at (l[i])
    have hstep : ∀ k, cortegeref27_numbers.l0 (k + 1) l (ns.map fun (n : Nat) => (n : Int)) (i : Int) = ((cortegeref27_Number.f k l[i]).bind fun bt115 => (if bt115.2 = true then (cortegeref27_numbers.l0 k l ((ns.map fun (n : Nat) => (n : Int)) ++ [bt115.1]) ((i + 1 : Nat) : Int)) else (some (([] : List Int), false)))) := fun k => by
      rw [cortegeref27_numbers.l0, if_pos (by omega), if_pos (by omega), rdOf_at l i hlt]
      have hq : (ns.map fun (n : Nat) => (n : Int)).length < 17592186044416 := by rw [List.length_map]; omega
      simp only [if_pos hq]
      rw [w1 (by omega)]
    refine To.step_trans hstep ?_
    refine At.bind_at hN ?_
    cases hn : numB l[i] with
    | none =>
      simp only [Option.isSome_none, Bool.false_eq_true, if_false]
      unfold numsI
      rw [mapM_none hlt hn]
      exact At.now _
    | some n =>
      simp only [Option.isSome_some, if_true, Option.getD_some]
      have := numbers_loop l hl d (i + 1) (ns ++ [n]) (by omega) (mapM_take hlt hm hn)
      simpa using this
theorem numbers_at (l : List ByteArray) (hl : l.length ≤ 1000000) : At (fun k => cortegeref27_numbers.f k l) (numsI l) := by
  exact numbers_loop l hl l.length 0 [] (by omega) rfl
end Go.Proofs.YtipccndoffcfiaaDoor.Script
end

section
namespace Go.Proofs.YtipccndoffcfiaaDoor.Script
open Go.RowKit Go.Proofs.YtipccndoffcfiaaDoor.PRef Go.Proofs.YtipccndoffcfiaaDoorW.PrintWords Go.Proofs.YtipccndoffcfiaaDoorW.PrintLast Go.Proofs.YtipccndoffcfiaaDoor.Rounds
attribute [local go_sem] Oper.semAt_some
set_option linter.unusedVariables false
set_option linter.unusedSimpArgs false
theorem tx_of {W : World} {base : Nat} {v : Value} {l : List ByteArray} (h : Kd.R Kd.string 9 W base (fun _ => True) v l) : ∃ (A : Option Addr) (c : Nat), v = .slice A l.length c ∧ TX W A c l := by
  obtain ⟨A, c, rfl⟩ := Kd.R_slice h
  have h2 := Kd.R_reads' h
  exact ⟨A, c, rfl, h2.2.2, h2.2.1⟩
theorem refsplit_calls (s : ByteArray) (hs : s.size ≤ 900000) (w : World) : Calls Tryd.prog 42 #[.string s, .int .u8 32] w fun e w' => ∃ (A : Option Addr) (c : Nat), e = .returned (.slice A (words s).length c) ∧ TX w' A c (words s) ∧ Below w.heap.size w w' := by
  obtain ⟨k, hk⟩ := (words_at s hs).rounds
  refine (cortegeref27_Split.calls k s 32 _ w hk).mono ?_
  rintro e w' ⟨v, rfl, hr, hb⟩
  obtain ⟨A, c, rfl, ht⟩ := tx_of hr
  exact ⟨A, c, rfl, ht, hb⟩
theorem reflines_calls (s : ByteArray) (hs : s.size ≤ 900000) (w : World) : Calls Tryd.prog 27 #[.string s] w fun e w' => ∃ (A : Option Addr) (c : Nat), e = .returned (.slice A (lines s).length c) ∧ TX w' A c (lines s) ∧ Below w.heap.size w w' := by
  obtain ⟨k, hk⟩ := (lines_at s hs).rounds
  refine (cortegeref27_Lines.calls k s _ w hk).mono ?_
  rintro e w' ⟨v, rfl, hr, hb⟩
  obtain ⟨A, c, rfl, ht⟩ := tx_of hr
  exact ⟨A, c, rfl, ht, hb⟩
/-- Numbers that are read: the address, the capacity. -/
def NX (W : World) (A : Option Addr) (c : Nat) (l : List Int) : Prop := Kd.C (Kd.int .i64) W A l.length l ∧ l.length ≤ c
theorem NX.below {W W' : World} {A : Option Addr} {c : Nat} {l : List Int} (h : NX W A c l) (hb : Below W.heap.size W W') : NX W' A c l := ⟨Kd.C_below h.1 hb, h.2⟩
theorem NX.at_ {W : World} {A : Option Addr} {c : Nat} {l : List Int} (h : NX W A c l) (k : Nat) (hk : k < l.length) : ∃ ad, A = some ad ∧ W.cell? (ad.add k) = some (.int .i64 l[k]) := by
  obtain ⟨ad, e, hc⟩ := ReadsOf.at_ (Kd.reads_of_C (d := (0 : Int)) h.1) (k : Int) (by omega) (by omega)
  refine ⟨ad, e, ?_⟩
  rw [Int.toNat_natCast] at hc
  rw [hc]
  simp [rdOf, List.getD_eq_getElem?_getD, hk]
theorem refnums_calls (A : Option Addr) (c : Nat) (l : List ByteArray) (hn : l.length ≤ 1000000) (w : World) (hl : TX w A c l) : Calls Tryd.prog 43 #[.slice A l.length c] w fun e w' =>
    ∃ (A' : Option Addr) (c' : Nat), e = .returned (.tuple #[.slice A' (numsI l).1.length c', .bool (numsI l).2]) ∧ NX w' A' c' (numsI l).1 ∧ Below w.heap.size w w' := by
  obtain ⟨k, hk⟩ := (numbers_at l hn).rounds
  refine (cortegeref27_numbers.calls k A c l _ _ w hl.1 hl.2 hk).mono ?_
  rintro e w' ⟨v, rfl, hr, hb⟩
  obtain ⟨A', c', rfl⟩ := Kd.R_slice hr
  have h2 := Kd.R_reads' hr
  exact ⟨A', c', rfl, ⟨h2.2.2, h2.2.1⟩, hb⟩
def zero5 : List Value := [.int .i64 0, .int .i64 0, .int .i64 0, .int .i64 0, .int .i64 0]
/-- What the document's Read keeps. -/
structure RdSt (w W : World) (cs : List Int) (esv : Value) (es : List S47) : Prop where
  below : Below w.heap.size w W
  size : w.heap.size + 2 ≤ W.heap.size
  rblk : Blk W w.heap.size 28 zero5
  cblk : Blk W (w.heap.size + 1) 28 (cs.map (Value.int .i64))
  len : cs.length = 5
  row : Kd.R k47 47 W (w.heap.size + 2) (fun _ => True) esv es
theorem RdSt.step {w W W' : World} {cs : List Int} {esv : Value} {es : List S47} (h : RdSt w W cs esv es) (hb : Below W.heap.size W W') : RdSt w W' cs esv es :=
  ⟨h.below.trans (hb.mono (by have := h.size; omega)), Nat.le_trans h.size hb.size, h.rblk.below hb, h.cblk.below hb, h.len, Kd.R_below h.row hb⟩
theorem RdSt.grown {w W W' : World} {cs : List Int} {esv esv' : Value} {es es' : List S47} (h : RdSt w W cs esv es) (hb : Below (w.heap.size + 2) W W') (hr : Kd.R k47 47 W' (w.heap.size + 2) (fun _ => True) esv' es') : RdSt w W' cs esv' es' :=
  ⟨h.below.trans (hb.mono (by omega)), Nat.le_trans h.size hb.size, (hb.block _ (by omega)).trans h.rblk, (hb.block _ (by omega)).trans h.cblk, h.len, hr⟩
theorem set5_size (w : World) (b : Nat) (a0 a1 a2 a3 a4 : Int) : (set5 w b a0 a1 a2 a3 a4).heap.size = w.heap.size := by simp [set5]
theorem RdSt.set {w W : World} {cs : List Int} {esv : Value} {es : List S47} (h : RdSt w W cs esv es) (a0 a1 a2 a3 a4 : Int) : RdSt w (set5 W (w.heap.size + 1) a0 a1 a2 a3 a4) [a0, a1, a2, a3, a4] esv es := by
  have hs := five_below W (w.heap.size + 1) a0 a1 a2 a3 a4
  obtain ⟨c0, c1, c2, c3, c4, rfl⟩ := five cs h.len
  refine ⟨h.below.trans (hs.mono (by omega)), by rw [set5_size]; exact h.size, ?_, five_set h.cblk a0 a1 a2 a3 a4, rfl, R_kept h.row (fun k hk _ => set5_heap W _ a0 a1 a2 a3 a4 k (by omega))⟩
  exact (set5_heap W (w.heap.size + 1) a0 a1 a2 a3 a4 w.heap.size (by omega)).trans h.rblk
theorem rdst_new (w : World) : RdSt w ((w.alloc (.cells #[.int .i64 0, .int .i64 0, .int .i64 0, .int .i64 0, .int .i64 0] 28)).alloc (.cells #[.int .i64 0, .int .i64 0, .int .i64 0, .int .i64 0, .int .i64 0] 28)) [0, 0, 0, 0, 0] (.slice none 0 0) [] := by
  refine ⟨push2 w _ _, by simp, (ptrs_alloc w 0 28 zero5).below (below_push _ _), ?_, rfl, Kd.R_nil _ _ _ _ _⟩
  have := ptrs_alloc (w.alloc (.cells #[.int .i64 0, .int .i64 0, .int .i64 0, .int .i64 0, .int .i64 0] 28)) 0 28 zero5
  rwa [show (w.alloc (.cells #[.int .i64 0, .int .i64 0, .int .i64 0, .int .i64 0, .int .i64 0] 28)).heap.size = w.heap.size + 1 by simp] at this
def ReadPost (P : List Int × List S47 × Nat × Int) (w : World) (e : Ending) (w' : World) : Prop :=
  ∃ (esv : Value) (at_ : Nat), (P.2.2.2 = 0 → at_ = 0) ∧ (P.2.2.2 ≠ 0 → at_ = P.2.2.1 ∧ 0 < at_) ∧ e = .returned (.tuple #[.agg (P.1.map (Value.int .i64)).toArray, esv, .int .i64 (at_ : Int)]) ∧ (∃ base, w.heap.size ≤ base ∧ Kd.R k47 47 w' base (fun _ => True) esv P.2.1) ∧ Below w.heap.size w w'
set_option maxHeartbeats 4000000 in
set_option maxRecDepth 100000 in
theorem read_results (tmps : Array Value) (w : World) (b : Nat) (a0 a1 a2 a3 a4 : Int) (h2 : tmps.getD 2 undef = .pointer (some ⟨b, 0, none⟩)) (hb : Blk w b 28 [.int .i64 a0, .int .i64 a1, .int .i64 a2, .int .i64 a3, .int .i64 a4]) :
    (results Tryd.f26 tmps).run Tryd.prog w = .ok (.tuple #[.agg #[.int .i64 a0, .int .i64 a1, .int .i64 a2, .int .i64 a3, .int .i64 a4], tmps.getD 3 undef, tmps.getD 4 undef]) w := by
  have hres : Tryd.f26.results = #[.cell 2 28, .tmp 3, .tmp 4] := rfl
  have k0 := hb.cell 0 (by simp)
  have k1 := hb.cell 1 (by simp)
  have k2 := hb.cell 2 (by simp)
  have k3 := hb.cell 3 (by simp)
  have k4 := hb.cell 4 (by simp)
  simp only [List.getElem_cons_zero, List.getElem_cons_succ] at k0 k1 k2 k3 k4
  have h3 : tmps[2]?.getD undef = .pointer (some ⟨b, 0, none⟩) := by simpa using h2
  simp only [results, hres]
  go_simp
  try rfl
/-- A line that is refused. -/
theorem read_bad {w W : World} {cs : List Int} {esv : Value} {es : List S47} {n : Nat} (h : RdSt w W cs esv es) (hn : 0 < n) : ReadPost ([0, 0, 0, 0, 0], [], n, 10) w (.returned (.tuple #[.agg #[.int .i64 0, .int .i64 0, .int .i64 0, .int .i64 0, .int .i64 0], .slice none 0 0, .int .i64 (n : Int)])) (set5 W w.heap.size 0 0 0 0 0) :=
  ⟨.slice none 0 0, n, (fun h => absurd h (show ¬ (10 : Int) = 0 by decide)), (fun _ => ⟨rfl, hn⟩), rfl, ⟨_, Nat.le_refl _, Kd.R_nil _ _ _ _ _⟩, h.below.trans (five_below _ _ _ _ _ _ _)⟩
/-- All is read. -/
theorem read_end {w W : World} {a0 a1 a2 a3 a4 : Int} {esv : Value} {es : List S47} (h : RdSt w W [a0, a1, a2, a3, a4] esv es) : ReadPost ([a0, a1, a2, a3, a4], es, 0, 0) w (.returned (.tuple #[.agg #[.int .i64 a0, .int .i64 a1, .int .i64 a2, .int .i64 a3, .int .i64 a4], esv, .int .i64 0])) (set5 W w.heap.size a0 a1 a2 a3 a4) := by
  have hs := five_below W w.heap.size a0 a1 a2 a3 a4
  have hk := R_kept h.row (fun k hk _ => set5_heap W w.heap.size a0 a1 a2 a3 a4 k (by omega))
  exact ⟨esv, 0, fun _ => rfl, fun h => absurd rfl h, rfl, ⟨w.heap.size + 2, by omega, hk⟩, h.below.trans hs⟩
theorem RdSt.res {w W : World} {cs : List Int} {esv : Value} {es : List S47} (h : RdSt w W cs esv es) : W.cell? ⟨w.heap.size, 0, none⟩ = some (.int .i64 0) ∧ W.cell? ⟨w.heap.size, 1, none⟩ = some (.int .i64 0) ∧ W.cell? ⟨w.heap.size, 2, none⟩ = some (.int .i64 0) ∧ W.cell? ⟨w.heap.size, 3, none⟩ = some (.int .i64 0) ∧ W.cell? ⟨w.heap.size, 4, none⟩ = some (.int .i64 0) ∧ ∀ j, W.frozen? ⟨w.heap.size, j, none⟩ = false :=
  ⟨h.rblk.cell 0 (by simp [zero5]), h.rblk.cell 1 (by simp [zero5]), h.rblk.cell 2 (by simp [zero5]), h.rblk.cell 3 (by simp [zero5]), h.rblk.cell 4 (by simp [zero5]), fun j => h.rblk.free j⟩
theorem RdSt.cc {w W : World} {a0 a1 a2 a3 a4 : Int} {esv : Value} {es : List S47} (h : RdSt w W [a0, a1, a2, a3, a4] esv es) : W.cell? ⟨w.heap.size + 1, 0, none⟩ = some (.int .i64 a0) ∧ W.cell? ⟨w.heap.size + 1, 1, none⟩ = some (.int .i64 a1) ∧ W.cell? ⟨w.heap.size + 1, 2, none⟩ = some (.int .i64 a2) ∧ W.cell? ⟨w.heap.size + 1, 3, none⟩ = some (.int .i64 a3) ∧ W.cell? ⟨w.heap.size + 1, 4, none⟩ = some (.int .i64 a4) ∧ ∀ j, W.frozen? ⟨w.heap.size + 1, j, none⟩ = false :=
  ⟨h.cblk.cell 0 (by simp), h.cblk.cell 1 (by simp), h.cblk.cell 2 (by simp), h.cblk.cell 3 (by simp), h.cblk.cell 4 (by simp), fun j => h.cblk.free j⟩
theorem two_len {ns : List Nat} (h : ns.length = 2) : ∃ k z, ns = [k, z] := by
  match ns, h with
  | [k, z], _ => exact ⟨k, z, rfl⟩
theorem two_keep {w w' : World} {a b : Addr} {x y : Value} (h0 : w.cell? a = some x) (h1 : w.cell? b = some y) (hb : Below w.heap.size w w') : w'.cell? a = some x ∧ w'.cell? b = some y :=
  ⟨(hb.cell (World.block_lt_of_cell? w _ h0)).trans h0, (hb.cell (World.block_lt_of_cell? w _ h1)).trans h1⟩
/-- What a line's words come to. -/
inductive Word (cs : List Int) (es : List S47) (ws : List ByteArray) : Prop
  | set (t : List ByteArray) (h : ws = ⟨#[115, 101, 116]⟩ :: t)
  | ev (t : List ByteArray) (h : ws = ⟨#[101, 118]⟩ :: t)
  | ask (t : List ByteArray) (h : ws = ⟨#[97, 115, 107]⟩ :: t)
  | other (h : ByteArray) (t : List ByteArray) (e : ws = h :: t) (h1 : ¬ h = ⟨#[115, 101, 116]⟩) (h2 : ¬ h = ⟨#[101, 118]⟩) (h3 : ¬ h = ⟨#[97, 115, 107]⟩)
theorem word_of (cs : List Int) (es : List S47) (s : ByteArray) : Word cs es (words s) := by
  have hl := words_len s
  match hw : words s, hl with
  | [], hl => simp at hl
  | h :: t, _ =>
    by_cases h1 : h = ⟨#[115, 101, 116]⟩
    · subst h1; exact .set t rfl
    · by_cases h2 : h = ⟨#[101, 118]⟩
      · subst h2; exact .ev t rfl
      · by_cases h3 : h = ⟨#[97, 115, 107]⟩
        · subst h3; exact .ask t rfl
        · exact .other h t rfl h1 h2 h3
end Go.Proofs.YtipccndoffcfiaaDoor.Script
end
