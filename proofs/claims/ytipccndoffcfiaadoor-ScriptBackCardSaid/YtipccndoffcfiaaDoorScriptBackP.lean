/- What is printed is read again, and what is read may be printed: plainly. -/
import Derived.Test.YtipccndoffcfiaaDoorScriptTok
namespace Go.Proofs.YtipccndoffcfiaaDoor.Script
open Go.RowKit Go.IntWalk Go.Proofs.YtipccndoffcfiaaDoor.PRef Go.Proofs.YtipccndoffcfiaaDoorW.PrintWords Go.Proofs.YtipccndoffcfiaaDoorW.PrintLast Go.Proofs.YtipccndoffcfiaaDoor.Rounds
set_option linter.unusedVariables false
set_option linter.unusedSimpArgs false
theorem splitGo_head (c : UInt8) (r : List UInt8) : ∀ (l cur : List UInt8), c ∉ l → splitGo c cur (l ++ c :: r) = (cur ++ l) :: splitGo c [] r
  | [], cur, _ => by simp [splitGo]
  | b :: l, cur, h => by
    have hb : ¬ b = c := fun e => h (by simp [e])
    rw [List.cons_append, splitGo, if_neg hb, splitGo_head c r l _ (fun e => h (by simp [e])), List.append_assoc]
    rfl
theorem wordsT_cons (a : ByteArray) (l : List ByteArray) : wordsT (a :: l) = 32 :: (a.data.toList ++ wordsT l) := by simp [wordsT]
theorem split_words : ∀ (l : List ByteArray) (w : List UInt8), Tok w → (∀ x ∈ l, Tok x.data.toList) → splitGo 32 [] (w ++ wordsT l) = w :: l.map (·.data.toList)
  | [], w, hw, h => by
    rw [wordsT_nil, List.append_nil, splitGo_out 32 w [] (fun e => (hw _ e).2 rfl)]
    rfl
  | a :: l, w, hw, h => by
    rw [wordsT_cons, splitGo_head 32 _ w [] (fun e => (hw _ e).2 rfl), split_words l _ (h a (by simp)) (fun x hx => h x (by simp [hx]))]
    rfl
theorem B_list (l : List UInt8) : (B l).data.toList = l := by unfold B; simp
theorem words_line (word : ByteArray) (l : List ByteArray) (hw : Tok word.data.toList) (h : ∀ x ∈ l, Tok x.data.toList) : words (B (word.data.toList ++ wordsT l)) = word :: l := by
  rw [words_eq, B_list, split_words l _ hw h, List.map_cons, B_inv, List.map_map]
  congr 1
  conv => rhs; rw [← List.map_id l]
  exact List.map_congr_left fun x _ => B_inv x
theorem oneL_head (r : List UInt8) : ∀ l : List UInt8, 10 ∉ l → oneL (l ++ 10 :: r) = l
  | [], _ => by simp [oneL]
  | b :: l, h => by
    have hb : ¬ b = 10 := fun e => h (by simp [e])
    rw [List.cons_append, oneL, if_neg hb, oneL_head r l (fun e => h (by simp [e]))]
theorem restL_head (r : List UInt8) : ∀ l : List UInt8, 10 ∉ l → restL (l ++ 10 :: r) = r
  | [], _ => by simp [restL]
  | b :: l, h => by
    have hb : ¬ b = 10 := fun e => h (by simp [e])
    rw [List.cons_append, restL, if_neg hb, restL_head r l (fun e => h (by simp [e]))]
theorem lines_flat : ∀ (ls : List (List UInt8)) (n : Nat), (∀ x ∈ ls, (10 : UInt8) ∉ x) → ((ls.map (· ++ [10])).flatten).length ≤ n → linesGo n ((ls.map (· ++ [10])).flatten) = ls
  | [], n, _, _ => by cases n <;> rfl
  | x :: ls, 0, _, h => by simp at h
  | x :: ls, n + 1, hx, h => by
    have h10 := hx x (by simp)
    rw [List.map_cons, List.flatten_cons, List.append_assoc, List.singleton_append] at h ⊢
    rw [List.length_append, List.length_cons] at h
    rw [linesGo, if_neg (by simp), oneL_head _ _ h10, restL_head _ _ h10, lines_flat ls n (fun y hy => hx y (by simp [hy])) (by omega)]
theorem num_read (n : Int) (h : badN n = false) : numB (itoaB n) = some n.toNat ∧ ((n.toNat : Nat) : Int) = n := by
  unfold badN at h
  rw [Bool.or_eq_false_iff] at h
  have h1 := of_decide_eq_false h.1
  have h2 := of_decide_eq_false h.2
  obtain ⟨m, rfl⟩ := Int.eq_ofNat_of_zero_le (by omega : 0 ≤ n)
  refine ⟨?_, by omega⟩
  unfold numB
  show numL (Lib.itoa (m : Int)) = _
  rw [itoa_nat, numL_dec m (by unfold most; omega), Int.toNat_natCast]
theorem nums_read : ∀ l : List Int, l.any badN = false → (l.map itoaB).mapM numB = some (l.map Int.toNat) ∧ (l.map Int.toNat).map (fun (n : Nat) => (n : Int)) = l
  | [], _ => ⟨rfl, rfl⟩
  | n :: l, h => by
    rw [List.any_cons, Bool.or_eq_false_iff] at h
    obtain ⟨h1, h2⟩ := num_read n h.1
    obtain ⟨h3, h4⟩ := nums_read l h.2
    refine ⟨?_, by rw [List.map_cons, List.map_cons, h2, h4]⟩
    rw [List.map_cons, List.mapM_cons, h1, h3]
    rfl
theorem set_read (cs : List Int) (hl : cs.length = 5) (h : cs.any badN = false) : wordsP [0, 0, 0, 0, 0] [] (words (B (setB.data.toList ++ wordsT (cs.map itoaB)))) = some (cs, []) := by
  rw [words_line setB _ tok_set (itoas_tok cs), wordsP_cons, if_pos (show setB = ⟨#[115, 101, 116]⟩ from rfl), if_pos (by simpa using hl), (nums_read cs h).1, Option.map_some, (nums_read cs h).2]
theorem event_read (cs : List Int) (acc : List S47) (e : S47) (h : badE e = false) : wordsP cs acc (words (B (lineN e))) = some (cs, acc ++ [e]) := by
  obtain ⟨f0, f1, f2⟩ := e
  unfold badE at h
  unfold lineN
  by_cases h1 : f0 = 1
  · subst h1
    rw [if_pos rfl] at h ⊢
    have hz : f1 = 0 := by have := of_decide_eq_false h; simpa using this
    subst hz
    show wordsP cs acc (words (B (askB.data.toList ++ wordsT [hexP f2]))) = _
    rw [words_line askB _ tok_ask (fun x hx => by rw [List.mem_singleton.1 hx]; exact tok_hex _), wordsP_cons, if_neg (by decide), if_neg (by decide), if_pos (show askB = ⟨#[97, 115, 107]⟩ from rfl), askL_one, bytes_hex]
    rfl
  · rw [if_neg h1] at h ⊢
    rw [Bool.or_eq_false_iff] at h
    have hz : f2 = ⟨#[]⟩ := by have := of_decide_eq_false h.1; simpa using this
    subst hz
    have hb : [f0, f1].any badN = false := h.2
    obtain ⟨h3, h4⟩ := nums_read [f0, f1] hb
    show wordsP cs acc (words (B (evB.data.toList ++ wordsT ([f0, f1].map itoaB)))) = _
    rw [words_line evB _ tok_ev (itoas_tok [f0, f1]), wordsP_cons, if_neg (by decide), if_pos (show evB = ⟨#[101, 118]⟩ from rfl)]
    have hk : ((f0.toNat : Nat) : Int) = f0 ∧ ((f1.toNat : Nat) : Int) = f1 := by
      simp only [List.map_cons, List.map_nil, List.cons.injEq, and_true] at h4
      exact h4
    unfold evL
    rw [if_pos (by simp), h3]
    show ((if f0.toNat = 1 then none else some (⟨(f0.toNat : Int), (f1.toNat : Int), ⟨#[]⟩⟩ : S47)).map fun ev => (cs, acc ++ [ev])) = _
    rw [if_neg (by omega), hk.1, hk.2]
    rfl
theorem events_read (cs : List Int) : ∀ (es acc : List S47) (n : Nat), es.any badE = false → readL cs acc n (es.map fun e => B (lineN e)) = (cs, acc ++ es, 0, 0)
  | [], acc, n, _ => by rw [List.append_nil]; rfl
  | e :: es, acc, n, h => by
    rw [List.any_cons, Bool.or_eq_false_iff] at h
    rw [List.map_cons, readL_good (event_read cs acc e h.1), events_read cs es _ _ h.2, List.append_assoc]
    rfl
theorem tok_lineN (e : S47) : (10 : UInt8) ∉ lineN e := fun hm => by
  have h1 := count_lineE e
  rw [lineE_lineN, List.count_append] at h1
  have h2 : 0 < (lineN e).count 10 := List.count_pos_iff.2 hm
  have h3 : ([10] : List UInt8).count 10 = 1 := rfl
  omega
theorem text_flat (cs : List Int) (es : List S47) : textP cs es = (((setB.data.toList ++ wordsT (cs.map itoaB)) :: es.map lineN).map (· ++ [10])).flatten := by
  unfold textP
  rw [List.map_cons, List.flatten_cons, List.map_map]
  unfold lineW
  congr 3
  funext e
  exact lineE_lineN e
/-- What is printed is read again. -/
theorem text_read (cs : List Int) (es : List S47) (hc : cs.length = 5) (hb : badP cs es = false) (hl : (textP cs es).length ≤ 131072) : parseP ⟨(textP cs es).toArray⟩ = (cs, es, 0, 0) := by
  unfold badP at hb
  rw [Bool.or_eq_false_iff] at hb
  have hsz : (⟨(textP cs es).toArray⟩ : ByteArray).size = (textP cs es).length := B_size _
  have hflat := text_flat cs es
  have hlines : lines ⟨(textP cs es).toArray⟩ = B (setB.data.toList ++ wordsT (cs.map itoaB)) :: es.map fun e => B (lineN e) := by
    unfold lines
    rw [hsz]
    show (linesGo _ (B (textP cs es)).data.toList).map B = _
    rw [B_list, hflat, lines_flat _ _ ?_ (by rw [← hflat]; omega), List.map_cons, List.map_map]
    · rfl
    · intro x hx
      rcases List.mem_cons.1 hx with rfl | hx
      · intro hm
        have h1 := count_lineW setB (cs.map itoaB) tok_set (itoas_tok cs)
        unfold lineW at h1
        rw [List.count_append] at h1
        have h2 := List.count_pos_iff.2 hm
        have h3 : ([10] : List UInt8).count 10 = 1 := rfl
        omega
      · obtain ⟨e, _, rfl⟩ := List.mem_map.1 hx
        exact tok_lineN e
  rw [parseP_lines, if_neg (by rw [hsz]; omega), hlines, readL_good (set_read cs hc hb.1)]
  exact events_read cs es [] _ hb.2
theorem print_read (cs : List Int) (es : List S47) (hc : cs.length = 5) (h : (printP cs es).2 = 0) : parseP (printP cs es).1 = (cs, es, 0, 0) ∧ (printP cs es).1.size ≤ 131072 := by
  unfold printP at h ⊢
  split
  · rename_i hb; rw [if_pos hb] at h; exact absurd h (by decide)
  · rename_i hb
    rw [if_neg hb] at h
    split
    · rename_i hl; rw [if_pos hl] at h; exact absurd h (by decide)
    · rename_i hl
      exact ⟨text_read cs es hc (Bool.eq_false_iff.2 hb) (by omega), by show (B (textP cs es)).size ≤ _; rw [B_size]; omega⟩
/-! ### What is read may be printed. -/
theorem nums_most : ∀ (l : List ByteArray) (ns : List Nat), l.mapM numB = some ns → (ns.map fun (n : Nat) => (n : Int)).any badN = false
  | [], ns, h => by
    cases h
    rfl
  | x :: l, ns, h => by
    rw [List.mapM_cons] at h
    cases hx : numB x with
    | none => rw [hx] at h; cases h
    | some n =>
      cases hr : l.mapM numB with
      | none => rw [hx, hr] at h; cases h
      | some r =>
        rw [hx, hr] at h
        cases h
        have hm := (numL_some hx).2
        rw [List.map_cons, List.any_cons, nums_most l r hr, Bool.or_false]
        unfold badN most at *
        rw [decide_eq_false (by omega), decide_eq_false (by omega)]
        rfl
theorem pairs_len : ∀ (n : Nat) (l m : List UInt8), l.length ≤ n → pairs l = some m → m.length ≤ l.length
  | _, [], m, _, h => by cases h; simp
  | _, [_], m, _, h => by cases h
  | 0, a :: b :: r, m, hn, h => by simp at hn
  | n + 1, a :: b :: r, m, hn, h => by
    rw [pairs] at h
    split at h
    · obtain ⟨q, h1, h2⟩ := Option.map_eq_some_iff.1 h
      have := pairs_len n r q (by simp at hn; omega) h1
      rw [← h2]
      simp
      omega
    · cases h
theorem bytes_size {x b : ByteArray} (h : bytesP x = some b) : b.size ≤ x.size := by
  unfold bytesP bytesL at h
  obtain ⟨m, h1, h2⟩ := Option.map_eq_some_iff.1 h
  have hs : b.size = m.length := by rw [← h2]; exact B_size m
  rw [hs, ← size_toList]
  split at h1
  · cases h1; simp
  · split at h1
    · cases h1
    · exact pairs_len _ _ _ (Nat.le_refl _) h1
/-- An event that may be printed, of a size. -/
def Good (n : Nat) (e : S47) : Prop := badE e = false ∧ e.f2.size ≤ n
theorem evL_good {l : List ByteArray} {e : S47} (n : Nat) (h : evL l = some e) : Good n e := by
  unfold evL at h
  split at h
  · rename_i k x hm
    split at h
    · cases h
    · rename_i hk
      cases h
      have hm2 : l.mapM numB = some [k, x] := by
        split at hm
        · exact hm
        · cases hm
      have := nums_most l _ hm2
      refine ⟨?_, Nat.zero_le _⟩
      unfold badE
      rw [if_neg (by show ¬ ((k : Nat) : Int) = 1; omega)]
      show (decide (¬ (⟨#[]⟩ : ByteArray) = ⟨#[]⟩) || [((k : Nat) : Int), ((x : Nat) : Int)].any badN) = false
      rw [decide_eq_false (by simp), Bool.false_or]
      exact this
  · cases h
theorem ask_good {l : List ByteArray} {e : S47} (n : Nat) (hl : ∀ x ∈ l, x.size ≤ n) (h : askL l = some e) : Good n e := by
  match l with
  | [] => cases h
  | [x] =>
    rw [askL_one] at h
    obtain ⟨b, h1, h2⟩ := Option.map_eq_some_iff.1 h
    subst h2
    exact ⟨rfl, Nat.le_trans (bytes_size h1) (hl x (by simp))⟩
  | x :: y :: r => cases h
theorem wordsP_good {cs : List Int} {es : List S47} {l : List ByteArray} {cs' : List Int} {es' : List S47} (n : Nat) (hl : ∀ x ∈ l, x.size ≤ n) (hc : cs.any badN = false) (he : ∀ e ∈ es, Good n e) (h : wordsP cs es l = some (cs', es')) : cs'.any badN = false ∧ ∀ e ∈ es', Good n e := by
  match l with
  | [] => cases h
  | a :: t =>
    have ht : ∀ x ∈ t, x.size ≤ n := fun x hx => hl x (by simp [hx])
    have app : ∀ ev, Good n ev → ∀ e ∈ es ++ [ev], Good n e := fun ev hv e hm => by
      rcases List.mem_append.1 hm with hm | hm
      · exact he e hm
      · rw [List.mem_singleton.1 hm]; exact hv
    rw [wordsP_cons] at h
    split at h
    · obtain ⟨ns, h1, h⟩ := Option.map_eq_some_iff.1 h
      cases h
      split at h1
      · exact ⟨nums_most t ns h1, he⟩
      · cases h1
    · split at h
      · obtain ⟨ev, h1, h⟩ := Option.map_eq_some_iff.1 h
        cases h
        exact ⟨hc, app _ (evL_good n h1)⟩
      · split at h
        · obtain ⟨ev, h1, h⟩ := Option.map_eq_some_iff.1 h
          cases h
          exact ⟨hc, app _ (ask_good n ht h1)⟩
        · cases h
theorem readL_goods (n : Nat) : ∀ (l : List ByteArray) (cs : List Int) (es : List S47) (k : Nat), (∀ x ∈ l, x.size ≤ n) → cs.any badN = false → (∀ e ∈ es, Good n e) → (readL cs es k l).1.any badN = false ∧ ∀ e ∈ (readL cs es k l).2.1, Good n e
  | [], cs, es, k, hl, hc, he => by rw [readL_nil]; exact ⟨hc, he⟩
  | x :: l, cs, es, k, hl, hc, he => by
    cases hw : wordsP cs es (words x) with
    | none => rw [readL_bad hw]; exact ⟨rfl, fun e h => by cases h⟩
    | some q =>
      rw [readL_good hw]
      obtain ⟨h1, h2⟩ := wordsP_good n (fun y hy => Nat.le_trans (words_size x y hy) (hl x (by simp))) hc he hw
      exact readL_goods n l _ _ _ (fun y hy => hl y (by simp [hy])) h1 h2
theorem parseP_good (s : ByteArray) : (parseP s).1.any badN = false ∧ ∀ e ∈ (parseP s).2.1, Good s.size e := by
  rw [parseP_lines]
  split
  · exact ⟨by decide, fun e h => by cases h⟩
  · exact readL_goods s.size _ _ _ _ (lines_size s) (by decide) (fun e h => by cases h)
theorem i64_badN {n : Int} (h : badN n = false) : i64 n := by
  unfold badN at h
  rw [Bool.or_eq_false_iff] at h
  have h1 := of_decide_eq_false h.1
  have h2 := of_decide_eq_false h.2
  unfold i64
  omega
theorem good_ok {n : Nat} (hn : n ≤ 1000000) {e : S47} (h : Good n e) : EvOk e := by
  obtain ⟨h1, h2⟩ := h
  refine ⟨by omega, ?_⟩
  unfold badE at h1
  split at h1
  · rename_i he
    have hz : e.f1 = 0 := by have := of_decide_eq_false h1; simpa using this
    rw [he, hz]
    unfold i64
    omega
  · rw [Bool.or_eq_false_iff] at h1
    have h3 := h1.2
    simp only [List.any_cons, List.any_nil, Bool.or_false, Bool.or_eq_false_iff] at h3
    exact ⟨i64_badN h3.1, i64_badN h3.2⟩
/-- What is read again, printed: a text, or too long. -/
theorem again_print (s : ByteArray) : (printP (parseP s).1 (parseP s).2.1).2 = 0 ∨ (printP (parseP s).1 (parseP s).2.1).2 = 3 ∧ (printP (parseP s).1 (parseP s).2.1).1 = ⟨#[]⟩ := by
  obtain ⟨h1, h2⟩ := parseP_good s
  have hb : badP (parseP s).1 (parseP s).2.1 = false := by
    unfold badP
    rw [h1, Bool.false_or]
    exact List.any_eq_false.2 fun e he => by rw [(h2 e he).1]; decide
  unfold printP
  rw [if_neg (by rw [hb]; decide)]
  split
  · exact .inr ⟨rfl, rfl⟩
  · exact .inl rfl
end Go.Proofs.YtipccndoffcfiaaDoor.Script
