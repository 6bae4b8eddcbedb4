/- Words without blanks and ends of lines: what is printed, plainly. -/
import Derived.Test.YtipccndoffcfiaaDoorScriptPrintsLaw
namespace Go.Proofs.YtipccndoffcfiaaDoor.Script
open Go.RowKit Go.IntWalk Go.Proofs.YtipccndoffcfiaaDoor.PRef Go.Proofs.YtipccndoffcfiaaDoorW.PrintWords Go.Proofs.YtipccndoffcfiaaDoorW.PrintLast Go.Proofs.YtipccndoffcfiaaDoor.Rounds
set_option linter.unusedVariables false
set_option linter.unusedSimpArgs false
/-- A text without a blank and without an end of line. -/
def Tok (l : List UInt8) : Prop := ∀ x ∈ l, x ≠ 10 ∧ x ≠ 32
theorem tok_append {a b : List UInt8} (h : Tok a) (k : Tok b) : Tok (a ++ b) := fun x hx => (List.mem_append.1 hx).elim (h x) (k x)
theorem tok_dec (n : Nat) : Tok (Lib.decDigits n) := fun x hx => by
  have h := List.all_eq_true.1 (dec_dig n) x hx
  rw [dig_iff] at h
  constructor
  · rintro rfl
    have : (10 : UInt8).toNat = 10 := rfl
    omega
  · rintro rfl
    have : (32 : UInt8).toNat = 32 := rfl
    omega
theorem tok_itoa (n : Int) : Tok (itoaB n).data.toList := by
  show Tok (Lib.itoa n)
  unfold Lib.itoa
  split
  · intro x hx
    rcases List.mem_cons.1 hx with rfl | hx
    · decide
    · exact tok_dec _ x hx
  · exact tok_dec _
theorem tok_digit {c : UInt8} {v : Nat} (h : hexv c = some v) : c ≠ 10 ∧ c ≠ 32 := by
  constructor
  · rintro rfl
    rw [show hexv 10 = none by decide] at h
    cases h
  · rintro rfl
    rw [show hexv 32 = none by decide] at h
    cases h
theorem tok_hex (s : ByteArray) : Tok (hexP s).data.toList := by
  unfold hexP
  split
  · intro x hx
    have : x = 45 := by simpa using hx
    subst this
    decide
  · show Tok (hexL s.data.toList)
    intro x hx
    unfold hexL at hx
    obtain ⟨b, _, hb⟩ := List.mem_flatMap.1 hx
    rcases List.mem_cons.1 hb with rfl | hb
    · exact tok_digit (digs b).va
    · rw [List.mem_singleton.1 hb]
      exact tok_digit (digs b).vb
theorem tok_set : Tok setB.data.toList := by unfold Tok; decide
theorem tok_ask : Tok askB.data.toList := by unfold Tok; decide
theorem tok_ev : Tok evB.data.toList := by unfold Tok; decide
theorem count_tok {l : List UInt8} (h : Tok l) : l.count 10 = 0 := List.count_eq_zero.2 (fun hm => (h _ hm).1 rfl)
theorem count_words (l : List ByteArray) (h : ∀ x ∈ l, Tok x.data.toList) : (wordsT l).count 10 = 0 := by
  induction l with
  | nil => rfl
  | cons a l ih =>
    have h1 := count_tok (h a (by simp))
    have h2 := ih (fun x hx => h x (by simp [hx]))
    unfold wordsT at h2 ⊢
    rw [List.map_cons, List.flatten_cons, List.count_append, List.count_cons_of_ne (by decide), h1, h2]
theorem count_lineW (word : ByteArray) (l : List ByteArray) (hw : Tok word.data.toList) (h : ∀ x ∈ l, Tok x.data.toList) : (lineW word l).count 10 = 1 := by
  unfold lineW
  rw [List.count_append, List.count_append, count_tok hw, count_words l h]
  rfl
theorem itoas_tok (l : List Int) : ∀ x ∈ l.map itoaB, Tok x.data.toList := fun x hx => by
  obtain ⟨n, _, rfl⟩ := List.mem_map.1 hx
  exact tok_itoa n
theorem count_lineE (e : S47) : (lineE e).count 10 = 1 := by
  unfold lineE
  split
  · exact count_lineW askB _ tok_ask (fun x hx => by rw [List.mem_singleton.1 hx]; exact tok_hex _)
  · exact count_lineW evB _ tok_ev (itoas_tok [e.f0, e.f1])
theorem count_text (cs : List Int) (es : List S47) : (textP cs es).count 10 = 1 + es.length := by
  unfold textP
  rw [List.count_append, count_lineW setB _ tok_set (itoas_tok cs)]
  congr 1
  induction es with
  | nil => rfl
  | cons e es ih => rw [List.map_cons, List.flatten_cons, List.count_append, count_lineE, ih, List.length_cons]; omega
theorem ends_lineE (e : S47) : ∃ l, lineE e = l ++ [10] := ⟨_, lineE_lineN e⟩
theorem ends_lines : ∀ es : List S47, es = [] ∨ ∃ l, (es.map lineE).flatten = l ++ [10]
  | [] => .inl rfl
  | e :: es => .inr (by
    rcases ends_lines es with rfl | ⟨l, h⟩
    · obtain ⟨l, h⟩ := ends_lineE e
      exact ⟨l, by simp [h]⟩
    · exact ⟨lineE e ++ l, by rw [List.map_cons, List.flatten_cons, h, List.append_assoc]⟩)
theorem ends_text (cs : List Int) (es : List S47) : ∃ l, textP cs es = l ++ [10] := by
  unfold textP
  rcases ends_lines es with rfl | ⟨l, h⟩
  · exact ⟨setB.data.toList ++ wordsT (cs.map itoaB), by simp [lineW]⟩
  · exact ⟨lineW setB (cs.map itoaB) ++ l, by rw [h, List.append_assoc]⟩
/-- What ScriptLines holds to be so. -/
theorem lines_plain (cs : List Int) (es : List S47) : ((printP cs es).2 ≠ 0 ∧ (printP cs es).1 = ⟨#[]⟩) ∨ ((printP cs es).2 = 0 ∧ ∃ tx : List UInt8, (printP cs es).1 = ⟨(tx ++ [10]).toArray⟩ ∧ (tx ++ [10]).count 10 = 1 + es.length ∧ tx.length ≤ 131072) := by
  unfold printP
  split
  · exact .inl ⟨by decide, rfl⟩
  · split
    · exact .inl ⟨by decide, rfl⟩
    · rename_i h
      obtain ⟨l, hl⟩ := ends_text cs es
      rw [hl] at h ⊢
      refine .inr ⟨rfl, l, rfl, ?_, by rw [List.length_append] at h; omega⟩
      rw [← hl]
      exact count_text cs es
end Go.Proofs.YtipccndoffcfiaaDoor.Script
