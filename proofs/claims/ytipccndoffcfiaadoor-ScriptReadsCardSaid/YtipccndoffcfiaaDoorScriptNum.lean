/- A number as it is written, plainly: what Atoi reads and Itoa gives back is what the document calls a number. -/
import Derived.Lib.ItoaNum
import Derived.Lib.AtoiTie
namespace Go.Proofs.YtipccndoffcfiaaDoor.Script
def most : Nat := 1099511627776
def val (l : List UInt8) : Nat := l.foldl (fun a c => a * 10 + (c.toNat - 48)) 0
def dig (c : UInt8) : Bool := decide (48 ≤ c.toNat) && decide (c.toNat ≤ 57)
theorem dig_iff (c : UInt8) : dig c = true ↔ 48 ≤ c.toNat ∧ c.toNat ≤ 57 := by simp [dig]
theorem val_snoc (l : List UInt8) (c : UInt8) : val (l ++ [c]) = val l * 10 + (c.toNat - 48) := by simp [val, List.foldl_append]
theorem ofNat_dig (d : Nat) (h : d < 10) : (UInt8.ofNat (48 + d)).toNat = 48 + d := by
  rw [UInt8.toNat_ofNat']
  omega
theorem dig_back (c : UInt8) (h : dig c = true) : UInt8.ofNat (48 + (c.toNat - 48)) = c := by
  rw [dig_iff] at h
  rw [show 48 + (c.toNat - 48) = c.toNat by omega]
  exact UInt8.ofNat_toNat
theorem val_dec (u : Nat) : val (Lib.decDigits u) = u := by
  induction u using Nat.strongRecOn with
  | ind u ih =>
    rw [Lib.decDigits]
    split
    · rename_i h
      have := ofNat_dig u h
      simp only [val, List.foldl_cons, List.foldl_nil, this]
      omega
    · rename_i h
      rw [val_snoc, ih (u / 10) (by omega), ofNat_dig (u % 10) (by omega)]
      omega
theorem dec_dig (u : Nat) : (Lib.decDigits u).all dig = true := by
  induction u using Nat.strongRecOn with
  | ind u ih =>
    rw [Lib.decDigits]
    split
    · rename_i h
      have := ofNat_dig u h
      simp only [List.all_cons, List.all_nil, Bool.and_true, dig_iff]
      omega
    · rename_i h
      have := ofNat_dig (u % 10) (by omega)
      rw [List.all_append, ih (u / 10) (by omega)]
      simp only [List.all_cons, List.all_nil, Bool.and_true, Bool.true_and, dig_iff]
      omega
theorem dec_ne (u : Nat) : Lib.decDigits u ≠ [] := by
  rw [Lib.decDigits]
  split <;> simp
theorem dec_length (k : Nat) : ∀ u, u < 10 ^ (k + 1) → (Lib.decDigits u).length ≤ k + 1 := by
  induction k with
  | zero =>
    intro u h
    rw [Lib.decDigits, dif_pos (by simpa using h)]
    simp
  | succ k ih =>
    intro u h
    rw [Lib.decDigits]
    split
    · simp
    · rw [List.length_append, List.length_singleton]
      have := ih (u / 10) (by rw [Nat.div_lt_iff_lt_mul (by omega)]; rw [Nat.pow_succ] at h; exact h)
      omega
theorem head_app {l m : List UInt8} (h : l ≠ []) : (l ++ m).head? = l.head? := by
  cases l with
  | nil => exact absurd rfl h
  | cons a t => rfl
theorem dec_head (u : Nat) : (Lib.decDigits u).head? = some 48 → u = 0 := by
  induction u using Nat.strongRecOn with
  | ind u ih =>
    intro hh
    rw [Lib.decDigits] at hh
    split at hh
    · rename_i h
      simp only [List.head?_cons, Option.some.injEq] at hh
      have := ofNat_dig u h
      rw [hh] at this
      have e : (48 : UInt8).toNat = 48 := rfl
      omega
    · rename_i h
      have hne := dec_ne (u / 10)
      rw [head_app hne] at hh
      have := ih (u / 10) (by omega) hh
      omega
/-- A number's digits, without a needless 0 ahead. -/
def Plain (l : List UInt8) : Prop := l ≠ [] ∧ l.all dig = true ∧ (l.head? = some 48 → l.length ≤ 1)
instance (l : List UInt8) : Decidable (Plain l) := by unfold Plain; infer_instance
theorem plain_dec (u : Nat) : Plain (Lib.decDigits u) := by
  refine ⟨dec_ne u, dec_dig u, fun h => ?_⟩
  have := dec_head u h
  subst this
  simp [Lib.decDigits]
theorem dec_val_len (n : Nat) : ∀ l : List UInt8, l.length = n → Plain l → Lib.decDigits (val l) = l := by
  induction n with
  | zero => intro l h hp; exact absurd (List.length_eq_zero_iff.1 h) hp.1
  | succ n ih =>
    intro l h hp
    obtain ⟨r, c, rfl⟩ : ∃ r c, l = r ++ [c] := ⟨l.dropLast, l.getLast hp.1, (List.dropLast_concat_getLast hp.1).symm⟩
    obtain ⟨_, hd, hz⟩ := hp
    rw [List.all_append, Bool.and_eq_true] at hd
    have hc : dig c = true := by simpa using hd.2
    have hc' := (dig_iff c).1 hc
    rw [val_snoc]
    by_cases hr : r = []
    · subst hr
      rw [Lib.decDigits, dif_pos (by simp [val]; omega)]
      simp only [val, List.foldl_nil, Nat.zero_mul, Nat.zero_add, List.nil_append]
      rw [dig_back c hc]
    · have hlen : (r ++ [c]).length = n + 1 := h
      rw [List.length_append, List.length_singleton] at hlen
      have hpos : 1 ≤ r.length := by cases r with | nil => exact absurd rfl hr | cons a t => simp
      have hh : r.head? ≠ some 48 := fun e => by
        have := hz (by rw [head_app hr]; exact e)
        rw [List.length_append, List.length_singleton] at this
        omega
      have ihr := ih r (by omega) ⟨hr, hd.1, fun e => absurd e hh⟩
      have hv : 1 ≤ val r := by
        rcases Nat.eq_zero_or_pos (val r) with e | e
        · rw [e] at ihr
          exact absurd (by rw [← ihr]; simp [Lib.decDigits]) hh
        · exact e
      rw [Lib.decDigits, dif_neg (by omega), show (val r * 10 + (c.toNat - 48)) / 10 = val r by omega, show (val r * 10 + (c.toNat - 48)) % 10 = c.toNat - 48 by omega, ihr, dig_back c hc]
theorem dec_val {l : List UInt8} (h : Plain l) : Lib.decDigits (val l) = l := dec_val_len l.length l rfl h
theorem decFrom_val : ∀ (l : List UInt8) (acc : Nat), l.all dig = true → Lib.decFrom acc l = some (l.foldl (fun a c => a * 10 + (c.toNat - 48)) acc)
  | [], _, _ => rfl
  | c :: l, acc, h => by
    rw [List.all_cons, Bool.and_eq_true] at h
    have hc := (dig_iff c).1 h.1
    rw [Lib.decFrom, Lib.digitVal, if_pos hc]
    exact decFrom_val l _ h.2
theorem atoi_val {l : List UInt8} (h : Plain l) : Lib.atoi l = some (val l : Int) := by
  obtain ⟨hne, hd, _⟩ := h
  cases l with
  | nil => exact absurd rfl hne
  | cons b r =>
    have hb : dig b = true := by rw [List.all_cons, Bool.and_eq_true] at hd; exact hd.1
    have hb' := (dig_iff b).1 hb
    have h45 : (b == 45) = false := by
      rw [beq_eq_false_iff_ne]
      intro e
      subst e
      have : (45 : UInt8).toNat = 45 := rfl
      omega
    have h43 : (b == 43) = false := by
      rw [beq_eq_false_iff_ne]
      intro e
      subst e
      have : (43 : UInt8).toNat = 43 := rfl
      omega
    rw [Lib.atoi, h45, h43]
    simp only [Bool.false_eq_true, if_false]
    rw [Lib.decNat, if_neg (by simp), decFrom_val _ _ hd]
    rfl
/-- What the program reads as a number. -/
def numL (l : List UInt8) : Option Nat :=
  match Lib.atoiAll l with
  | .ok v => if 0 ≤ v ∧ v ≤ (most : Int) ∧ Lib.itoa v = l then some v.toNat else none
  | _ => none
/-- What the document calls a number. -/
def refNum (l : List UInt8) : Option Nat := if Plain l ∧ l.length ≤ 13 ∧ val l ≤ most then some (val l) else none
theorem itoa_nat (n : Nat) : Lib.itoa (n : Int) = Lib.decDigits n := by
  unfold Lib.itoa
  rw [if_neg (by omega), Int.toNat_natCast]
theorem numL_dec (n : Nat) (h : n ≤ most) : numL (Lib.decDigits n) = some n := by
  have hl := dec_length 12 n (by unfold most at h; omega)
  unfold numL
  rw [Lib.atoiAll_short _ (by omega), atoi_val (plain_dec n), val_dec]
  simp only [Lib.NumEnd.ofOption]
  rw [itoa_nat, if_pos ⟨by omega, by omega, rfl⟩, Int.toNat_natCast]
theorem numL_some {l : List UInt8} {n : Nat} (h : numL l = some n) : l = Lib.decDigits n ∧ n ≤ most := by
  unfold numL at h
  split at h
  · rename_i v _
    split at h
    · rename_i hv
      obtain ⟨h0, h1, h2⟩ := hv
      obtain ⟨m, rfl⟩ := Int.eq_ofNat_of_zero_le h0
      rw [Int.toNat_natCast] at h
      obtain rfl := Option.some.inj h
      rw [itoa_nat] at h2
      exact ⟨h2.symm, by omega⟩
    · cases h
  · cases h
theorem numL_eq (l : List UInt8) : numL l = refNum l := by
  unfold refNum
  split
  · rename_i h
    obtain ⟨h1, h2, h3⟩ := h
    have := numL_dec (val l) h3
    rwa [dec_val h1] at this
  · rename_i h
    cases hn : numL l with
    | none => rfl
    | some n =>
      obtain ⟨rfl, hm⟩ := numL_some hn
      exact absurd ⟨plain_dec n, dec_length 12 n (by unfold most at hm; omega), by rw [val_dec]; exact hm⟩ h
end Go.Proofs.YtipccndoffcfiaaDoor.Script
