/- A number as it is written, plainly: what Atoi reads and Itoa gives back is what the document calls a number. -/
import Derived.Lib.ItoaNum
import Derived.Lib.AtoiTie
import Derived.Test.YtipccndoffcfiaaDoorShelf
import Derived.Lib.LaidTab
import Derived.Lib.ItoaLen
import Derived.Stop.LaidErr
import Derived.Below
import Derived.WalkSmall
import Derived.WalkKit
import Derived.BigQuiet
import Derived.Deep.RegionHeld3
import Derived.Lib.Hide
import Derived.Deep.LoopGhost
import Derived.OwnWalk
import Derived.Test.YtipccndoffcfiaaDoorPRefx0
section
namespace Go.Proofs.YtipccndoffcfiaaDoor.Script
def most : Nat := 1099511627776
def val (l : List UInt8) : Nat := l.foldl (fun a c => a * 10 + (c.toNat - 48)) 0
def dig (c : UInt8) : Bool := decide (48 ≤ c.toNat) && decide (c.toNat ≤ 57)
theorem dig_iff (c : UInt8) : dig c = true ↔ 48 ≤ c.toNat ∧ c.toNat ≤ 57 := by simp [dig]
theorem val_snoc (l : List UInt8) (c : UInt8) : val (l ++ [c]) = val l * 10 + (c.toNat - 48) := by simp [val, List.foldl_append]
theorem ofNat_dig (d : Nat) (h : d < 10) : (UInt8.ofNat (48 + d)).toNat = 48 + d := by
  rw [UInt8.toNat_ofNat']
  omega
theorem dig_back (c : UInt8) (h : dig c = true) : UInt8.ofNat (48 + (c.toNat - 48)) = c := by
  rw [dig_iff] at h
  rw [show 48 + (c.toNat - 48) = c.toNat by omega]
  exact UInt8.ofNat_toNat
theorem val_dec (u : Nat) : val (Lib.decDigits u) = u := by
  induction u using Nat.strongRecOn with
  | ind u ih =>
    rw [Lib.decDigits]
    split
    · rename_i h
      have := ofNat_dig u h
      simp only [val, List.foldl_cons, List.foldl_nil, this]
      omega
    · rename_i h
      rw [val_snoc, ih (u / 10) (by omega), ofNat_dig (u % 10) (by omega)]
      omega
theorem dec_dig (u : Nat) : (Lib.decDigits u).all dig = true := by
  induction u using Nat.strongRecOn with
  | ind u ih =>
    rw [Lib.decDigits]
    split
    · rename_i h
      have := ofNat_dig u h
      simp only [List.all_cons, List.all_nil, Bool.and_true, dig_iff]
      omega
    · rename_i h
      have := ofNat_dig (u % 10) (by omega)
      rw [List.all_append, ih (u / 10) (by omega)]
      simp only [List.all_cons, List.all_nil, Bool.and_true, Bool.true_and, dig_iff]
      omega
theorem dec_ne (u : Nat) : Lib.decDigits u ≠ [] := by
  rw [Lib.decDigits]
  split <;> simp
theorem dec_length (k : Nat) : ∀ u, u < 10 ^ (k + 1) → (Lib.decDigits u).length ≤ k + 1 := by
  induction k with
  | zero =>
    intro u h
    rw [Lib.decDigits, dif_pos (by simpa using h)]
    simp
  | succ k ih =>
    intro u h
    rw [Lib.decDigits]
    split
    · simp
    · rw [List.length_append, List.length_singleton]
      have := ih (u / 10) (by rw [Nat.div_lt_iff_lt_mul (by omega)]; rw [Nat.pow_succ] at h; exact h)
      omega
theorem head_app {l m : List UInt8} (h : l ≠ []) : (l ++ m).head? = l.head? := by
  cases l with
  | nil => exact absurd rfl h
  | cons a t => rfl
theorem dec_head (u : Nat) : (Lib.decDigits u).head? = some 48 → u = 0 := by
  induction u using Nat.strongRecOn with
  | ind u ih =>
    intro hh
    rw [Lib.decDigits] at hh
    split at hh
    · rename_i h
      simp only [List.head?_cons, Option.some.injEq] at hh
      have := ofNat_dig u h
      rw [hh] at this
      have e : (48 : UInt8).toNat = 48 := rfl
      omega
    · rename_i h
      have hne := dec_ne (u / 10)
      rw [head_app hne] at hh
      have := ih (u / 10) (by omega) hh
      omega
/-- A number's digits, without a needless 0 ahead. -/
def Plain (l : List UInt8) : Prop := l ≠ [] ∧ l.all dig = true ∧ (l.head? = some 48 → l.length ≤ 1)
instance (l : List UInt8) : Decidable (Plain l) := by unfold Plain; infer_instance
theorem plain_dec (u : Nat) : Plain (Lib.decDigits u) := by
  refine ⟨dec_ne u, dec_dig u, fun h => ?_⟩
  have := dec_head u h
  subst this
  simp [Lib.decDigits]
theorem dec_val_len (n : Nat) : ∀ l : List UInt8, l.length = n → Plain l → Lib.decDigits (val l) = l := by
  induction n with
  | zero => intro l h hp; exact absurd (List.length_eq_zero_iff.1 h) hp.1
  | succ n ih =>
    intro l h hp
    obtain ⟨r, c, rfl⟩ : ∃ r c, l = r ++ [c] := ⟨l.dropLast, l.getLast hp.1, (List.dropLast_concat_getLast hp.1).symm⟩
    obtain ⟨_, hd, hz⟩ := hp
    rw [List.all_append, Bool.and_eq_true] at hd
    have hc : dig c = true := by simpa using hd.2
    have hc' := (dig_iff c).1 hc
    rw [val_snoc]
    by_cases hr : r = []
    · subst hr
      rw [Lib.decDigits, dif_pos (by simp [val]; omega)]
      simp only [val, List.foldl_nil, Nat.zero_mul, Nat.zero_add, List.nil_append]
      rw [dig_back c hc]
    · have hlen : (r ++ [c]).length = n + 1 := h
      rw [List.length_append, List.length_singleton] at hlen
      have hpos : 1 ≤ r.length := by cases r with | nil => exact absurd rfl hr | cons a t => simp
      have hh : r.head? ≠ some 48 := fun e => by
        have := hz (by rw [head_app hr]; exact e)
        rw [List.length_append, List.length_singleton] at this
        omega
      have ihr := ih r (by omega) ⟨hr, hd.1, fun e => absurd e hh⟩
      have hv : 1 ≤ val r := by
        rcases Nat.eq_zero_or_pos (val r) with e | e
        · rw [e] at ihr
          exact absurd (by rw [← ihr]; simp [Lib.decDigits]) hh
        · exact e
      rw [Lib.decDigits, dif_neg (by omega), show (val r * 10 + (c.toNat - 48)) / 10 = val r by omega, show (val r * 10 + (c.toNat - 48)) % 10 = c.toNat - 48 by omega, ihr, dig_back c hc]
theorem dec_val {l : List UInt8} (h : Plain l) : Lib.decDigits (val l) = l := dec_val_len l.length l rfl h
theorem decFrom_val : ∀ (l : List UInt8) (acc : Nat), l.all dig = true → Lib.decFrom acc l = some (l.foldl (fun a c => a * 10 + (c.toNat - 48)) acc)
  | [], _, _ => rfl
  | c :: l, acc, h => by
    rw [List.all_cons, Bool.and_eq_true] at h
    have hc := (dig_iff c).1 h.1
    rw [Lib.decFrom, Lib.digitVal, if_pos hc]
    exact decFrom_val l _ h.2
theorem atoi_val {l : List UInt8} (h : Plain l) : Lib.atoi l = some (val l : Int) := by
  obtain ⟨hne, hd, _⟩ := h
  cases l with
  | nil => exact absurd rfl hne
  | cons b r =>
    have hb : dig b = true := by rw [List.all_cons, Bool.and_eq_true] at hd; exact hd.1
    have hb' := (dig_iff b).1 hb
    have h45 : (b == 45) = false := by
      rw [beq_eq_false_iff_ne]
      intro e
      subst e
      have : (45 : UInt8).toNat = 45 := rfl
      omega
    have h43 : (b == 43) = false := by
      rw [beq_eq_false_iff_ne]
      intro e
      subst e
      have : (43 : UInt8).toNat = 43 := rfl
      omega
    rw [Lib.atoi, h45, h43]
    simp only [Bool.false_eq_true, if_false]
    rw [Lib.decNat, if_neg (by simp), decFrom_val _ _ hd]
    rfl
/-- What the program reads as a number. -/
def numL (l : List UInt8) : Option Nat :=
  match Lib.atoiAll l with
  | .ok v => if 0 ≤ v ∧ v ≤ (most : Int) ∧ Lib.itoa v = l then some v.toNat else none
  | _ => none
/-- What the document calls a number. -/
def refNum (l : List UInt8) : Option Nat := if Plain l ∧ l.length ≤ 13 ∧ val l ≤ most then some (val l) else none
theorem itoa_nat (n : Nat) : Lib.itoa (n : Int) = Lib.decDigits n := by
  unfold Lib.itoa
  rw [if_neg (by omega), Int.toNat_natCast]
theorem numL_dec (n : Nat) (h : n ≤ most) : numL (Lib.decDigits n) = some n := by
  have hl := dec_length 12 n (by unfold most at h; omega)
  unfold numL
  rw [Lib.atoiAll_short _ (by omega), atoi_val (plain_dec n), val_dec]
  simp only [Lib.NumEnd.ofOption]
  rw [itoa_nat, if_pos ⟨by omega, by omega, rfl⟩, Int.toNat_natCast]
theorem numL_some {l : List UInt8} {n : Nat} (h : numL l = some n) : l = Lib.decDigits n ∧ n ≤ most := by
  unfold numL at h
  split at h
  · rename_i v _
    split at h
    · rename_i hv
      obtain ⟨h0, h1, h2⟩ := hv
      obtain ⟨m, rfl⟩ := Int.eq_ofNat_of_zero_le h0
      rw [Int.toNat_natCast] at h
      obtain rfl := Option.some.inj h
      rw [itoa_nat] at h2
      exact ⟨h2.symm, by omega⟩
    · cases h
  · cases h
theorem numL_eq (l : List UInt8) : numL l = refNum l := by
  unfold refNum
  split
  · rename_i h
    obtain ⟨h1, h2, h3⟩ := h
    have := numL_dec (val l) h3
    rwa [dec_val h1] at this
  · rename_i h
    cases hn : numL l with
    | none => rfl
    | some n =>
      obtain ⟨rfl, hm⟩ := numL_some hn
      exact absurd ⟨plain_dec n, dec_length 12 n (by unfold most at hm; omega), by rw [val_dec]; exact hm⟩ h
end Go.Proofs.YtipccndoffcfiaaDoor.Script
end

section
namespace Go.Proofs.YtipccndoffcfiaaDoor.Script
open Go.RowKit
attribute [local go_sem] Oper.semAt_some
set_option linter.unusedVariables false
set_option linter.unusedSimpArgs false
/-- A number's text. -/
def itoaB (n : Int) : ByteArray := ⟨(Lib.itoa n).toArray⟩
/-- The table stands in the world. -/
def Tab (w : World) : Prop := Lib.TabIs Tryd.prog w "internal/strconv.uint64pow10" .u64 Lib.pow10Tab
theorem gTab : Tryd.prog.globalNamed "internal/strconv.uint64pow10" = some 1 := by kernel_rfl
theorem gTabType : (Tryd.prog.globals[1]?).map (·.type) = some 120 := by kernel_rfl
theorem cellsA : Tryd.prog.cellsOf 120 = 20 := by kernel_rfl
theorem cellsE : Tryd.prog.cellsOf 113 = 1 := by kernel_rfl
theorem gSyn : Tryd.prog.globalNamed "strconv.ErrSyntax" = some 4 := by kernel_rfl
theorem gRan : Tryd.prog.globalNamed "strconv.ErrRange" = some 5 := by kernel_rfl
/-- What the library's functions ask of the world. -/
structure Env (w : World) : Prop where
  size : 5 < w.heap.size
  tab : Tab w
  len : ∃ m, w.cell? ⟨0, 0, none⟩ = some (.int .i64 m)
  syn : ∃ tp p, w.var? Tryd.prog "strconv.ErrSyntax" = some #[.iface tp p]
  ran : ∃ tp p, w.var? Tryd.prog "strconv.ErrRange" = some #[.iface tp p]
theorem Env.blocks {w w' : World} (h : Env w) (hs : w.heap.size ≤ w'.heap.size) (hb : ∀ k, k < 6 → w'.heap[k]? = w.heap[k]?) : Env w' := by
  refine ⟨Nat.lt_of_lt_of_le h.size hs, ?_, ?_, ?_, ?_⟩
  · have ht := h.tab
    unfold Tab Lib.TabIs World.var? at ht ⊢
    rw [gTab] at ht ⊢
    simp only [Option.bind_some] at ht ⊢
    rw [hb 1 (by omega)]
    exact ht
  · obtain ⟨m, hm⟩ := h.len
    refine ⟨m, ?_⟩
    rw [← hm]
    simp only [World.cell?, hb 0 (by omega)]
  · obtain ⟨tp, p, hv⟩ := h.syn
    refine ⟨tp, p, ?_⟩
    unfold World.var? at hv ⊢
    rw [gSyn] at hv ⊢
    simp only [Option.bind_some] at hv ⊢
    rw [hb 4 (by omega)]
    exact hv
  · obtain ⟨tp, p, hv⟩ := h.ran
    refine ⟨tp, p, ?_⟩
    unfold World.var? at hv ⊢
    rw [gRan] at hv ⊢
    simp only [Option.bind_some] at hv ⊢
    rw [hb 5 (by omega)]
    exact hv
theorem Env.below {w w' : World} (h : Env w) (hb : Below w.heap.size w w') : Env w' := h.blocks hb.size (fun k hk => hb.block k (by have := h.size; omega))
theorem Env.from {w w' : World} {n : Nat} (h : Env w) (hn : 6 ≤ n) (hb : Below n w w') : Env w' := h.blocks hb.size (fun k hk => hb.block k (by omega))
theorem below_grow (w : World) (k : Nat) (os : Array Obj) : Below w.heap.size w (Sort.grow (w.drewN k) os) :=
  ⟨rfl, rfl, rfl, by simp [Sort.grow], fun i hi => by simp [Sort.grow]; exact Array.getElem?_append_left hi⟩
theorem itoa_calls (x : Int) (w : World) (hb : -9223372036854775808 ≤ x ∧ x ≤ 9223372036854775807) (ht : Env w) : Calls Tryd.prog 46 #[.int .i64 x] w fun e w' => e = .returned (.string (itoaB x)) ∧ Below w.heap.size w w' := by
  refine (Tryd.strconv_Itoa x ?_ ?_ w ht.tab).mono ?_
  · exact hb.1
  · exact hb.2
  · rintro e w' ⟨rfl, k, os, rfl⟩
    exact ⟨rfl, below_grow w k os⟩

def AtoiPost (s : ByteArray) (w : World) (e : Ending) (w' : World) : Prop := ∃ (v : Int) (x : Value), e = .returned (.tuple #[.int .i64 v, x]) ∧ ((x = .nilIface ∧ Lib.atoiAll s.data.toList = .ok v) ∨ ((∃ N, x = .iface 131 (.pointer (some ⟨N, 0, none⟩))) ∧ ∀ u, Lib.atoiAll s.data.toList ≠ .ok u)) ∧ Below w.heap.size w w'
theorem atoi_calls (s : ByteArray) (w : World) (hs : s.size ≤ 1000000) (h : Env w) : Calls Tryd.prog 71 #[.string s] w (AtoiPost s w) := by
  rcases ha : Lib.atoiAll s.data.toList with v | _ | _
  · refine (Tryd.strconv_Atoi_ok s (by omega) v ha w).mono ?_
    rintro e w' ⟨rfl, hw⟩
    refine ⟨v, _, rfl, .inl ⟨rfl, ha⟩, ?_⟩
    rcases hw with rfl | ⟨t, rfl⟩
    · exact Below.refl _ _
    · exact ⟨rfl, rfl, rfl, by rw [Lib.bytesWorld_size]; omega, fun j hj => Lib.bytesWorld_at_old w 5 t j hj⟩
  · obtain ⟨tp, p, hv⟩ := h.syn
    refine (Tryd.strconv_Atoi_syntax_var s (by omega) ha tp p w hv).mono ?_
    rintro e w' ⟨N, rfl, _, _, hb⟩
    exact ⟨0, _, rfl, .inr ⟨⟨N, rfl⟩, fun u e => by rw [ha] at e; cases e⟩, hb⟩
  · obtain ⟨tp, p, hv⟩ := h.ran
    refine (Tryd.strconv_Atoi_range_var s (by omega) ha tp p w hv).mono ?_
    rintro e w' ⟨N, rfl, _, _, hb⟩
    exact ⟨_, _, rfl, .inr ⟨⟨N, rfl⟩, fun u e => by rw [ha] at e; cases e⟩, hb⟩
end Go.Proofs.YtipccndoffcfiaaDoor.Script
end

section
namespace Go.Proofs.YtipccndoffcfiaaDoor.Script
open Go.RowKit
attribute [local go_sem] Oper.semAt_some
set_option linter.unusedVariables false
set_option linter.unusedSimpArgs false
theorem tl_inj {a b : ByteArray} (h : a.toList = b.toList) : a = b := by
  rw [ByteArray.toList_eq, ByteArray.toList_eq] at h
  cases a
  cases b
  simp at h
  rw [h]
theorem tl_ne {a b : ByteArray} (h : ¬ a = b) : ¬ a.toList = b.toList := fun e => h (tl_inj e)
theorem tl_beq {a b : ByteArray} (h : ¬ a = b) : (a.toList == b.toList) = false := by simpa using tl_ne h
theorem tl_dec {a b : ByteArray} (h : ¬ a = b) : decide (a.toList = b.toList) = false := decide_eq_false (tl_ne h)
/-- The number that a text spells. -/
def numB (s : ByteArray) : Option Nat := numL s.data.toList
theorem itoaB_eq (v : Int) (s : ByteArray) : itoaB v = s ↔ Lib.itoa v = s.data.toList := by
  unfold itoaB
  constructor
  · intro h; subst h; rfl
  · intro h
    rw [h]
def NumPost (s : ByteArray) (w : World) (e : Ending) (w' : World) : Prop := e = .returned (.tuple #[.int .i64 (((numB s).getD 0 : Nat) : Int), .bool (numB s).isSome]) ∧ Below w.heap.size w w'
theorem num_none {s : ByteArray} (h : numB s = none) (w w' : World) (hb : Below w.heap.size w w') : NumPost s w (.returned (.tuple #[.int .i64 0, .bool false])) w' := by
  refine ⟨?_, hb⟩
  rw [h]
  rfl
set_option maxHeartbeats 4000000 in
set_option maxRecDepth 100000 in
theorem number_calls (s : ByteArray) (w : World) (hs : s.size ≤ 1000000) (h : Env w) : Calls Tryd.prog 64 #[.string s] w (NumPost s w) := by
  have HE := Lib.hid h
  clear h
  go_enter Tryd.func64, Tryd.ntmps64
  go_wp2_with fail
  refine (atoi_calls s _ hs HE.out).mono ?_
  rintro e w1 ⟨v, x, rfl, hx, hb⟩
  have HB := Lib.hid hb
  clear hb
  rcases hx with ⟨rfl, ha⟩ | ⟨⟨N, rfl⟩, hn⟩
  · have hbd := Lib.atoiAll_bounds ha
    have hdef : numB s = if 0 ≤ v ∧ v ≤ (most : Int) ∧ Lib.itoa v = s.data.toList then some v.toNat else none := by
      unfold numB numL
      rw [ha]
    have HD := Lib.hid hdef
    clear ha hdef
    by_cases h0 : v < 0
    · have d0 : decide (v < 0) = true := decide_eq_true h0
      go_wp2_with fail
      go_ret2
      exact num_none (by rw [HD.out, if_neg (by rintro ⟨a, _⟩; omega)]) _ _ HB.out
    · have d0 : decide (v < 0) = false := decide_eq_false h0
      by_cases h1 : 1099511627776 < v
      · have d1 : decide (1099511627776 < v) = true := decide_eq_true h1
        go_wp2_with fail
        go_ret2
        exact num_none (by rw [HD.out, if_neg (by rintro ⟨_, a, _⟩; unfold most at a; omega)]) _ _ HB.out
      · have d1 : decide (1099511627776 < v) = false := decide_eq_false h1
        go_wp2_with fail
        refine (itoa_calls v _ hbd (HE.out.below HB.out)).mono ?_
        rintro e w2 ⟨rfl, hb⟩
        replace HB := Lib.hid (HB.out.trans (hb.mono HB.out.size))
        clear hb
        by_cases he : itoaB v = s
        · have hv : numB s = some v.toNat := by rw [HD.out, if_pos ⟨by omega, by unfold most; omega, (itoaB_eq v s).1 he⟩]
          have HV := Lib.hid hv
          rw [he]
          clear hv he HD
          go_wp2_with fail
          go_ret2
          refine ⟨?_, HB.out⟩
          rw [HV.out]
          simp only [Option.getD_some, Option.isSome_some]
          rw [Int.toNat_of_nonneg (by omega)]
          rfl
        · have hv : numB s = none := by rw [HD.out, if_neg (by rintro ⟨_, _, a⟩; exact he ((itoaB_eq v s).2 a))]
          have HV := Lib.hid hv
          generalize itoaB v = t at he ⊢
          have t1 := tl_ne he
          have t1' := tl_beq he
          have t1'' := tl_dec he
          clear hv HD
          go_wp2_with fail
          go_ret2
          exact num_none HV.out _ _ HB.out
  · have hv : numB s = none := by
      unfold numB numL
      split
      · rename_i u hu
        exact absurd hu (hn u)
      · rfl
    have HV := Lib.hid hv
    clear hv hn
    go_wp2_with fail
    go_ret2
    exact num_none HV.out _ _ HB.out
end Go.Proofs.YtipccndoffcfiaaDoor.Script
end

section
namespace Go.Proofs.YtipccndoffcfiaaDoor.Script
open Go.RowKit Go.Proofs.YtipccndoffcfiaaDoor.PRef Go.Proofs.YtipccndoffcfiaaDoorW.PrintWords
attribute [local go_sem] Oper.semAt_some
set_option linter.unusedVariables false
set_option linter.unusedSimpArgs false
/-- Texts that are read: the address, the capacity. -/
def TX (W : World) (A : Option Addr) (c : Nat) (l : List ByteArray) : Prop := Kd.C Kd.string W A l.length l ∧ l.length ≤ c
theorem TX.below {W W' : World} {A : Option Addr} {c : Nat} {l : List ByteArray} (h : TX W A c l) (hb : Below W.heap.size W W') : TX W' A c l := ⟨Kd.C_below h.1 hb, h.2⟩
theorem TX.at_ {W : World} {A : Option Addr} {c : Nat} {l : List ByteArray} (h : TX W A c l) (k : Nat) (hk : k < l.length) : ∃ ad, A = some ad ∧ (ad.add k).block < W.heap.size ∧ W.cell? (ad.add k) = some (.string l[k]) := by
  obtain ⟨ad, e, hc⟩ := ReadsOf.at_ (Kd.reads_of_C (d := ByteArray.empty) h.1) (k : Int) (by omega) (by omega)
  have hc' : W.cell? (ad.add k) = some (.string l[k]) := by
    rw [Int.toNat_natCast] at hc
    rw [hc]
    simp [rdOf, List.getD_eq_getElem?_getD, hk]
  exact ⟨ad, e, World.block_lt_of_cell? W _ hc', hc'⟩
theorem TX.lt {W : World} {A : Option Addr} {c : Nat} {l : List ByteArray} (h : TX W A c l) (hl : l ≠ []) (ad : Addr) (ha : A = some ad) : ad.block < W.heap.size := by
  have h0 : 0 < l.length := by cases l with | nil => exact absurd rfl hl | cons x r => simp
  obtain ⟨ad', e, hb, _⟩ := h.at_ 0 h0
  rw [ha] at e
  cases e
  have : (ad.add 0).block = ad.block := by unfold Addr.add; split <;> rfl
  rwa [this] at hb
/-- What turns one block alone. -/
structure Turn (b : Nat) (w w' : World) : Prop where
  os : w'.os = w.os
  tape : w'.tape = w.tape
  output : w'.output = w.output
  size : w.heap.size ≤ w'.heap.size
  block : ∀ k, k < w.heap.size → k ≠ b → w'.heap[k]? = w.heap[k]?
theorem Turn.refl (b : Nat) (w : World) : Turn b w w := ⟨rfl, rfl, rfl, Nat.le_refl _, fun _ _ _ => rfl⟩
theorem Turn.trans {b : Nat} {w w1 w2 : World} (h : Turn b w w1) (k : Turn b w1 w2) : Turn b w w2 :=
  ⟨k.os.trans h.os, k.tape.trans h.tape, k.output.trans h.output, Nat.le_trans h.size k.size, fun i hi hn => (k.block i (Nat.lt_of_lt_of_le hi h.size) hn).trans (h.block i hi hn)⟩
theorem Turn.of_below {b : Nat} {w w' : World} (h : Below w.heap.size w w') : Turn b w w' := ⟨h.os, h.tape, h.output, h.size, fun k hk _ => h.block k hk⟩
theorem Turn.set {b : Nat} (w : World) {p : Addr} (hp : p.block = b) (v : Value) : Turn b w (w.setCell p v) := ⟨rfl, rfl, rfl, by simp [World.setCell], fun k hk hn => Below.heap_setCell w p v k (by rw [hp]; exact hn)⟩
theorem Turn.below {b n : Nat} {w w' : World} (h : Turn b w w') (hb : n ≤ b) (hn : n ≤ w.heap.size) : Below n w w' := ⟨h.os, h.tape, h.output, h.size, fun k hk => h.block k (Nat.lt_of_lt_of_le hk hn) (by omega)⟩
theorem Turn.env {b : Nat} {w w' : World} (h : Turn b w w') (he : Env w) (hb : 6 ≤ b) : Env w' := he.blocks h.size (fun k hk => h.block k (by have := he.size; omega) (by omega))
theorem Turn.cell {b : Nat} {w w' : World} (h : Turn b w w') {p : Addr} {x : Value} (hp : w.cell? p = some x) (hn : p.block ≠ b) : w'.cell? p = some x := by
  have hlt := World.block_lt_of_cell? w _ hp
  rw [← hp]
  simp only [World.cell?, h.block _ hlt hn]
/-- A block's cells. -/
def Blk (W : World) (b t : Nat) (cs : List Value) : Prop := W.heap[b]? = some (.cells cs.toArray t (0, 0))
theorem Blk.cell {W : World} {b t : Nat} {cs : List Value} (h : Blk W b t cs) (j : Nat) (hj : j < cs.length) : W.cell? ⟨b, j, none⟩ = some cs[j] := by
  unfold Blk at h
  simp [World.cell?, h, hj]
theorem Blk.free {W : World} {b t : Nat} {cs : List Value} (h : Blk W b t cs) (j : Nat) : W.frozen? ⟨b, j, none⟩ = false := by
  unfold Blk at h
  simp [World.frozen?, h]
theorem Blk.lt {W : World} {b t : Nat} {cs : List Value} (h : Blk W b t cs) : b < W.heap.size := (Array.getElem?_eq_some_iff.1 h).1
theorem Blk.turn {W W' : World} {b t c : Nat} {cs : List Value} (h : Blk W b t cs) (ht : Turn c W W') (hn : b ≠ c) : Blk W' b t cs := (ht.block b h.lt hn).trans h
theorem Blk.below {W W' : World} {b t : Nat} {cs : List Value} (h : Blk W b t cs) (hb : Below W.heap.size W W') : Blk W' b t cs := (hb.block b h.lt).trans h
theorem Blk.set {W : World} {b t : Nat} {cs : List Value} (h : Blk W b t cs) (j : Nat) (v : Value) : Blk (W.setCell ⟨b, j, none⟩ v) b t (cs.set j v) := by
  have hlt := h.lt
  have h' : W.heap[b] = .cells cs.toArray t (0, 0) := by
    have h2 : W.heap[b]? = _ := h
    simpa [Array.getElem?_eq_getElem hlt] using h2
  show (W.heap.modify b _)[b]? = _
  rw [Array.getElem?_eq_getElem (by simpa using hlt), Array.getElem_modify_self, h']
  simp
/-- The first cells, written over. -/
def upd (cs : List Value) (ns : List Nat) : List Value := ns.map (fun (n : Nat) => Value.int .i64 (n : Int)) ++ cs.drop ns.length
theorem upd_nil (cs : List Value) : upd cs [] = cs := rfl
theorem upd_snoc (cs : List Value) (ns : List Nat) (n : Nat) (h : ns.length < cs.length) : (upd cs ns).set ns.length (.int .i64 (n : Int)) = upd cs (ns ++ [n]) := by
  unfold upd
  rw [List.set_append_right _ _ (by simp), List.length_map, Nat.sub_self, List.drop_eq_getElem_cons h, List.set_cons_zero, List.map_append, List.length_append, List.length_singleton, List.append_assoc]
  rfl
theorem upd_length (cs : List Value) (ns : List Nat) (h : ns.length ≤ cs.length) : (upd cs ns).length = cs.length := by simp [upd]; omega
/-- Pointers to a block's first cells. -/
def ptrs (b m : Nat) : List Value := (List.range m).map fun j => Value.pointer (some ⟨b, j, none⟩)
theorem mapM_take {l : List ByteArray} {i : Nat} {ns : List Nat} {n : Nat} (hi : i < l.length) (h : (l.take i).mapM numB = some ns) (hn : numB l[i] = some n) : (l.take (i + 1)).mapM numB = some (ns ++ [n]) := by
  rw [List.take_succ_eq_append_getElem hi, List.mapM_append, h]
  simp [hn]
theorem mapM_len : ∀ (l : List ByteArray) (ns : List Nat), l.mapM numB = some ns → ns.length = l.length
  | [], ns, h => by
    simp at h
    subst h
    rfl
  | x :: l, ns, h => by
    rw [List.mapM_cons] at h
    cases hx : numB x with
    | none => rw [hx] at h; simp at h
    | some n =>
      cases hl : l.mapM numB with
      | none => rw [hx, hl] at h; simp at h
      | some ms =>
        rw [hx, hl] at h
        simp at h
        subst h
        simp [mapM_len l ms hl]
theorem mapM_none : ∀ {l : List ByteArray} {i : Nat} (hi : i < l.length), numB l[i] = none → l.mapM numB = none
  | [], i, hi, _ => absurd hi (Nat.not_lt_zero _)
  | x :: l, 0, hi, hn => by
    have hx : numB x = none := hn
    rw [List.mapM_cons, hx]
    rfl
  | x :: l, i + 1, hi, hn => by
    have h := mapM_none (l := l) (i := i) (by simpa using hi) (by simpa using hn)
    rw [List.mapM_cons, h]
    cases numB x <;> rfl
/-- What numbers come to. -/
def NumsPost (l : List ByteArray) (m b t : Nat) (cs : List Value) (w : World) (e : Ending) (w' : World) : Prop :=
  ∃ r : Option (List Nat), r = (if l.length = m then l.mapM numB else none) ∧ e = .returned (.bool r.isSome) ∧ Turn b w w' ∧ (∀ ns, r = some ns → Blk w' b t (upd cs ns)) ∧ ∃ ns', ns'.length ≤ m ∧ Blk w' b t (upd cs ns')
set_option maxHeartbeats 4000000 in
set_option maxRecDepth 100000 in
theorem numbers_calls (A : Option Addr) (c : Nat) (l : List ByteArray) (g m b t tg : Nat) (cs : List Value) (w : World) (hl : TX w A c l) (hne : l ≠ [] → ∀ ad, A = some ad → ad.block ≠ b) (hz : ∀ x ∈ l, x.size ≤ 1000000) (hn : l.length ≤ 1000000)
    (hg : Blk w g tg (ptrs b m)) (hgb : g ≠ b) (hb : Blk w b t cs) (hm : m ≤ cs.length) (h6 : 6 ≤ b) (he : Env w) (hm2 : m ≤ 1000) :
    Calls Tryd.prog 53 #[.slice A l.length c, .slice (some ⟨g, 0, none⟩) m m] w (NumsPost l m b t cs w) := by
  have HL := Lib.hid hl
  have HG := Lib.hid hg
  have HBk := Lib.hid hb
  have HE := Lib.hid he
  have HZ := Lib.hid hz
  have HNE := Lib.hid hne
  clear hl hg hb he hz hne
  by_cases hlen : l.length = m
  · go_enter Tryd.func53, Tryd.ntmps53
    go_wp2_with fail
    go_loopg [5, 6, 7, 8, 16] l.length (fun gg v5 v6 v7 v8 v16 w' => ∃ (i : Nat) (ns : List Nat), v16 = .int .i64 (i : Int) ∧ Hid (i + gg = l.length) ∧ Hid ((l.take i).mapM numB = some ns) ∧ Hid (Turn b w w') ∧ Hid (Blk w' b t (upd cs ns)))
    case atStart => exact ⟨0, [], rfl, Lib.hid (by simp), Lib.hid rfl, Lib.hid (Turn.refl _ _), Lib.hid (by rw [upd_nil]; exact HBk.out)⟩
    case round =>
      obtain ⟨i, ns, rfl, HI, HM, HT, HK⟩ := hrel
      by_cases hlt : i < l.length
      · have hnl : ns.length = i := by rw [mapM_len _ _ HM.out, List.length_take]; omega
        obtain ⟨ad, ead, had, hcw⟩ := HL.out.at_ i hlt
        have hnb : (ad.add i).block ≠ b := by
          have : (ad.add i).block = ad.block := by unfold Addr.add; split <;> rfl
          rw [this]
          exact HNE.out (by intro e; subst e; exact absurd hlt (Nat.not_lt_zero _)) ad ead
        subst ead
        have hc := HT.out.cell hcw hnb
        have hsz := HZ.out _ (List.getElem_mem hlt)
        have hpl : (ptrs b m).length = m := by simp [ptrs]
        have hpi : (ptrs b m)[i]'(by rw [hpl]; omega) = .pointer (some ⟨b, i, none⟩) := by simp [ptrs]
        have hp := (HG.out.turn HT.out hgb).cell i (by rw [hpl]; omega)
        rw [hpi] at hp
        have hf : wr.frozen? ⟨b, i, none⟩ = false := HK.out.free i
        have hEw := HT.out.env HE.out h6
        have hmt : ∀ n, numB l[i] = some n → (l.take (i + 1)).mapM numB = some (ns ++ [n]) := fun n hn => mapM_take hlt HM.out hn
        have hmn := @mapM_none l i hlt
        generalize l[i] = s at hc hsz hmt hmn
        have HMT := Lib.hid hmt
        have HMN := Lib.hid hmn
        have HSZ := Lib.hid hsz
        have HNL := Lib.hid hnl
        clear hmt hmn hsz hcw had hpl hpi hnb hnl
        go_wp2_with fail
        refine (number_calls s _ HSZ.out hEw).mono ?_
        rintro e w1 ⟨rfl, hb1⟩
        have hp1 := (hb1.cell (World.block_lt_of_cell? wr _ hp)).trans hp
        have hf1 : w1.frozen? ⟨b, i, none⟩ = false := (HK.out.below hb1).free i
        replace HK := Lib.hid (HK.out.below hb1)
        replace HT := Lib.hid (HT.out.trans (Turn.of_below hb1))
        clear hb1 hc hp hf hEw
        cases hn9 : numB s with
        | none =>
          have HN9 := Lib.hid hn9
          clear hn9
          simp only [Option.isSome_none, Option.getD_none]
          go_wp2_with fail
          go_ret
          exact ⟨none, by rw [if_pos hlen, HMN.out HN9.out], rfl, HT.out, (fun ns h => by cases h), ns, by rw [HNL.out]; omega, HK.out⟩
        | some n =>
          have HN9 := Lib.hid hn9
          clear hn9
          simp only [Option.isSome_some, Option.getD_some]
          obtain ⟨old, hk⟩ : ∃ old, w1.cell? ⟨b, i, none⟩ = some old := ⟨_, HK.out.cell i (by rw [upd_length cs ns (by rw [HNL.out]; omega)]; omega)⟩
          go_wp2_with fail
          go_roundg (l.length - (i + 1))
          case measure => have := HI.out; omega
          case rel =>
            refine ⟨i + 1, ns ++ [n], by go_num, Lib.hid (by omega), Lib.hid (HMT.out n HN9.out), Lib.hid (HT.out.trans (Turn.set (p := ⟨b, i, none⟩) _ rfl _)), Lib.hid ?_⟩
            have := HK.out.set i (.int .i64 (n : Int))
            have e := upd_snoc cs ns n (by rw [HNL.out]; omega)
            rw [HNL.out] at e
            rwa [e] at this
      · have hi : i = l.length := by have := HI.out; omega
        subst hi
        rw [List.take_length] at HM
        go_wp2_with fail
        go_ret
        exact ⟨some ns, by rw [if_pos hlen, HM.out], rfl, HT.out, (fun ms h => by cases h; exact HK.out), ns, by rw [mapM_len _ _ HM.out]; omega, HK.out⟩
  · have e1 : decide ((l.length : Int) = (m : Int)) = false := decide_eq_false (by omega)
    have e2 : ((l.length : Int) == (m : Int)) = false := beq_false_of_ne (by omega)
    go_enter Tryd.func53, Tryd.ntmps53
    go_wp2_with fail
    go_ret
    exact ⟨none, by rw [if_neg hlen], rfl, Turn.refl _ _, (fun ns h => by cases h), [], Nat.zero_le _, HBk.out⟩
end Go.Proofs.YtipccndoffcfiaaDoor.Script
end

section
namespace Go.Proofs.YtipccndoffcfiaaDoor.Script
open Go.RowKit Go.Proofs.YtipccndoffcfiaaDoor.PRef Go.Proofs.YtipccndoffcfiaaDoorW.PrintWords
attribute [local go_sem] Oper.semAt_some
set_option linter.unusedVariables false
set_option linter.unusedSimpArgs false
theorem ptrs_alloc (w : World) (b : Nat) (t : Nat) (cs : List Value) : Blk (w.alloc (.cells cs.toArray t)) w.heap.size t cs := by
  show (w.heap.push _)[w.heap.size]? = _
  simp
theorem below_push (w : World) (o : Obj) : Below w.heap.size w (w.alloc o) := ⟨rfl, rfl, rfl, by simp, fun k hk => Below.heap_alloc w o k hk⟩
theorem drewB (w : World) : Below w.heap.size w w.drew := ⟨rfl, rfl, rfl, Nat.le_refl _, fun _ _ => rfl⟩
theorem pushed (w : World) (o : Obj) : Below w.heap.size w (w.alloc o).drew := (below_push w o).trans ((drewB _).mono (by simp))
theorem upd_five (cs : List Int) (esv : Value) (ns : List Nat) (hc : cs.length = 5) (hn : ns.length = 5) : upd (cs.map (Value.int .i64) ++ [esv]) ns = ns.map (fun (n : Nat) => Value.int .i64 (n : Int)) ++ [esv] := by
  unfold upd
  rw [List.drop_append_of_le_length (by simp; omega), List.drop_eq_nil_of_le (by simp; omega)]
  rfl
theorem len5 {l : List ByteArray} {r : Option (List Nat)} {ns : List Nat} {m : Nat} (hr : r = (if l.length = m then l.mapM numB else none)) (h : r = some ns) : ns.length = m := by
  rw [hr] at h
  split at h
  · rename_i e
    rw [mapM_len _ _ h, e]
  · cases h
def SetPost (l : List ByteArray) (rb : Nat) (esv : Value) (w : World) (e : Ending) (w' : World) : Prop :=
  ∃ r : Option (List Nat), r = (if l.length = 5 then l.mapM numB else none) ∧ e = .returned (.bool r.isSome) ∧ Turn rb w w' ∧ ∀ ns, r = some ns → Blk w' rb 53 (ns.map (fun (n : Nat) => Value.int .i64 (n : Int)) ++ [esv])
set_option maxHeartbeats 4000000 in
set_option maxRecDepth 100000 in
theorem set_calls (A : Option Addr) (c : Nat) (l : List ByteArray) (rb : Nat) (cs : List Int) (esv : Value) (w : World) (hl : TX w A c l) (hne : l ≠ [] → ∀ ad, A = some ad → ad.block ≠ rb) (hz : ∀ x ∈ l, x.size ≤ 1000000) (hn : l.length ≤ 1000000)
    (hb : Blk w rb 53 (cs.map (Value.int .i64) ++ [esv])) (hc5 : cs.length = 5) (h6 : 6 ≤ rb) (he : Env w) :
    Calls Tryd.prog 39 #[.pointer (some ⟨rb, 0, none⟩), .slice A l.length c] w (SetPost l rb esv w) := by
  have HL := Lib.hid hl
  have HBk := Lib.hid hb
  have HE := Lib.hid he
  have HZ := Lib.hid hz
  have HNE := Lib.hid hne
  have HLT := Lib.hid hb.lt
  clear hl hb he hz hne
  go_enter Tryd.func39, Tryd.ntmps39
  go_wp2_with fail
  go_region_held3 (fun _ => True) (exact trivial) (first
    | (go_at_call 53; refine (numbers_calls A c l w.heap.size 5 rb 53 95 (cs.map (Value.int .i64) ++ [esv]) _ (HL.out.below (pushed w _)) HNE.out HZ.out hn (ptrs_alloc w rb 95 (ptrs rb 5)) (by have := HLT.out; omega) (HBk.out.below (pushed w _)) (by simp; omega) h6 (HE.out.below (pushed w _)) (by omega)).mono ?_; rintro e w2 ⟨r, hr, rfl, ht, hs, -⟩; have HR := Lib.hid hr; have HT := Lib.hid ((Turn.of_below (pushed w _)).trans ht); have HS := Lib.hid hs; clear hr ht hs))
  go_wp2_with fail
  go_ret
  exact ⟨r, HR.out, rfl, HT.out, fun ns h => by have := HS.out ns h; rwa [upd_five cs esv ns hc5 (len5 HR.out h)] at this⟩
end Go.Proofs.YtipccndoffcfiaaDoor.Script
end

section
namespace Go.Proofs.YtipccndoffcfiaaDoor.Script
open Go.RowKit Go.Proofs.YtipccndoffcfiaaDoor.PRef Go.Proofs.YtipccndoffcfiaaDoorW.PrintWords Go.Proofs.YtipccndoffcfiaaDoorW.PrintLast
attribute [local go_sem] Oper.semAt_some
set_option linter.unusedVariables false
set_option linter.unusedSimpArgs false
/-- The row of events is kept where another block turns. -/
theorem R_kept {W W' : World} {B : Nat} {v : Value} {l : List S47} (h : Kd.R k47 47 W B (fun _ => True) v l) (hb : ∀ k, B ≤ k → k < W.heap.size → W'.heap[k]? = W.heap[k]?) : Kd.R k47 47 W' B (fun _ => True) v l :=
  Kd.R_mono (Kd.R_move (Kd.R_bound h) (fun k hk => hb k hk.2.1 hk.2.2.1)) (fun _ hk => hk.1)
theorem infoEv : (Tryd.prog.info? 47).map (fun i => (i.zero, i.size, i.bytes)) = some (some (.agg #[.int .i64 0, .int .i64 0, .string ⟨#[]⟩]), 3, 32) := by kernel_rfl
/-- The reader: its numbers, its events. -/
structure Rdr (W : World) (rb : Nat) (cs : List Int) (esv : Value) (es : List S47) : Prop where
  blk : Blk W rb 53 (cs.map (Value.int .i64) ++ [esv])
  len : cs.length = 5
  row : Kd.R k47 47 W (rb + 1) (fun _ => True) esv es
theorem Rdr.below {W W' : World} {rb : Nat} {cs : List Int} {esv : Value} {es : List S47} (h : Rdr W rb cs esv es) (hb : Below W.heap.size W W') : Rdr W' rb cs esv es := ⟨h.blk.below hb, h.len, Kd.R_below h.row hb⟩
theorem Rdr.turn {W W' : World} {rb b : Nat} {cs : List Int} {esv : Value} {es : List S47} (h : Rdr W rb cs esv es) (ht : Turn b W W') (hb : W.heap.size ≤ b) : Rdr W' rb cs esv es :=
  ⟨h.blk.turn ht (by have := h.blk.lt; omega), h.len, R_kept h.row (fun k _ hk => ht.block k hk (by omega))⟩
/-- What two numbers say. -/
def evL (l : List ByteArray) : Option S47 :=
  match (if l.length = 2 then l.mapM numB else none) with
  | some [k, x] => if k = 1 then none else some ⟨(k : Int), (x : Int), ⟨#[]⟩⟩
  | _ => none
theorem upd_two (ns : List Nat) (h : ns.length ≤ 2) : ∃ x y : Int, upd [.int .i64 0, .int .i64 0, .string ⟨#[]⟩] ns = [.int .i64 x, .int .i64 y, .string ⟨#[]⟩] ∧ ∀ k z, ns = [k, z] → x = (k : Int) ∧ y = (z : Int) := by
  match ns with
  | [] => exact ⟨0, 0, rfl, fun k z h => by cases h⟩
  | [a] => exact ⟨a, 0, rfl, fun k z h => by cases h⟩
  | [a, b] => exact ⟨a, b, rfl, fun k z h => by simp only [List.cons.injEq, and_true] at h; obtain ⟨rfl, rfl⟩ := h; exact ⟨rfl, rfl⟩⟩
  | a :: b :: c :: r => simp at h
theorem push2 (w : World) (o o' : Obj) : Below w.heap.size w ((w.alloc o).alloc o') := (below_push w o).trans ((below_push _ o').mono (by simp))
theorem ptrs_two (w : World) {o : Obj} {w' : World} (h : w' = (w.alloc o).alloc (.cells (ptrs w.heap.size 2).toArray 95)) : Blk w' (w.heap.size + 1) 95 (ptrs w.heap.size 2) := by
  subst h
  have := ptrs_alloc (w.alloc o) 0 95 (ptrs w.heap.size 2)
  rwa [show (w.alloc o).heap.size = w.heap.size + 1 by simp] at this
theorem ev_two (w : World) (o' : Obj) : Blk ((w.alloc (.cells #[.int .i64 0, .int .i64 0, .string ⟨#[]⟩] 47)).alloc o') w.heap.size 47 [.int .i64 0, .int .i64 0, .string ⟨#[]⟩] :=
  (ptrs_alloc w 0 47 [.int .i64 0, .int .i64 0, .string ⟨#[]⟩]).below (below_push _ o')
theorem push_drew (w : World) (o : Obj) : Below w.heap.size w (w.drew.alloc o) := (drewB w).trans ((below_push _ o).mono (Nat.le_refl _))
theorem ev_keep {rb b : Nat} {x y : Int} {v : Value} {w w' : World} (h5 : w.cell? ⟨rb, 5, none⟩ = some v) (h0 : w.cell? ⟨b, 0, none⟩ = some (.int .i64 x)) (h1 : w.cell? ⟨b, 1, none⟩ = some (.int .i64 y)) (h2 : w.cell? ⟨b, 2, none⟩ = some (.string ⟨#[]⟩)) (hb : Below w.heap.size w w') :
    w'.cell? ⟨rb, 5, none⟩ = some v ∧ w'.cell? ⟨b, 0, none⟩ = some (.int .i64 x) ∧ w'.cell? ⟨b, 1, none⟩ = some (.int .i64 y) ∧ w'.cell? ⟨b, 2, none⟩ = some (.string ⟨#[]⟩) :=
  ⟨(hb.cell (World.block_lt_of_cell? w _ h5)).trans h5, (hb.cell (World.block_lt_of_cell? w _ h0)).trans h0, (hb.cell (World.block_lt_of_cell? w _ h1)).trans h1, (hb.cell (World.block_lt_of_cell? w _ h2)).trans h2⟩
theorem ev_keep2 {rb b : Nat} {x y : Int} {v v0 : Value} {w1 w3 : World} (h5 : w1.cell? ⟨rb, 5, none⟩ = some v) (h0 : w1.cell? ⟨b, 0, none⟩ = some (.int .i64 x)) (h1 : w1.cell? ⟨b, 1, none⟩ = some (.int .i64 y)) (h2 : w1.cell? ⟨b, 2, none⟩ = some (.string ⟨#[]⟩))
    (hb : Below (rb + 1) w1 w3) (hg : w1.drew.grownBy w3 v0.ownBlock) (hn : ∀ k, v0.ownBlock = some k → k ≠ b) : w3.cell? ⟨rb, 5, none⟩ = some v ∧ w3.cell? ⟨b, 0, none⟩ = some (.int .i64 x) ∧ w3.cell? ⟨b, 1, none⟩ = some (.int .i64 y) ∧ w3.cell? ⟨b, 2, none⟩ = some (.string ⟨#[]⟩) := by
  have hlt : b < w1.heap.size := World.block_lt_of_cell? w1 _ h0
  have e : w3.heap[b]? = w1.heap[b]? := hg.block b hlt (fun e => hn b e.symm rfl)
  have key : ∀ (j : Nat) (u : Value), w1.cell? ⟨b, j, none⟩ = some u → w3.cell? ⟨b, j, none⟩ = some u := fun j u h => by
    rw [← h]
    simp only [World.cell?, e]
  exact ⟨(hb.cell (by simp)).trans h5, key 0 _ h0, key 1 _ h1, key 2 _ h2⟩
theorem ev_none {l : List ByteArray} (h : none = (if l.length = 2 then l.mapM numB else none)) : evL l = none := by unfold evL; rw [← h]
theorem two_of {l : List ByteArray} {ms : List Nat} (h : some ms = (if l.length = 2 then l.mapM numB else none)) : ∃ k z, ms = [k, z] := by
  have hl := len5 h rfl
  match ms, hl with
  | [k, z], _ => exact ⟨k, z, rfl⟩
theorem ev_bad {l : List ByteArray} {ms : List Nat} {x y : Int} (h : some ms = (if l.length = 2 then l.mapM numB else none)) (hs : ∀ k z, some ms = some [k, z] → x = (k : Int) ∧ y = (z : Int)) (hx : x = 1) : (evL l).isSome = false := by
  obtain ⟨k, z, rfl⟩ := two_of h
  obtain ⟨e1, e2⟩ := hs k z rfl
  unfold evL
  rw [← h]
  simp only
  rw [if_pos (by omega)]
  rfl
theorem ev_good {l : List ByteArray} {ms : List Nat} {x y : Int} (h : some ms = (if l.length = 2 then l.mapM numB else none)) (hs : ∀ k z, some ms = some [k, z] → x = (k : Int) ∧ y = (z : Int)) (hx : ¬ x = 1) : (evL l).isSome = true := by
  obtain ⟨k, z, rfl⟩ := two_of h
  obtain ⟨e1, e2⟩ := hs k z rfl
  unfold evL
  rw [← h]
  simp only
  rw [if_neg (by omega)]
  rfl
theorem ev_val {l : List ByteArray} {r : Option (List Nat)} {x y : Int} (h : r = (if l.length = 2 then l.mapM numB else none)) (hs : ∀ k z, r = some [k, z] → x = (k : Int) ∧ y = (z : Int)) : ∀ ev, evL l = some ev → ev = ⟨x, y, ⟨#[]⟩⟩ := by
  intro ev he
  unfold evL at he
  rw [← h] at he
  split at he
  · rename_i k z
    obtain ⟨e1, e2⟩ := hs k z rfl
    split at he
    · cases he
    · cases he
      rw [e1, e2]
  · cases he
def EvPost (l : List ByteArray) (rb : Nat) (cs : List Int) (es : List S47) (w : World) (e : Ending) (w' : World) : Prop :=
  ∃ (esv' : Value) (es' : List S47), e = .returned (.bool (evL l).isSome) ∧ Rdr w' rb cs esv' es' ∧ Below rb w w' ∧ ∀ ev, evL l = some ev → es' = es ++ [ev]
theorem set_five (cs : List Int) (u v : Value) (h : cs.length = 5) : (cs.map (Value.int .i64) ++ [u]).set 5 v = cs.map (Value.int .i64) ++ [v] := by
  rw [List.set_append_right _ _ (by simp; omega)]
  simp [h]
theorem Rdr.push {w3 : World} {rb : Nat} {cs : List Int} {esv esv' : Value} {es' : List S47} (hb : Blk w3 rb 53 (cs.map (Value.int .i64) ++ [esv])) (h5 : cs.length = 5) (ho : Kd.R k47 47 w3 (rb + 1) (fun _ => True) esv' es') : Rdr (w3.setCell ⟨rb, 5, none⟩ esv') rb cs esv' es' :=
  ⟨by have := hb.set 5 esv'; rwa [set_five cs esv esv' h5] at this, h5, R_kept ho (fun k hk _ => Below.heap_setCell w3 ⟨rb, 5, none⟩ esv' k (by show k ≠ rb; omega))⟩
theorem ev_done {l : List ByteArray} {rb : Nat} {cs : List Int} {es : List S47} {w w1 w3 : World} {esv esv' v' : Value} {x y : Int} {bo : Bool} (h1 : Hid (Rdr w1 rb cs esv es)) (ho : Hid (Kd.R k47 47 w3 (rb + 1) (fun _ => True) esv' (es ++ [⟨x, y, ⟨#[]⟩⟩]))) (hb : Hid (Below (rb + 1) w1 w3)) (ht : Hid (Turn w.heap.size w w1)) (hlt : rb < w.heap.size)
    (hv : v' = esv') (hbo : (evL l).isSome = bo) (hev : ∀ ev, evL l = some ev → ev = ⟨x, y, ⟨#[]⟩⟩) : EvPost l rb cs es w (.returned (.bool bo)) (w3.setCell ⟨rb, 5, none⟩ v') := by
  subst hv
  have hblk : Blk w3 rb 53 (cs.map (Value.int .i64) ++ [esv]) := (hb.out.block rb (by omega)).trans h1.out.blk
  refine ⟨v', _, by rw [hbo], Rdr.push hblk h1.out.len ho.out, ?_, fun ev he => by rw [hev ev he]⟩
  have b1 : Below rb w w1 := ht.out.below (by omega) (by omega)
  exact (b1.trans (hb.out.mono (by omega))).setCell (Nat.le_refl _) _
set_option maxHeartbeats 8000000 in
set_option maxRecDepth 100000 in
theorem event_calls (A : Option Addr) (c : Nat) (l : List ByteArray) (rb : Nat) (cs : List Int) (esv : Value) (es : List S47) (w : World) (hl : TX w A c l) (hz : ∀ x ∈ l, x.size ≤ 1000000) (hn : l.length ≤ 1000000)
    (hr : Rdr w rb cs esv es) (h6 : 6 ≤ rb) (he : Env w) (hes : es.length ≤ 1000000) :
    Calls Tryd.prog 40 #[.pointer (some ⟨rb, 0, none⟩), .slice A l.length c] w (EvPost l rb cs es w) := by
  have HL := Lib.hid hl
  have HE := Lib.hid he
  have HZ := Lib.hid hz
  have HR := Lib.hid hr
  have hlt := hr.blk.lt
  have HNE : Hid (l ≠ [] → ∀ ad, A = some ad → ad.block ≠ w.heap.size) := Lib.hid (fun h ad e => by have := hl.lt h ad e; omega)
  clear hl he hz hr
  go_enter Tryd.func40, Tryd.ntmps40
  go_wp2_with fail
  refine (numbers_calls A c l (w.heap.size + 1) 2 w.heap.size 47 95 [.int .i64 0, .int .i64 0, .string ⟨#[]⟩] _ (HL.out.below (push2 w _ _)) HNE.out HZ.out hn (ptrs_two w rfl) (by omega) (ev_two w _) (by simp) (by omega) (HE.out.below (push2 w _ _)) (by omega)).mono ?_
  rintro e w1 ⟨r, hr, rfl, ht, hs, ns, hns, hk⟩
  obtain ⟨x, y, hup, hxy⟩ := upd_two ns hns
  rw [hup] at hk
  have HT : Hid (Turn w.heap.size w w1) := Lib.hid ((Turn.of_below (push2 w _ _)).trans ht)
  have hR1 := HR.out.turn HT.out (Nat.le_refl _)
  have k0 := hk.cell 0 (by simp)
  have k1 := hk.cell 1 (by simp)
  have k2 := hk.cell 2 (by simp)
  have k5 := hR1.blk.cell 5 (by simp; have := hR1.len; omega)
  have kf := hR1.blk.free 5
  simp only [List.getElem_cons_zero, List.getElem_cons_succ] at k0 k1 k2
  have e5 : (cs.map (Value.int .i64) ++ [esv])[5]'(by simp; have := hR1.len; omega) = esv := by
    rw [List.getElem_append_right (by simp; have := hR1.len; omega)]
    simp
  rw [e5] at k5
  have HR1 := Lib.hid hR1
  have HRr := Lib.hid hr
  have HS : Hid (∀ k z, r = some [k, z] → x = (k : Int) ∧ y = (z : Int)) := Lib.hid (fun k z h => by
    have h1 := hs _ h
    have h2 : Blk w1 w.heap.size 47 [.int .i64 x, .int .i64 y, .string ⟨#[]⟩] := hk
    unfold Blk at h1 h2
    rw [h1] at h2
    simp [upd] at h2
    omega)
  clear hr ht hs hk hup hxy e5 hR1

  have hlt1 : rb + 1 ≤ w1.heap.size := by have := HT.out.size; omega
  have HOB : Hid (∀ k, esv.ownBlock = some k → k ≠ w.heap.size) := Lib.hid (fun k e => by have := Kd.R_lt HR.out.row k e; omega)
  have HEV := Lib.hid (ev_val HRr.out HS.out)
  cases r with
  | none =>
    go_wp2_with fail
    refine wp_region_noPanic ?_
    refine start_ (n := 11) (S := fun w' => w'.cell? ⟨rb, 5, none⟩ = some esv ∧ w'.cell? ⟨w.heap.size, 0, none⟩ = some (.int .i64 x) ∧ w'.cell? ⟨w.heap.size, 1, none⟩ = some (.int .i64 y) ∧ w'.cell? ⟨w.heap.size, 2, none⟩ = some (.string ⟨#[]⟩)) (ds := [10]) #[false, false, false, false, false, false, false, false, false, false, false] (by rfl) (by rfl) (by rfl) ⟨k5, k0, k1, k2⟩ (fun hHeld => ?_)
    refine take_ (i := 0) (N := some 17) (v := ?_) (a' := ?_) #[true, false, false, false, false, false, false, false, false, false, false] rfl rfl (by kernel_rfl) (fun _ _ _ h => h) (Or.inl ⟨by rfl, ?_⟩) hHeld ?_ ?_
    rotate_left
    · rintro w' ⟨s0, s1, s2, s3⟩
      go_simp
      try with_reducible rfl
    rotate_left
    · simp only [Act.put, List.setIfInBounds_toArray, List.set_cons_zero, List.set_cons_succ]
      rfl
    refine take_ (i := 1) (N := some 18) (v := ?_) (a' := ?_) #[true, true, false, false, false, false, false, false, false, false, false] rfl rfl (by kernel_rfl) (fun _ _ _ h => h) (Or.inl ⟨by rfl, ?_⟩) hHeld ?_ ?_
    rotate_left
    · rintro w' ⟨s0, s1, s2, s3⟩
      go_simp
      try with_reducible rfl
    rotate_left
    · simp only [Act.put, List.setIfInBounds_toArray, List.set_cons_zero, List.set_cons_succ]
      rfl
    refine take_ (i := 2) (N := some 19) (v := ?_) (a' := ?_) #[true, true, true, false, false, false, false, false, false, false, false] rfl rfl (by kernel_rfl) (fun _ _ _ h => h) (Or.inl ⟨by rfl, ?_⟩) hHeld ?_ ?_
    rotate_left
    · rintro w' ⟨s0, s1, s2, s3⟩
      go_simp
      try with_reducible rfl
    rotate_left
    · simp only [Act.put, List.setIfInBounds_toArray, List.set_cons_zero, List.set_cons_succ]
      rfl
    refine take_ (i := 3) (N := some 20) (v := ?_) (a' := ?_) #[true, true, true, true, false, false, false, false, false, false, false] rfl rfl (by kernel_rfl) (fun _ _ _ h => h) (Or.inl ⟨by rfl, ?_⟩) hHeld ?_ ?_
    rotate_left
    · rintro w' ⟨s0, s1, s2, s3⟩
      go_simp
      try with_reducible rfl
    rotate_left
    · simp only [Act.put, List.setIfInBounds_toArray, List.set_cons_zero, List.set_cons_succ]
      rfl
    refine take_ (i := 4) (N := some 21) (v := ?_) (a' := ?_) #[true, true, true, true, true, false, false, false, false, false, false] rfl rfl (by kernel_rfl) (fun _ _ _ h => h) (Or.inl ⟨by rfl, ?_⟩) hHeld ?_ ?_
    rotate_left
    · rintro w' ⟨s0, s1, s2, s3⟩
      go_simp
      try with_reducible rfl
    rotate_left
    · simp only [Act.put, List.setIfInBounds_toArray, List.set_cons_zero, List.set_cons_succ]
      rfl
    refine take_ (i := 5) (N := some 22) (v := ?_) (a' := ?_) #[true, true, true, true, true, true, false, false, false, false, false] rfl rfl (by kernel_rfl) (fun _ _ _ h => h) (Or.inl ⟨by rfl, ?_⟩) hHeld ?_ ?_
    rotate_left
    · rintro w' ⟨s0, s1, s2, s3⟩
      go_simp
      try with_reducible rfl
    rotate_left
    · simp only [Act.put, List.setIfInBounds_toArray, List.set_cons_zero, List.set_cons_succ]
      rfl
    refine one_ (i := 6) (N := some 23) #[true, true, true, true, true, true, true, false, false, false, false] rfl rfl (by kernel_rfl) (by decide) (fun K hK => ?_)
    go_simp
    have hh1 : (fun w' => w'.cell? ⟨rb, 5, none⟩ = some esv ∧ w'.cell? ⟨w.heap.size, 0, none⟩ = some (.int .i64 x) ∧ w'.cell? ⟨w.heap.size, 1, none⟩ = some (.int .i64 y) ∧ w'.cell? ⟨w.heap.size, 2, none⟩ = some (.string ⟨#[]⟩)) (w1.drew.alloc (.cells #[.int .i64 x, .int .i64 y, .string ⟨#[]⟩] 47)) := ev_keep k5 k0 k1 k2 (push_drew w1 _)
    refine hK.out _ _ hh1 (fun hHeld => ?_)
    clear hK K
    try simp only [Act.put, List.setIfInBounds_toArray, List.set_cons_zero, List.set_cons_succ]
    refine one_ (i := 7) (N := some 24) #[true, true, true, true, true, true, true, true, false, false, false] rfl rfl (by kernel_rfl) (by decide) (fun K hK => ?_)
    refine Kd.R_append_step k47 (w0 := w1) (rb + 1) (by rfl) (.tmp 21) (.tmp 23) 29 47 (.agg #[.int .i64 0, .int .i64 0, .string ⟨#[]⟩]) 32 (by rfl) Tryd.underlying29 infoEv rfl (by decide) (by omega) esv es ⟨x, y, ⟨#[]⟩⟩ [.int .i64 x, .int .i64 y, .string ⟨#[]⟩] (fun _ => True) (fun _ => False) (by rfl) (by rfl) (k47_mkM _ _ _ ⟨x, y, ⟨#[]⟩⟩) (fun _ h => h.elim) (fun _ _ => trivial) (Kd.R_below HR1.out.row (drewB w1)) ((drewB w1).mono hlt1) hlt1 (by omega) ?_
    intro esv' w3 ho hb3 hg hat
    obtain ⟨A9, c9, e9⟩ := Kd.R_slice ho
    subst e9
    have hh2 : (fun w' => w'.cell? ⟨rb, 5, none⟩ = some esv ∧ w'.cell? ⟨w.heap.size, 0, none⟩ = some (.int .i64 x) ∧ w'.cell? ⟨w.heap.size, 1, none⟩ = some (.int .i64 y) ∧ w'.cell? ⟨w.heap.size, 2, none⟩ = some (.string ⟨#[]⟩)) w3 := ev_keep2 k5 k0 k1 k2 hb3 hg HOB.out
    have HO := Lib.hid ho
    have HB3 := Lib.hid hb3
    clear ho hb3 hg hat
    refine hK.out _ _ hh2 (fun hHeld => ?_)
    clear hK K hh1
    try simp only [Act.put, List.setIfInBounds_toArray, List.set_cons_zero, List.set_cons_succ]
    refine take_ (i := 8) (N := some 25) (v := ?_) (a' := ?_) #[true, true, true, true, true, true, true, true, true, false, false] rfl rfl (by kernel_rfl) (fun _ _ _ h => h) (Or.inl ⟨by rfl, ?_⟩) hHeld ?_ ?_
    rotate_left
    · rintro w' ⟨s0, s1, s2, s3⟩
      go_simp
      try with_reducible rfl
    rotate_left
    · simp only [Act.put, List.setIfInBounds_toArray, List.set_cons_zero, List.set_cons_succ]
      rfl
    refine take_ (i := 9) (N := some 26) (v := ?_) (a' := ?_) #[true, true, true, true, true, true, true, true, true, true, false] rfl rfl (by kernel_rfl) (fun _ _ _ h => h) (Or.inl ⟨by rfl, ?_⟩) hHeld ?_ ?_
    rotate_left
    · rintro w' ⟨s0, s1, s2, s3⟩
      go_simp
      try with_reducible rfl
    rotate_left
    · simp only [Act.put, List.setIfInBounds_toArray, List.set_cons_zero, List.set_cons_succ]
      rfl
    refine last_ (i := 10) (N := none) #[true, true, true, true, true, true, true, true, true, true, true] rfl rfl (by kernel_rfl) (by decide) (fun K hK => ?_)
    have k53 := hh2.1
    have kf3 : w3.frozen? ⟨rb, 5, none⟩ = false := by rw [HB3.out.frozen (by simp)]; exact kf
    clear hh2 hHeld
    go_simp
    refine hK.out _ _ ?_
    clear hK K
    refine done_ (by kernel_rfl) ?_
    refine NoPanic.normal ?_
    go_wp2_with fail
    go_ret
    exact ev_done HR1 HO HB3 HT hlt (by first | rfl | simp) (by rw [ev_none HRr.out]; rfl) HEV.out
  | some ms =>
    by_cases hx : x = 1
    · have d1 : decide (x = 1) = true := decide_eq_true hx
      have d1' : (x == 1) = true := by rw [hx]; rfl
      have d2 : decide (¬ x = 1) = false := decide_eq_false (fun h => h hx)
      have HX1 := Lib.hid hx
      clear hx
      go_wp2_with fail
      refine wp_region_noPanic ?_
      refine start_ (n := 11) (S := fun w' => w'.cell? ⟨rb, 5, none⟩ = some esv ∧ w'.cell? ⟨w.heap.size, 0, none⟩ = some (.int .i64 x) ∧ w'.cell? ⟨w.heap.size, 1, none⟩ = some (.int .i64 y) ∧ w'.cell? ⟨w.heap.size, 2, none⟩ = some (.string ⟨#[]⟩)) (ds := [10]) #[false, false, false, false, false, false, false, false, false, false, false] (by rfl) (by rfl) (by rfl) ⟨k5, k0, k1, k2⟩ (fun hHeld => ?_)
      refine take_ (i := 0) (N := some 17) (v := ?_) (a' := ?_) #[true, false, false, false, false, false, false, false, false, false, false] rfl rfl (by kernel_rfl) (fun _ _ _ h => h) (Or.inl ⟨by rfl, ?_⟩) hHeld ?_ ?_
      rotate_left
      · rintro w' ⟨s0, s1, s2, s3⟩
        go_simp
        try with_reducible rfl
      rotate_left
      · simp only [Act.put, List.setIfInBounds_toArray, List.set_cons_zero, List.set_cons_succ]
        rfl
      refine take_ (i := 1) (N := some 18) (v := ?_) (a' := ?_) #[true, true, false, false, false, false, false, false, false, false, false] rfl rfl (by kernel_rfl) (fun _ _ _ h => h) (Or.inl ⟨by rfl, ?_⟩) hHeld ?_ ?_
      rotate_left
      · rintro w' ⟨s0, s1, s2, s3⟩
        go_simp
        try with_reducible rfl
      rotate_left
      · simp only [Act.put, List.setIfInBounds_toArray, List.set_cons_zero, List.set_cons_succ]
        rfl
      refine take_ (i := 2) (N := some 19) (v := ?_) (a' := ?_) #[true, true, true, false, false, false, false, false, false, false, false] rfl rfl (by kernel_rfl) (fun _ _ _ h => h) (Or.inl ⟨by rfl, ?_⟩) hHeld ?_ ?_
      rotate_left
      · rintro w' ⟨s0, s1, s2, s3⟩
        go_simp
        try with_reducible rfl
      rotate_left
      · simp only [Act.put, List.setIfInBounds_toArray, List.set_cons_zero, List.set_cons_succ]
        rfl
      refine take_ (i := 3) (N := some 20) (v := ?_) (a' := ?_) #[true, true, true, true, false, false, false, false, false, false, false] rfl rfl (by kernel_rfl) (fun _ _ _ h => h) (Or.inl ⟨by rfl, ?_⟩) hHeld ?_ ?_
      rotate_left
      · rintro w' ⟨s0, s1, s2, s3⟩
        go_simp
        try with_reducible rfl
      rotate_left
      · simp only [Act.put, List.setIfInBounds_toArray, List.set_cons_zero, List.set_cons_succ]
        rfl
      refine take_ (i := 4) (N := some 21) (v := ?_) (a' := ?_) #[true, true, true, true, true, false, false, false, false, false, false] rfl rfl (by kernel_rfl) (fun _ _ _ h => h) (Or.inl ⟨by rfl, ?_⟩) hHeld ?_ ?_
      rotate_left
      · rintro w' ⟨s0, s1, s2, s3⟩
        go_simp
        try with_reducible rfl
      rotate_left
      · simp only [Act.put, List.setIfInBounds_toArray, List.set_cons_zero, List.set_cons_succ]
        rfl
      refine take_ (i := 5) (N := some 22) (v := ?_) (a' := ?_) #[true, true, true, true, true, true, false, false, false, false, false] rfl rfl (by kernel_rfl) (fun _ _ _ h => h) (Or.inl ⟨by rfl, ?_⟩) hHeld ?_ ?_
      rotate_left
      · rintro w' ⟨s0, s1, s2, s3⟩
        go_simp
        try with_reducible rfl
      rotate_left
      · simp only [Act.put, List.setIfInBounds_toArray, List.set_cons_zero, List.set_cons_succ]
        rfl
      refine one_ (i := 6) (N := some 23) #[true, true, true, true, true, true, true, false, false, false, false] rfl rfl (by kernel_rfl) (by decide) (fun K hK => ?_)
      go_simp
      have hh1 : (fun w' => w'.cell? ⟨rb, 5, none⟩ = some esv ∧ w'.cell? ⟨w.heap.size, 0, none⟩ = some (.int .i64 x) ∧ w'.cell? ⟨w.heap.size, 1, none⟩ = some (.int .i64 y) ∧ w'.cell? ⟨w.heap.size, 2, none⟩ = some (.string ⟨#[]⟩)) (w1.drew.alloc (.cells #[.int .i64 x, .int .i64 y, .string ⟨#[]⟩] 47)) := ev_keep k5 k0 k1 k2 (push_drew w1 _)
      refine hK.out _ _ hh1 (fun hHeld => ?_)
      clear hK K
      try simp only [Act.put, List.setIfInBounds_toArray, List.set_cons_zero, List.set_cons_succ]
      refine one_ (i := 7) (N := some 24) #[true, true, true, true, true, true, true, true, false, false, false] rfl rfl (by kernel_rfl) (by decide) (fun K hK => ?_)
      refine Kd.R_append_step k47 (w0 := w1) (rb + 1) (by rfl) (.tmp 21) (.tmp 23) 29 47 (.agg #[.int .i64 0, .int .i64 0, .string ⟨#[]⟩]) 32 (by rfl) Tryd.underlying29 infoEv rfl (by decide) (by omega) esv es ⟨x, y, ⟨#[]⟩⟩ [.int .i64 x, .int .i64 y, .string ⟨#[]⟩] (fun _ => True) (fun _ => False) (by rfl) (by rfl) (k47_mkM _ _ _ ⟨x, y, ⟨#[]⟩⟩) (fun _ h => h.elim) (fun _ _ => trivial) (Kd.R_below HR1.out.row (drewB w1)) ((drewB w1).mono hlt1) hlt1 (by omega) ?_
      intro esv' w3 ho hb3 hg hat
      obtain ⟨A9, c9, e9⟩ := Kd.R_slice ho
      subst e9
      have hh2 : (fun w' => w'.cell? ⟨rb, 5, none⟩ = some esv ∧ w'.cell? ⟨w.heap.size, 0, none⟩ = some (.int .i64 x) ∧ w'.cell? ⟨w.heap.size, 1, none⟩ = some (.int .i64 y) ∧ w'.cell? ⟨w.heap.size, 2, none⟩ = some (.string ⟨#[]⟩)) w3 := ev_keep2 k5 k0 k1 k2 hb3 hg HOB.out
      have HO := Lib.hid ho
      have HB3 := Lib.hid hb3
      clear ho hb3 hg hat
      refine hK.out _ _ hh2 (fun hHeld => ?_)
      clear hK K hh1
      try simp only [Act.put, List.setIfInBounds_toArray, List.set_cons_zero, List.set_cons_succ]
      refine take_ (i := 8) (N := some 25) (v := ?_) (a' := ?_) #[true, true, true, true, true, true, true, true, true, false, false] rfl rfl (by kernel_rfl) (fun _ _ _ h => h) (Or.inl ⟨by rfl, ?_⟩) hHeld ?_ ?_
      rotate_left
      · rintro w' ⟨s0, s1, s2, s3⟩
        go_simp
        try with_reducible rfl
      rotate_left
      · simp only [Act.put, List.setIfInBounds_toArray, List.set_cons_zero, List.set_cons_succ]
        rfl
      refine take_ (i := 9) (N := some 26) (v := ?_) (a' := ?_) #[true, true, true, true, true, true, true, true, true, true, false] rfl rfl (by kernel_rfl) (fun _ _ _ h => h) (Or.inl ⟨by rfl, ?_⟩) hHeld ?_ ?_
      rotate_left
      · rintro w' ⟨s0, s1, s2, s3⟩
        go_simp
        try with_reducible rfl
      rotate_left
      · simp only [Act.put, List.setIfInBounds_toArray, List.set_cons_zero, List.set_cons_succ]
        rfl
      refine last_ (i := 10) (N := none) #[true, true, true, true, true, true, true, true, true, true, true] rfl rfl (by kernel_rfl) (by decide) (fun K hK => ?_)
      have k53 := hh2.1
      have kf3 : w3.frozen? ⟨rb, 5, none⟩ = false := by rw [HB3.out.frozen (by simp)]; exact kf
      clear hh2 hHeld
      go_simp
      refine hK.out _ _ ?_
      clear hK K
      refine done_ (by kernel_rfl) ?_
      refine NoPanic.normal ?_
      go_wp2_with fail
      go_ret
      exact ev_done HR1 HO HB3 HT hlt (by first | rfl | simp) (by rw [ev_bad HRr.out HS.out HX1.out]; simp [HX1.out]) HEV.out
    · have d1 : decide (x = 1) = false := decide_eq_false hx
      have d1' : (x == 1) = false := beq_false_of_ne hx
      have d2 : decide (¬ x = 1) = true := decide_eq_true hx
      have HX1 := Lib.hid hx
      clear hx
      go_wp2_with fail
      refine wp_region_noPanic ?_
      refine start_ (n := 11) (S := fun w' => w'.cell? ⟨rb, 5, none⟩ = some esv ∧ w'.cell? ⟨w.heap.size, 0, none⟩ = some (.int .i64 x) ∧ w'.cell? ⟨w.heap.size, 1, none⟩ = some (.int .i64 y) ∧ w'.cell? ⟨w.heap.size, 2, none⟩ = some (.string ⟨#[]⟩)) (ds := [10]) #[false, false, false, false, false, false, false, false, false, false, false] (by rfl) (by rfl) (by rfl) ⟨k5, k0, k1, k2⟩ (fun hHeld => ?_)
      refine take_ (i := 0) (N := some 17) (v := ?_) (a' := ?_) #[true, false, false, false, false, false, false, false, false, false, false] rfl rfl (by kernel_rfl) (fun _ _ _ h => h) (Or.inl ⟨by rfl, ?_⟩) hHeld ?_ ?_
      rotate_left
      · rintro w' ⟨s0, s1, s2, s3⟩
        go_simp
        try with_reducible rfl
      rotate_left
      · simp only [Act.put, List.setIfInBounds_toArray, List.set_cons_zero, List.set_cons_succ]
        rfl
      refine take_ (i := 1) (N := some 18) (v := ?_) (a' := ?_) #[true, true, false, false, false, false, false, false, false, false, false] rfl rfl (by kernel_rfl) (fun _ _ _ h => h) (Or.inl ⟨by rfl, ?_⟩) hHeld ?_ ?_
      rotate_left
      · rintro w' ⟨s0, s1, s2, s3⟩
        go_simp
        try with_reducible rfl
      rotate_left
      · simp only [Act.put, List.setIfInBounds_toArray, List.set_cons_zero, List.set_cons_succ]
        rfl
      refine take_ (i := 2) (N := some 19) (v := ?_) (a' := ?_) #[true, true, true, false, false, false, false, false, false, false, false] rfl rfl (by kernel_rfl) (fun _ _ _ h => h) (Or.inl ⟨by rfl, ?_⟩) hHeld ?_ ?_
      rotate_left
      · rintro w' ⟨s0, s1, s2, s3⟩
        go_simp
        try with_reducible rfl
      rotate_left
      · simp only [Act.put, List.setIfInBounds_toArray, List.set_cons_zero, List.set_cons_succ]
        rfl
      refine take_ (i := 3) (N := some 20) (v := ?_) (a' := ?_) #[true, true, true, true, false, false, false, false, false, false, false] rfl rfl (by kernel_rfl) (fun _ _ _ h => h) (Or.inl ⟨by rfl, ?_⟩) hHeld ?_ ?_
      rotate_left
      · rintro w' ⟨s0, s1, s2, s3⟩
        go_simp
        try with_reducible rfl
      rotate_left
      · simp only [Act.put, List.setIfInBounds_toArray, List.set_cons_zero, List.set_cons_succ]
        rfl
      refine take_ (i := 4) (N := some 21) (v := ?_) (a' := ?_) #[true, true, true, true, true, false, false, false, false, false, false] rfl rfl (by kernel_rfl) (fun _ _ _ h => h) (Or.inl ⟨by rfl, ?_⟩) hHeld ?_ ?_
      rotate_left
      · rintro w' ⟨s0, s1, s2, s3⟩
        go_simp
        try with_reducible rfl
      rotate_left
      · simp only [Act.put, List.setIfInBounds_toArray, List.set_cons_zero, List.set_cons_succ]
        rfl
      refine take_ (i := 5) (N := some 22) (v := ?_) (a' := ?_) #[true, true, true, true, true, true, false, false, false, false, false] rfl rfl (by kernel_rfl) (fun _ _ _ h => h) (Or.inl ⟨by rfl, ?_⟩) hHeld ?_ ?_
      rotate_left
      · rintro w' ⟨s0, s1, s2, s3⟩
        go_simp
        try with_reducible rfl
      rotate_left
      · simp only [Act.put, List.setIfInBounds_toArray, List.set_cons_zero, List.set_cons_succ]
        rfl
      refine one_ (i := 6) (N := some 23) #[true, true, true, true, true, true, true, false, false, false, false] rfl rfl (by kernel_rfl) (by decide) (fun K hK => ?_)
      go_simp
      have hh1 : (fun w' => w'.cell? ⟨rb, 5, none⟩ = some esv ∧ w'.cell? ⟨w.heap.size, 0, none⟩ = some (.int .i64 x) ∧ w'.cell? ⟨w.heap.size, 1, none⟩ = some (.int .i64 y) ∧ w'.cell? ⟨w.heap.size, 2, none⟩ = some (.string ⟨#[]⟩)) (w1.drew.alloc (.cells #[.int .i64 x, .int .i64 y, .string ⟨#[]⟩] 47)) := ev_keep k5 k0 k1 k2 (push_drew w1 _)
      refine hK.out _ _ hh1 (fun hHeld => ?_)
      clear hK K
      try simp only [Act.put, List.setIfInBounds_toArray, List.set_cons_zero, List.set_cons_succ]
      refine one_ (i := 7) (N := some 24) #[true, true, true, true, true, true, true, true, false, false, false] rfl rfl (by kernel_rfl) (by decide) (fun K hK => ?_)
      refine Kd.R_append_step k47 (w0 := w1) (rb + 1) (by rfl) (.tmp 21) (.tmp 23) 29 47 (.agg #[.int .i64 0, .int .i64 0, .string ⟨#[]⟩]) 32 (by rfl) Tryd.underlying29 infoEv rfl (by decide) (by omega) esv es ⟨x, y, ⟨#[]⟩⟩ [.int .i64 x, .int .i64 y, .string ⟨#[]⟩] (fun _ => True) (fun _ => False) (by rfl) (by rfl) (k47_mkM _ _ _ ⟨x, y, ⟨#[]⟩⟩) (fun _ h => h.elim) (fun _ _ => trivial) (Kd.R_below HR1.out.row (drewB w1)) ((drewB w1).mono hlt1) hlt1 (by omega) ?_
      intro esv' w3 ho hb3 hg hat
      obtain ⟨A9, c9, e9⟩ := Kd.R_slice ho
      subst e9
      have hh2 : (fun w' => w'.cell? ⟨rb, 5, none⟩ = some esv ∧ w'.cell? ⟨w.heap.size, 0, none⟩ = some (.int .i64 x) ∧ w'.cell? ⟨w.heap.size, 1, none⟩ = some (.int .i64 y) ∧ w'.cell? ⟨w.heap.size, 2, none⟩ = some (.string ⟨#[]⟩)) w3 := ev_keep2 k5 k0 k1 k2 hb3 hg HOB.out
      have HO := Lib.hid ho
      have HB3 := Lib.hid hb3
      clear ho hb3 hg hat
      refine hK.out _ _ hh2 (fun hHeld => ?_)
      clear hK K hh1
      try simp only [Act.put, List.setIfInBounds_toArray, List.set_cons_zero, List.set_cons_succ]
      refine take_ (i := 8) (N := some 25) (v := ?_) (a' := ?_) #[true, true, true, true, true, true, true, true, true, false, false] rfl rfl (by kernel_rfl) (fun _ _ _ h => h) (Or.inl ⟨by rfl, ?_⟩) hHeld ?_ ?_
      rotate_left
      · rintro w' ⟨s0, s1, s2, s3⟩
        go_simp
        try with_reducible rfl
      rotate_left
      · simp only [Act.put, List.setIfInBounds_toArray, List.set_cons_zero, List.set_cons_succ]
        rfl
      refine take_ (i := 9) (N := some 26) (v := ?_) (a' := ?_) #[true, true, true, true, true, true, true, true, true, true, false] rfl rfl (by kernel_rfl) (fun _ _ _ h => h) (Or.inl ⟨by rfl, ?_⟩) hHeld ?_ ?_
      rotate_left
      · rintro w' ⟨s0, s1, s2, s3⟩
        go_simp
        try with_reducible rfl
      rotate_left
      · simp only [Act.put, List.setIfInBounds_toArray, List.set_cons_zero, List.set_cons_succ]
        rfl
      refine last_ (i := 10) (N := none) #[true, true, true, true, true, true, true, true, true, true, true] rfl rfl (by kernel_rfl) (by decide) (fun K hK => ?_)
      have k53 := hh2.1
      have kf3 : w3.frozen? ⟨rb, 5, none⟩ = false := by rw [HB3.out.frozen (by simp)]; exact kf
      clear hh2 hHeld
      go_simp
      refine hK.out _ _ ?_
      clear hK K
      refine done_ (by kernel_rfl) ?_
      refine NoPanic.normal ?_
      go_wp2_with fail
      go_ret
      exact ev_done HR1 HO HB3 HT hlt (by first | rfl | simp) (by rw [ev_good HRr.out HS.out HX1.out]; simp [HX1.out]) HEV.out
end Go.Proofs.YtipccndoffcfiaaDoor.Script
end
