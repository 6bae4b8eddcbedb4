/- The walk of the law SeenKeeps answers true, whatever the numbers. -/
import Derived.Test.YtkjhgbndnaemlaaSeenAwake
import Derived.Test.YtkjhgbndnaemlaaSeenI
import Derived.IntWalk
namespace Go.Proofs.Ytkjhgbndnaemlaa.SeenI
open Go.RowKit Go.Shelf
set_option linter.unusedVariables false
theorem ret_int {k : IntKind} {a b : Int} (h : a = b) : Ending.returned (.int k a) = .returned (.int k b) := by rw [h]
theorem low_num (x : Int) (n : Nat) (h0 : 0 < n) (h1 : n < 1000) : ∃ r : Nat, wrap64 ((IntKind.u64.wrap x).tmod n) = (r : Int) ∧ r < n := by
  have hw : 0 ≤ IntKind.u64.wrap x := by unfold IntKind.wrap; simp [IntKind.signed, IntKind.bits]; omega
  rw [Int.tmod_eq_emod_of_nonneg hw]
  have a := Int.emod_nonneg (IntKind.u64.wrap x) (show (n : Int) ≠ 0 by omega)
  have b := Int.emod_lt_of_pos (IntKind.u64.wrap x) (show (0 : Int) < n by omega)
  obtain ⟨r, hr⟩ := Int.eq_ofNat_of_zero_le a
  rw [hr] at b ⊢
  refine ⟨r, by unfold wrap64; omega, by omega⟩
set_option maxRecDepth 100000 in
theorem low_calls (x : Int) (n : Nat) (w : World) (h0 : 0 < n) (h1 : n < 1000) : Calls Try.prog 14 #[.int .i64 x, .int .i64 n] w fun e w' => (∃ r : Nat, e = .returned (.int .i64 r) ∧ r < n) ∧ w' = w := by
  obtain ⟨r, hr, hl⟩ := low_num x n h0 h1
  have HR := Lib.hid hr
  clear hr
  go_enter Try.func14, Try.ntmps14
  go_wp2
  go_ret
  exact ⟨⟨r, ret_int HR.out, hl⟩, rfl⟩

/-- The rows behind i puts: the last M of f 0, .., f (i - 1). -/
def R (f : Nat → Int × Int) (M i : Nat) : List (Int × Int) := ((List.range i).map f).drop (i - M)
theorem R_len (f : Nat → Int × Int) (M i : Nat) : (R f M i).length = min M i := by simp [R]; omega
theorem R_get (f : Nat → Int × Int) (M i p : Nat) (h : p < (R f M i).length) : (R f M i)[p] = f (i - M + p) := by simp [R]
theorem R_mem (f : Nat → Int × Int) (M i : Nat) (x : Int × Int) (h : x ∈ R f M i) : ∃ j, i - M ≤ j ∧ j < i ∧ x = f j := by
  obtain ⟨p, hp, rfl⟩ := List.mem_iff_getElem.1 h
  rw [R_len] at hp
  exact ⟨i - M + p, by omega, by omega, R_get f M i p (by rw [R_len]; omega)⟩
theorem R_none (f : Nat → Int × Int) (hf : ∀ i, (f i).1 = (i : Int) * 7) (M i j : Nat) (h : j < i - M ∨ i ≤ j) : look (R f M i) ((j : Int) * 7) = (0, false) := by
  refine look_none _ _ fun x hx => ?_
  obtain ⟨p, h1, h2, rfl⟩ := R_mem f M i x hx
  rw [hf]
  omega
theorem R_some (f : Nat → Int × Int) (hf : ∀ i, (f i).1 = (i : Int) * 7) (M i j : Nat) (h1 : i - M ≤ j) (h2 : j < i) : look (R f M i) ((j : Int) * 7) = ((f j).2, true) := by
  have hp : j - (i - M) < (R f M i).length := by rw [R_len]; omega
  have hg := R_get f M i _ hp
  rw [show i - M + (j - (i - M)) = j by omega] at hg
  have hs := List.take_append_drop (j - (i - M)) (R f M i)
  rw [List.drop_eq_getElem_cons hp, hg] at hs
  rw [← hs, ← hf]
  refine look_some _ _ _ fun x hx => ?_
  obtain ⟨p, hp2, rfl⟩ := List.mem_iff_getElem.1 hx
  rw [List.getElem_take, R_get, hf, hf]
  simp at hp2
  omega
theorem R_put (f : Nat → Int × Int) (hf : ∀ i, (f i).1 = (i : Int) * 7) (M i : Nat) (hM : 1 ≤ M) : putR M (R f M i) ((i : Int) * 7) (f i).2 = R f M (i + 1) := by
  unfold putR
  rw [R_none f hf M i i (.inr (Nat.le_refl _)), if_neg (by simp), R_len]
  have e : ((i : Int) * 7, (f i).2) = f i := by rw [← hf]
  rw [e]
  unfold R
  rw [List.range_succ, List.map_append, List.map_singleton]
  by_cases h : i < M
  · rw [if_neg (by omega), show i - M = 0 by omega, show i + 1 - M = 0 by omega]
    rfl
  · rw [if_pos (by omega), ← List.drop_one, ← List.drop_append_of_le_length (by simp), List.drop_drop, show i - M + 1 = i + 1 - M by omega]

def F (v : Int) (i : Nat) : Int × Int := ((i : Int) * 7, bits .xor .i64 v (i : Int))
theorem F_key (v : Int) (i : Nat) : (F v i).1 = (i : Int) * 7 := rfl
def StPost (n₀ b : Nat) (most : Int) (rows : List (Int × Int)) (res : Bool) (w : World) (e : Ending) (w' : World) : Prop := e = .returned (.bool res) ∧ (∃ lv, At w' n₀ b most lv rows) ∧ Below n₀ w w'
theorem st_put (n₀ b : Nat) (most : Int) (lv : Value) (rows rows' : List (Int × Int)) (k v : Int) (res : Bool) (w : World) (hS : At w n₀ b most lv rows) (h1 : 1 ≤ most) (h2 : most ≤ 32) (hl : (rows.length : Int) ≤ most) (hn : n₀ ≤ w.heap.size) (hp : putR most rows k v = rows') (hr : (look rows k).2 = !res) :
    Calls Try.prog 16 #[.pointer (some ⟨b, 0, none⟩), .int .i64 k, .int .i64 v] w (StPost n₀ b most rows' res w) :=
  (put_calls b n₀ most lv rows k v w hS h1 h2 hl hn).mono fun e w' ⟨he, lv', hA, hK⟩ => ⟨by rw [he, hr]; simp, ⟨lv', hp ▸ hA⟩, hK.below⟩
theorem put_same (most : Int) (rows : List (Int × Int)) (k v : Int) (h : (look rows k).2 = true) : putR most rows k v = rows := by unfold putR; rw [if_pos h]
def KeepsPost (w : World) (e : Ending) (w' : World) : Prop := e = .returned (.bool true) ∧ Below w.heap.size w w'
set_option maxHeartbeats 4000000 in
set_option maxRecDepth 100000 in
theorem keeps_calls (most many v : Int) (w : World) : Calls Try.prog 4 #[.int .i64 most, .int .i64 many, .int .i64 v] w (KeepsPost w) := by
  have HL := Lib.hid (fun w => low_calls most 32 w (by omega) (by omega))
  have HL2 := Lib.hid (fun w => low_calls many 100 w (by omega) (by omega))
  go_enter Try.func4, Try.ntmps4
  go_wp2_with fail
  refine (HL.out _).mono ?_
  rintro e w1 ⟨⟨r, rfl, hr⟩, rfl⟩
  go_wp2_with fail
  refine (HL2.out _).mono ?_
  rintro e w1 ⟨⟨N, rfl, hN⟩, rfl⟩
  go_wp2_with fail
  refine (new_calls (1 + (r : Int)) _ (by omega) (by omega)).mono ?_
  rintro e w2 ⟨rfl, rfl⟩
  have HA0 := Lib.hid (at_new w1.heap.size (1 + (r : Int)) w1 (Nat.le_refl _))
  have HB0 := Lib.hid ((Below.refl w1.heap.size w1).alloc (Nat.le_refl _) (.cells #[.int .i64 (1 + (r : Int)), .slice none 0 0] 70))
  go_wp2_with fail
  generalize w1.alloc (.cells #[.int .i64 (1 + (r : Int)), .slice none 0 0] 70) = W1 at HA0 HB0 ⊢
  obtain ⟨n₀, hn₀⟩ : ∃ n₀, n₀ = w1.heap.size := ⟨_, rfl⟩
  have HN0 := Lib.hid hn₀
  rw [← hn₀] at HA0 HB0 ⊢
  clear hn₀
  obtain ⟨M, hM⟩ : ∃ M : Nat, M = r + 1 := ⟨_, rfl⟩
  have HM : Hid ((1 : Int) + (r : Int) = (M : Int)) := by show _ = _; omega
  have hM1 : 1 ≤ M := by omega
  have hM2 : M ≤ 32 := by omega
  rw [HM.out] at HA0 ⊢
  clear hM hr HL HL2
  go_loopw [8] (fun i wr => ∃ k : Nat, ∃ lv, k ≤ N ∧ i = .int .i64 k ∧ At wr n₀ n₀ M lv (R (F v) M k) ∧ Below n₀ w1 wr) (fun i _ => N - (intOf i).toNat)
  case atStart => exact ⟨0, .slice none 0 0, Nat.zero_le _, rfl, by simpa [R] using HA0.out, HB0.out⟩
  case round =>
    obtain ⟨k, lv, hk, rfl, hA, hB⟩ := hrel
    have HA := Lib.hid hA
    have HB := Lib.hid hB
    clear hA hB
    by_cases hlt : k < N
    · have hs := HB.out.size
      have hw1 : n₀ ≤ wr.heap.size := by rw [HN0.out]; exact hs
      have hR := R_len (F v) M k
      have hR1 := R_len (F v) M (k + 1)
      have hl1 : ((R (F v) M k).length : Int) ≤ M := by omega
      have hl2 : ((R (F v) M (k + 1)).length : Int) ≤ M := by omega
      clear hR hR1 hs
      go_wp2_with fail
      refine (st_put n₀ n₀ M lv _ (R (F v) M (k + 1)) _ _ true _ HA.out (by omega) (by omega) hl1 hw1 (R_put (F v) (F_key v) M k hM1) (by rw [R_none (F v) (F_key v) M k k (.inr (Nat.le_refl _))]; rfl)).mono ?_
      rintro e w3 ⟨rfl, ⟨lv3, hA3⟩, hB3⟩
      have HA3 := Lib.hid hA3
      have HB3 := Lib.hid (HB.out.trans (hB3.mono (by rw [HN0.out]; exact Nat.le_refl _)))
      have hw3 : n₀ ≤ w3.heap.size := Nat.le_trans hw1 hB3.size
      have hlk : (look (R (F v) M (k + 1)) ((k : Int) * 7)).2 = true := by rw [R_some (F v) (F_key v) M (k + 1) k (by omega) (by omega)]
      have HLK := Lib.hid hlk
      clear hA3 hB3 hlk
      go_wp2_with fail
      refine (st_put n₀ n₀ M lv3 _ (R (F v) M (k + 1)) _ _ false _ HA3.out (by omega) (by omega) hl2 hw3 (put_same _ _ _ _ HLK.out) HLK.out).mono ?_
      rintro e w4 ⟨rfl, ⟨lv4, hA4⟩, hB4⟩
      have HA4 := Lib.hid hA4
      have HB4 := Lib.hid (HB3.out.trans (hB4.mono (by rw [HN0.out]; exact Nat.le_refl _)))
      clear hA4 hB4 HLK
      go_wp2
      go_roundw
      case rel => exact ⟨k + 1, lv4, by omega, by simp, HA4.out, HB4.out⟩
      case measure => simp [intOf]; omega
    · obtain rfl : k = N := by omega
      have HAk := HA
      have HBk := HB
      go_wp2_with fail
      obtain ⟨wo, hwo⟩ : ∃ wo, wo = wr := ⟨_, rfl⟩
      rw [← hwo] at HAk HBk ⊢
      clear hwo HA HB
      go_loopw [9] (fun i wq => ∃ j : Nat, j ≤ k ∧ i = .int .i64 j ∧ At wq n₀ n₀ M lv (R (F v) M k) ∧ Below n₀ w1 wq) (fun i _ => k - (intOf i).toNat)
      case atStart => exact ⟨0, Nat.zero_le _, rfl, HAk.out, HBk.out⟩
      case round =>
        obtain ⟨j, hj, rfl, hA, hB⟩ := hrel
        have HA := Lib.hid hA
        have HB := Lib.hid hB
        clear hA hB
        by_cases hjl : j < k
        · by_cases hold : j < k - M
          · have h1 : decide ((k : Int) - (M : Int) ≤ (j : Int)) = false := by simp; omega
            go_wp2_with (go_at_call 17; refine (get_is n₀ n₀ M lv (R (F v) M k) ((j : Int) * 7) 0 false _ HA.out (R_none (F v) (F_key v) M k j (.inl hold))).mono ?_; rintro e w5 ⟨rfl, hB5⟩; have HA5 := Lib.hid (HA.out.below hB5); have HB5 := Lib.hid (HB.out.trans (hB5.mono (Nat.le_trans (by rw [HN0.out]; exact Nat.le_refl _) HB.out.size))); clear hB5)
            go_roundw
            case rel => exact ⟨j + 1, by omega, by simp, HA5.out, HB5.out⟩
            case measure => simp [intOf]; omega
          · have h1 : decide ((k : Int) - (M : Int) ≤ (j : Int)) = true := by simp; omega
            go_wp2_with (go_at_call 17; refine (get_is n₀ n₀ M lv (R (F v) M k) ((j : Int) * 7) (bits .xor .i64 v (j : Int)) true _ HA.out (R_some (F v) (F_key v) M k j (by omega) hjl)).mono ?_; rintro e w5 ⟨rfl, hB5⟩; have HA5 := Lib.hid (HA.out.below hB5); have HB5 := Lib.hid (HB.out.trans (hB5.mono (Nat.le_trans (by rw [HN0.out]; exact Nat.le_refl _) HB.out.size))); clear hB5)
            go_roundw
            case rel => exact ⟨j + 1, by omega, by simp, HA5.out, HB5.out⟩
            case measure => simp [intOf]; omega
        · obtain rfl : j = k := by omega
          have hlen := R_len (F v) M j
          have hw4 : n₀ ≤ wr.heap.size := Nat.le_trans (by rw [HN0.out]; exact Nat.le_refl _) HB.out.size
          by_cases hjm : M ≤ j
          · have hln : (R (F v) M j).length = M := by omega
            clear hlen
            go_wp2_with (first
              | (go_at_call 18; refine (len_calls n₀ n₀ M lv (R (F v) M j) _ HA.out).mono ?_; rw [hln]; rintro e w6 ⟨rfl, rfl⟩)
              | (go_at_call 6; refine (SeenS.awake_calls _).mono ?_; rintro e w7 ⟨rfl, hB7⟩; have HB7 := Lib.hid hB7; clear hB7))
            all_goals
              go_ret
              exact ⟨rfl, by rw [← HN0.out]; exact HB.out.trans (HB7.out.mono hw4)⟩
          · have hln : (R (F v) M j).length = j := by omega
            clear hlen
            go_wp2_with (first
              | (go_at_call 18; refine (len_calls n₀ n₀ M lv (R (F v) M j) _ HA.out).mono ?_; rw [hln]; rintro e w6 ⟨rfl, rfl⟩)
              | (go_at_call 6; refine (SeenS.awake_calls _).mono ?_; rintro e w7 ⟨rfl, hB7⟩; have HB7 := Lib.hid hB7; clear hB7))
            all_goals
              go_ret
              exact ⟨rfl, by rw [← HN0.out]; exact HB.out.trans (HB7.out.mono hw4)⟩
theorem keeps_law (most many v : Int) (w : World) (_ : (Lit.int .i64 most).wf = true) (_ : (Lit.int .i64 many).wf = true) (_ : (Lit.int .i64 v).wf = true) :
    Calls Try.prog 4 #[.int .i64 most, .int .i64 many, .int .i64 v] w fun e w' => e = .returned (.bool true) ∧ Below w.heap.size w w' := keeps_calls most many v w
end Go.Proofs.Ytkjhgbndnaemlaa.SeenI
