/- The function awake of chapter 19 answers true. -/
import Derived.Test.YtkjhgbndnaemlaaDoorSeenS
namespace Go.Proofs.YtkjhgbndnaemlaaDoor.SeenS
open Go.RowKit Go.Shelf
attribute [local go_sem] Oper.semAt_some
set_option linter.unusedVariables false

def AwPut (n₀ b : Nat) (res : Bool) (rows : List (Int × V)) (w : World) (e : Ending) (w' : World) : Prop := e = .returned (.bool res) ∧ (∃ lv, At w' n₀ b 1 lv rows) ∧ Below n₀ w w'
theorem aw_put (n₀ b : Nat) (lv : Value) (rows rows' : List (Int × V)) (k : Int) (v : V) (res : Bool) (w : World) (hS : At w n₀ b 1 lv rows) (hl : (rows.length : Int) ≤ 1) (hn : n₀ ≤ w.heap.size) (hp : putR 1 rows k v = rows') (hr : (look rows k).2 = !res) :
    Calls Tryd.prog 16 #[.pointer (some ⟨b, 0, none⟩), .int .i64 k, .string v] w (AwPut n₀ b res rows' w) :=
  (put_calls b n₀ 1 lv rows k v w hS (by omega) (by omega) hl hn).mono fun e w' ⟨he, lv', hA, hK⟩ => ⟨by rw [he, hr]; simp, ⟨lv', hp ▸ hA⟩, hK.below⟩
set_option maxRecDepth 100000 in
theorem new15_no (w : World) : Calls Tryd.prog 6 #[.int .i64 0] w fun e W' => e = .returned (.pointer none) ∧ W' = w := by
  go_enter Tryd.func6, Tryd.ntmps6
  go_wp2
  go_ret
  exact ⟨rfl, rfl⟩

set_option maxHeartbeats 4000000 in
set_option maxRecDepth 100000 in
theorem awake_calls (w : World) : Calls Tryd.prog 5 #[] w fun e w' => e = .returned (.bool true) ∧ Below w.heap.size w w' := by
  have HN := Lib.hid (at_new (n₀ := w.heap.size) 1 w (Nat.le_refl _))
  have HB := Lib.hid ((Below.refl w.heap.size w).alloc (Nat.le_refl _) (.cells #[.int .i64 1, .slice none 0 0] 63))
  have Hnew : Hid (∃ W0, W0 = w.alloc (.cells #[.int .i64 1, .slice none 0 0] 63)) := ⟨_, rfl⟩
  have hs0 := HB.out.size
  generalize hX : w.alloc (.cells #[.int .i64 1, .slice none 0 0] 63) = X at HN HB hs0
  have HX := Lib.hid hX
  clear hX
  go_enter Tryd.func5, Tryd.ntmps5
  go_wp2_with (first
    | (go_at_call 15; refine (new_calls 1 _ (by omega) (by omega)).mono ?_; rw [HX.out]; rintro e w0 ⟨rfl, rfl⟩))
  refine (aw_put w.heap.size w.heap.size _ [] [(7, ⟨#[97]⟩)] 7 ⟨#[97]⟩ true _ HN.out (by simp) hs0 (by simp [putR, look]) rfl).mono ?_
  rintro e w1 ⟨rfl, ⟨lv1, hA⟩, hB⟩
  have HA1 := Lib.hid hA
  have HB1 := Lib.hid (HB.out.trans hB)
  clear hA hB
  go_wp2_with fail
  refine (aw_put w.heap.size w.heap.size _ [(7, ⟨#[97]⟩)] [(7, ⟨#[97]⟩)] 7 ⟨#[98]⟩ false _ HA1.out (by simp) HB1.out.size (by simp [putR, look]) rfl).mono ?_
  rintro e w2 ⟨rfl, ⟨lv2, hA⟩, hB⟩
  have HA2 := Lib.hid hA
  have HB2 := Lib.hid (HB1.out.trans hB)
  clear hA hB HA1
  go_wp2_with fail
  refine (get_is w.heap.size w.heap.size 1 _ [(7, ⟨#[97]⟩)] 7 ⟨#[97]⟩ true _ HA2.out (by simp [look])).mono ?_
  rintro e w3 ⟨rfl, hB⟩
  have HA3 := Lib.hid (HA2.out.below hB)
  have HB3 := Lib.hid (HB2.out.trans (hB.mono HB2.out.size))
  clear hB HA2
  go_wp2_with fail
  refine (aw_put w.heap.size w.heap.size _ [(7, ⟨#[97]⟩)] [(8, ⟨#[99]⟩)] 8 ⟨#[99]⟩ true _ HA3.out (by simp) HB3.out.size (by simp [putR, look]) rfl).mono ?_
  rintro e w4 ⟨rfl, ⟨lv4, hA⟩, hB⟩
  have HA4 := Lib.hid hA
  have HB4 := Lib.hid (HB3.out.trans hB)
  clear hA hB HA3
  go_wp2_with fail
  refine (get_is w.heap.size w.heap.size 1 _ [(8, ⟨#[99]⟩)] 7 ⟨#[]⟩ false _ HA4.out (by simp [look])).mono ?_
  rintro e w5 ⟨rfl, hB⟩
  have HA5 := Lib.hid (HA4.out.below hB)
  have HB5 := Lib.hid (HB4.out.trans (hB.mono HB4.out.size))
  clear hB HA4
  go_wp2_with (first
    | (go_at_call 18; refine (len_calls _ _ _ _ _ _ HA5.out).mono ?_; rintro e w6 ⟨rfl, rfl⟩)
    | (go_at_call 6; refine (new15_no _).mono ?_; rintro e w7 ⟨rfl, rfl⟩))
  go_ret
  exact ⟨rfl, HB5.out⟩
end Go.Proofs.YtkjhgbndnaemlaaDoor.SeenS
