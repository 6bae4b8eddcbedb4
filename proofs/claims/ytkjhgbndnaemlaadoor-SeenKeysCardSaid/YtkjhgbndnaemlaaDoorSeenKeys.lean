/- The walk of the law SeenKeys answers true, whatever the numbers. -/
import Derived.Test.YtkjhgbndnaemlaaDoorSeenAwake
import Derived.Test.YtkjhgbndnaemlaaDoorSeenI
import Derived.Test.YtkjhgbndnaemlaaDoorSeenK
import Derived.Test.YtkjhgbndnaemlaaDoorNum
import Derived.IntWalk
import Derived.Outline
import Derived.Deep.RegionHeld3
namespace Go.Proofs.YtkjhgbndnaemlaaDoor.SeenI
open Go.RowKit Go.Shelf Go.Proofs.YtkjhgbndnaemlaaDoor.Num
set_option linter.unusedVariables false
theorem ret_int {k : IntKind} {a b : Int} (h : a = b) : Ending.returned (.int k a) = .returned (.int k b) := by rw [h]
theorem low_num (x : Int) (n : Nat) (h0 : 0 < n) (h1 : n < 1000) : ∃ r : Nat, wrap64 ((IntKind.u64.wrap x).tmod n) = (r : Int) ∧ r < n := by
  have hw : 0 ≤ IntKind.u64.wrap x := by unfold IntKind.wrap; simp [IntKind.signed, IntKind.bits]; omega
  rw [Int.tmod_eq_emod_of_nonneg hw]
  have a := Int.emod_nonneg (IntKind.u64.wrap x) (show (n : Int) ≠ 0 by omega)
  have b := Int.emod_lt_of_pos (IntKind.u64.wrap x) (show (0 : Int) < n by omega)
  obtain ⟨r, hr⟩ := Int.eq_ofNat_of_zero_le a
  rw [hr] at b ⊢
  refine ⟨r, by unfold wrap64; omega, by omega⟩
set_option maxRecDepth 100000 in
theorem low_calls (x : Int) (n : Nat) (w : World) (h0 : 0 < n) (h1 : n < 1000) : Calls Tryd.prog 4 #[.int .i64 x, .int .i64 n] w fun e w' => (∃ r : Nat, e = .returned (.int .i64 r) ∧ r < n) ∧ w' = w := by
  obtain ⟨r, hr, hl⟩ := low_num x n h0 h1
  have HR := Lib.hid hr
  clear hr
  go_enter Tryd.func4, Tryd.ntmps4
  go_wp2
  go_ret
  exact ⟨⟨r, ret_int HR.out, hl⟩, rfl⟩

/-- The rows behind i puts of the keys xs. -/
def rowsI (M : Int) (xs : List Int) : Nat → List (Int × Int)
  | 0 => []
  | i + 1 => putR M (rowsI M xs i) (xs.getD i 0) i
def toK (rows : List (Int × Int)) : List (ByteArray × Int) := rows.map fun r => (itoaB r.1, r.2)
theorem toK_length (rows : List (Int × Int)) : (toK rows).length = rows.length := List.length_map ..
theorem look_toK (rows : List (Int × Int)) (k : Int) : SeenK.look (toK rows) (itoaB k) = look rows k := by
  induction rows with
  | nil => rfl
  | cons r rs ih =>
    show (if itoaB r.1 = itoaB k then (r.2, true) else SeenK.look (toK rs) (itoaB k)) = if r.1 = k then (r.2, true) else look rs k
    by_cases h : r.1 = k
    · rw [if_pos h, if_pos (by rw [h])]
    · rw [if_neg h, if_neg (fun e => h (itoaB_inj e)), ih]
theorem put_toK (M : Int) (rows : List (Int × Int)) (k v : Int) : SeenK.putR M (toK rows) (itoaB k) v = toK (putR M rows k v) := by
  unfold SeenK.putR putR
  rw [look_toK, toK_length]
  split
  · rfl
  · split
    · rw [show toK rows ++ [(itoaB k, v)] = toK (rows ++ [(k, v)]) by simp [toK]]
      simp [toK]
    · simp [toK]
theorem rows_len (M : Int) (xs : List Int) (hM : 1 ≤ M) (i : Nat) : ((rowsI M xs i).length : Int) ≤ M := by
  induction i with
  | zero => simp [rowsI]; omega
  | succ i ih =>
    show ((putR M (rowsI M xs i) (xs.getD i 0) i).length : Int) ≤ M
    unfold putR
    split
    · exact ih
    · split
      · simp; omega
      · simp; omega
theorem rows_mem (M : Int) (xs : List Int) (i : Nat) : ∀ r ∈ rowsI M xs i, ∃ j : Nat, j < i ∧ r = (xs.getD j 0, (j : Int)) := by
  induction i with
  | zero => intro r hr; simp [rowsI] at hr
  | succ i ih =>
    intro r hr
    have h1 : r ∈ rowsI M xs i ++ [(xs.getD i 0, (i : Int))] := by
      change r ∈ putR M (rowsI M xs i) (xs.getD i 0) i at hr
      unfold putR at hr
      split at hr
      · exact List.mem_append_left _ hr
      · split at hr
        · exact List.mem_of_mem_tail hr
        · exact hr
    rcases List.mem_append.1 h1 with h | h
    · obtain ⟨j, h1, h2⟩ := ih r h
      exact ⟨j, by omega, h2⟩
    · rw [List.mem_singleton] at h
      exact ⟨i, by omega, h⟩
theorem look_mem (rows : List (Int × Int)) (k : Int) (h : (look rows k).2 = true) : (k, (look rows k).1) ∈ rows := by
  induction rows with
  | nil => simp [look] at h
  | cons r rs ih =>
    unfold look at h ⊢
    split
    · rename_i e
      subst e
      exact List.mem_cons_self
    · rename_i e
      rw [if_neg e] at h
      exact List.mem_cons_of_mem _ (ih h)
theorem rows_look (M : Int) (xs : List Int) (i : Nat) (k : Int) (h : (look (rowsI M xs i) k).2 = true) : ∃ j : Nat, j < i ∧ (look (rowsI M xs i) k).1 = (j : Int) ∧ xs.getD j 0 = k := by
  obtain ⟨j, h1, h2⟩ := rows_mem M xs i _ (look_mem _ _ h)
  exact ⟨j, h1, congrArg Prod.snd h2, (congrArg Prod.fst h2).symm⟩

/-- What is known of both between two calls. -/
def Both (w0 : World) (bs bt : Nat) (M : Int) (rows : List (Int × Int)) (w : World) : Prop :=
  (∃ lv, At w w0.heap.size bs M lv rows) ∧ (∃ lv, SeenK.At w w0.heap.size bt M lv (toK rows)) ∧ Below w0.heap.size w0 w
theorem At.keepK {w w' : World} {n₀ m b : Nat} {M : Int} {lv : Value} {rows : List (Int × Int)} (h : At w n₀ b M lv rows) (hk : SeenK.Keep m w w') : At w' n₀ b M lv rows := by
  obtain ⟨h1, h2, h3⟩ := h
  refine ⟨hk.same _ _ h1 (by simp [SeenK.oty]) (by simp [SeenK.oty]), ?_, h3⟩
  refine ⟨h2.1, h2.2.imp id ?_⟩
  rintro ⟨g, cap, cur, e1, e2, e3, r⟩
  exact ⟨g, cap, cur, e1, e2, hk.same _ _ e3 (by simp [SeenK.oty]) (by simp [SeenK.oty]), r⟩
theorem keepI {w w' : World} {n₀ m b : Nat} {M : Int} {lv : Value} {rows : List (ByteArray × Int)} (h : SeenK.At w n₀ b M lv rows) (hk : Keep m w w') : SeenK.At w' n₀ b M lv rows := by
  obtain ⟨h1, h2, h3⟩ := h
  refine ⟨hk.same _ _ h1 (by simp [oty]) (by simp [oty]), ?_, h3⟩
  refine ⟨h2.1, h2.2.imp id ?_⟩
  rintro ⟨g, cap, cur, e1, e2, e3, r⟩
  exact ⟨g, cap, cur, e1, e2, hk.same _ _ e3 (by simp [oty]) (by simp [oty]), r⟩
/-- The keys lie in W. -/
def Cells (W : World) (A : Option Addr) (zs : List Int) : Prop :=
  zs = [] ∨ ∃ b off, A = some ⟨b, off, none⟩ ∧ b < W.heap.size ∧ ∀ j (h : j < zs.length), W.cell? ⟨b, off + j, none⟩ = some (.int .i64 zs[j])
/-- Halfway: s is put, t is not. -/
def Half (w0 : World) (bs bt : Nat) (M : Int) (rows rows' : List (Int × Int)) (w : World) : Prop :=
  (∃ lv, At w w0.heap.size bs M lv rows') ∧ (∃ lv, SeenK.At w w0.heap.size bt M lv (toK rows)) ∧ Below w0.heap.size w0 w
def PutI (w0 : World) (bs bt : Nat) (M : Int) (rows : List (Int × Int)) (k v : Int) (e : Ending) (w' : World) : Prop :=
  e = .returned (.bool (!(look rows k).2)) ∧ Half w0 bs bt M rows (putR M rows k v) w'
theorem putI (w0 : World) (bs bt : Nat) (M : Int) (rows : List (Int × Int)) (k v : Int) (w : World) (h : Both w0 bs bt M rows w) (h1 : 1 ≤ M) (h2 : M ≤ 32) (hl : (rows.length : Int) ≤ M) :
    Calls Tryd.prog 8 #[.pointer (some ⟨bs, 0, none⟩), .int .i64 k, .int .i64 v] w (PutI w0 bs bt M rows k v) := by
  obtain ⟨⟨lv, hA⟩, ⟨lk, hK⟩, hB⟩ := h
  exact (put_calls bs w0.heap.size M lv rows k v w hA h1 h2 hl hB.size).mono fun e w' ⟨he, lv', hA', hk⟩ => ⟨he, ⟨lv', hA'⟩, ⟨lk, keepI hK hk⟩, hB.trans hk.below⟩
theorem PutI_eq {w0 : World} {bs bt : Nat} {M : Int} {rows rows' : List (Int × Int)} {k v : Int} {bb : Bool} (h1 : (look rows k).2 = bb) (h2 : putR M rows k v = rows') : PutI w0 bs bt M rows k v = fun e w' => e = .returned (.bool (!bb)) ∧ Half w0 bs bt M rows rows' w' := by
  funext e w'
  unfold PutI
  rw [h1, h2]
theorem putK (w0 : World) (bs bt : Nat) (M : Int) (rows rows' : List (Int × Int)) (k v : Int) (w : World) (h : Half w0 bs bt M rows rows' w) (h1 : 1 ≤ M) (h2 : M ≤ 32) (hl : (rows.length : Int) ≤ M) (hr : putR M rows k v = rows') :
    Calls Tryd.prog 9 #[.pointer (some ⟨bt, 0, none⟩), .string (itoaB k), .int .i64 v] w fun e w' => e = .returned (.bool (!(look rows k).2)) ∧ Both w0 bs bt M rows' w' := by
  obtain ⟨⟨lv, hA⟩, ⟨lk, hK⟩, hB⟩ := h
  exact (SeenK.put_calls bt w0.heap.size M lk (toK rows) (itoaB k) v w hK h1 h2 (by rw [toK_length]; exact hl) hB.size).mono fun e w' ⟨he, lv', hA', hk⟩ => ⟨by rw [he, look_toK], ⟨lv, hA.keepK hk⟩, ⟨lv', by rw [← hr, ← put_toK]; exact hA'⟩, hB.trans hk.below⟩
theorem Half.grow {w0 w w' : World} {bs bt : Nat} {M : Int} {rows rows' : List (Int × Int)} (h : Half w0 bs bt M rows rows' w) (hb : Below w.heap.size w w') : Half w0 bs bt M rows rows' w' := by
  obtain ⟨⟨lv, hA⟩, ⟨lk, hK⟩, hB⟩ := h
  exact ⟨⟨lv, hA.below hb⟩, ⟨lk, hK.below hb⟩, hB.trans (hb.mono hB.size)⟩
theorem Both.grow {w0 w w' : World} {bs bt : Nat} {M : Int} {rows : List (Int × Int)} (h : Both w0 bs bt M rows w) (hb : Below w.heap.size w w') : Both w0 bs bt M rows w' := by
  obtain ⟨⟨lv, hA⟩, ⟨lk, hK⟩, hB⟩ := h
  exact ⟨⟨lv, hA.below hb⟩, ⟨lk, hK.below hb⟩, hB.trans (hb.mono hB.size)⟩
theorem Both.drew {w0 w : World} {bs bt : Nat} {M : Int} {rows : List (Int × Int)} (h : Both w0 bs bt M rows w) : Both w0 bs bt M rows w.drew := h.grow ((Below.refl _ w).drew)
theorem lenI (w0 : World) (bs bt : Nat) (M : Int) (rows : List (Int × Int)) (w : World) (h : Both w0 bs bt M rows w) :
    Calls Tryd.prog 11 #[.pointer (some ⟨bs, 0, none⟩)] w fun e w' => e = .returned (.int .i64 rows.length) ∧ w' = w := by
  obtain ⟨⟨lv, hA⟩, ⟨lk, hK⟩, hB⟩ := h
  exact len_calls bs _ M lv rows w hA
theorem lenK (w0 : World) (bs bt : Nat) (M : Int) (rows : List (Int × Int)) (w : World) (h : Both w0 bs bt M rows w) :
    Calls Tryd.prog 12 #[.pointer (some ⟨bt, 0, none⟩)] w fun e w' => e = .returned (.int .i64 rows.length) ∧ w' = w := by
  obtain ⟨⟨lv, hA⟩, ⟨lk, hK⟩, hB⟩ := h
  have := SeenK.len_calls bt _ M lk (toK rows) w hK
  rw [toK_length] at this
  exact this
theorem getI (w0 : World) (bs bt : Nat) (M : Int) (rows : List (Int × Int)) (k : Int) (w : World) (h : Both w0 bs bt M rows w) :
    Calls Tryd.prog 13 #[.pointer (some ⟨bs, 0, none⟩), .int .i64 k] w fun e w' => e = .returned (.tuple #[.int .i64 (look rows k).1, .bool (look rows k).2]) ∧ Below w.heap.size w w' := by
  obtain ⟨⟨lv, hA⟩, ⟨lk, hK⟩, hB⟩ := h
  exact get_calls bs _ M lv rows k w hA
theorem getK (w0 : World) (bs bt : Nat) (M : Int) (rows : List (Int × Int)) (k : Int) (w : World) (h : Both w0 bs bt M rows w) :
    Calls Tryd.prog 14 #[.pointer (some ⟨bt, 0, none⟩), .string (itoaB k)] w fun e w' => e = .returned (.tuple #[.int .i64 (look rows k).1, .bool (look rows k).2]) ∧ Below w.heap.size w w' := by
  obtain ⟨⟨lv, hA⟩, ⟨lk, hK⟩, hB⟩ := h
  have := SeenK.get_calls bt _ M lk (toK rows) (itoaB k) w hK
  rw [look_toK] at this
  exact this

def KeysPost (w : World) (e : Ending) (w' : World) : Prop := e = .returned (.bool true) ∧ Below w.heap.size w w'
set_option maxHeartbeats 4000000 in
set_option maxRecDepth 100000 in
theorem keys_long (most : Int) (A : Option Addr) (cap : Nat) (xs : List Int) (w : World) (hl : 60 < xs.length) : Calls Tryd.prog 3 #[.int .i64 most, .slice A xs.length cap] w (KeysPost w) := by
  have HL := Lib.hid (fun w => low_calls most 32 w (by omega) (by omega))
  go_enter Tryd.func3, Tryd.ntmps3
  go_wp2_with fail
  refine (HL.out _).mono ?_
  rintro e w1 ⟨⟨r, rfl, hr⟩, rfl⟩
  go_wp2_with (go_at_call 5; refine (SeenS.awake_calls _).mono ?_; rintro e w7 ⟨rfl, hB7⟩; have HB7 := Lib.hid hB7; clear hB7)
  go_ret
  exact ⟨rfl, HB7.out⟩
set_option maxHeartbeats 4000000 in
set_option maxRecDepth 100000 in
theorem keys_short (most : Int) (A : Option Addr) (cap : Nat) (xs : List Int) (w : World) (hl : xs.length ≤ 60) (hz : Cells w A xs) (hwf : ∀ x ∈ xs, (Lit.int .i64 x).wf = true) (hT : Tab w) : Calls Tryd.prog 3 #[.int .i64 most, .slice A xs.length cap] w (KeysPost w) := by
  have HL := Lib.hid (fun w => low_calls most 32 w (by omega) (by omega))
  have hl1 : decide ((60 : Int) < (xs.length : Int)) = false := by simp; omega
  go_enter Tryd.func3, Tryd.ntmps3
  go_wp2_with fail
  refine (HL.out _).mono ?_
  rintro e w1 ⟨⟨r, rfl, hr⟩, rfl⟩
  go_wp2_with fail
  refine (new_calls (1 + (r : Int)) _ (by omega) (by omega)).mono ?_
  rintro e w2 ⟨rfl, rfl⟩
  go_wp2_with fail
  refine (SeenK.new_calls (1 + (r : Int)) _ (by omega) (by omega)).mono ?_
  rintro e w3 ⟨rfl, rfl⟩
  have hs1 : (w1.alloc (.cells #[.int .i64 (1 + (r : Int)), .slice none 0 0] 45)).heap.size = w1.heap.size + 1 := by simp
  have hB0 : Below w1.heap.size w1 (w1.alloc (.cells #[.int .i64 (1 + (r : Int)), .slice none 0 0] 45)) := (Below.refl _ w1).alloc (Nat.le_refl _) _
  have HBo : Hid (Both w1 w1.heap.size (w1.alloc (.cells #[.int .i64 (1 + (r : Int)), .slice none 0 0] 45)).heap.size (1 + (r : Int)) [] ((w1.alloc (.cells #[.int .i64 (1 + (r : Int)), .slice none 0 0] 45)).alloc (.cells #[.int .i64 (1 + (r : Int)), .slice none 0 0] 48))) :=
    ⟨⟨_, (at_new w1.heap.size (1 + (r : Int)) w1 (Nat.le_refl _)).below ((Below.refl _ _).alloc (Nat.le_refl _) _)⟩, ⟨_, SeenK.at_new w1.heap.size (1 + (r : Int)) _ (by rw [hs1]; omega)⟩, hB0.alloc hB0.size _⟩
  generalize (w1.alloc (.cells #[.int .i64 (1 + (r : Int)), .slice none 0 0] 45)).alloc (.cells #[.int .i64 (1 + (r : Int)), .slice none 0 0] 48) = W1 at HBo ⊢
  generalize (w1.alloc (.cells #[.int .i64 (1 + (r : Int)), .slice none 0 0] 45)).heap.size = bt at HBo ⊢
  obtain ⟨bs, hbs⟩ : ∃ bs, bs = w1.heap.size := ⟨_, rfl⟩
  rw [← hbs] at HBo ⊢
  obtain ⟨M, hM⟩ : ∃ M : Int, M = 1 + (r : Int) := ⟨_, rfl⟩
  have hM1 : 1 ≤ M := by omega
  have hM2 : M ≤ 32 := by omega
  rw [← hM] at HBo ⊢
  have HZ := Lib.hid hz
  have HT := Lib.hid hT
  have HWf := Lib.hid hwf
  clear hM hbs hr HL hs1 hB0 hz hT hwf
  go_wp2_with fail
  go_loopw [7] (fun i wr => ∃ k : Nat, k ≤ xs.length ∧ i = .int .i64 k ∧ Both w1 bs bt M (rowsI M xs k) wr) (fun i _ => xs.length - (intOf i).toNat)
  case atStart => exact ⟨0, Nat.zero_le _, rfl, HBo.out⟩
  case round =>
    obtain ⟨k, hk, rfl, hB⟩ := hrel
    have HB := Lib.hid hB
    clear hB HBo
    by_cases hlt : k < xs.length
    · obtain ⟨b, off, rfl, hb, hcs⟩ : ∃ b off, A = some ⟨b, off, none⟩ ∧ b < w1.heap.size ∧ ∀ j (h : j < xs.length), w1.cell? ⟨b, off + j, none⟩ = some (.int .i64 xs[j]) := by
        rcases HZ.out with h | h
        · subst h; simp at hlt
        · exact h
      have hcw : w1.cell? ⟨b, off + k, none⟩ = some (.int .i64 xs[k]) := hcs k hlt
      have hck : wr.cell? ⟨b, off + k, none⟩ = some (.int .i64 xs[k]) := (HB.out.2.2.cell (p := ⟨b, off + k, none⟩) hb).trans (hcs k hlt)
      have hgd : xs.getD k 0 = xs[k] := by simp [List.getD, hlt]
      have hrw : putR M (rowsI M xs k) xs[k] k = rowsI M xs (k + 1) := by rw [← hgd]; rfl
      have hl1' := rows_len M xs hM1 k
      have hl2' := rows_len M xs hM1 (k + 1)
      have hdl : decide (M < ((rowsI M xs (k + 1)).length : Int)) = false := by simp; omega
      have hwk : (Lit.int .i64 xs[k]).wf = true := HWf.out _ (List.getElem_mem hlt)
      have HRW := Lib.hid hrw
      have HT0 := Lib.hid (HT.out.block (HB.out.2.2.block 0 HT.out.lt))
      have HBd := Lib.hid HB.out.drew
      clear hcs hgd hrw
      generalize hx : xs[k] = x at hcw hck HRW hwk
      clear hx
      obtain ⟨rows, hrows⟩ : ∃ rows, rowsI M xs k = rows := ⟨_, rfl⟩
      obtain ⟨rows', hrows'⟩ : ∃ rows', rowsI M xs (k + 1) = rows' := ⟨_, rfl⟩
      rw [hrows] at HB HBd hl1' HRW
      rw [hrows'] at hl2' hdl HRW
      obtain ⟨bb, hbb⟩ : ∃ bb, (look rows x).2 = bb := ⟨_, rfl⟩
      have mixed : Tryd.prog.follows Departure.mixedOrders = true := by kernel_rfl
      have HR2 := Lib.hid hrows'
      clear hrows hrows' HB HZ
      have HBB := Lib.hid hbb
      clear hbb
      go_wp2_with fail
      go_region_held3 (fun W => W.cell? ⟨b, off + k, none⟩ = some (.int .i64 x)) (first | exact hck | exact d3 | exact d4 | exact d5)
        (first
          | (go_at_call 8; refine (putI w1 bs bt M rows x k _ HBd.out hM1 hM2 hl1').mono ?_; rw [PutI_eq HBB.out HRW.out]; rintro e w3 ⟨rfl, hH⟩; have HH := Lib.hid hH; have HT3 := Lib.hid (HT.out.block (hH.2.2.block 0 HT.out.lt)); have d3 : w3.cell? ⟨b, off + k, none⟩ = some (.int .i64 x) := (hH.2.2.cell (p := ⟨b, off + k, none⟩) hb).trans hcw; clear hH)
          | (go_at_call 10; refine (itoa_calls x _ hwk HT3.out).mono ?_; rintro e w4 ⟨rfl, hb4⟩; have HH4 := Lib.hid (HH.out.grow hb4); have d4 : w4.cell? ⟨b, off + k, none⟩ = some (.int .i64 x) := (HH4.out.2.2.cell (p := ⟨b, off + k, none⟩) hb).trans hcw; clear hb4)
          | (go_at_call 9; refine (putK w1 bs bt M rows rows' x k _ HH4.out hM1 hM2 hl1' HRW.out).mono ?_; rw [HBB.out]; rintro e w5 ⟨rfl, hB5⟩; have HB5 := Lib.hid hB5; have d5 : w5.cell? ⟨b, off + k, none⟩ = some (.int .i64 x) := (hB5.2.2.cell (p := ⟨b, off + k, none⟩) hb).trans hcw; clear hB5)
          | (go_at_call 11; refine (lenI w1 bs bt M rows' _ HB5.out).mono ?_; rintro e w6 ⟨rfl, rfl⟩)
          | (go_at_call 12; refine (lenK w1 bs bt M rows' _ HB5.out).mono ?_; rintro e w6 ⟨rfl, rfl⟩))
      go_wp2
      go_roundw
      case rel => exact ⟨k + 1, by omega, by simp, by rw [HR2.out]; exact HB5.out⟩
      case measure => simp [intOf]; omega
    · obtain rfl : k = xs.length := by omega
      go_wp2_with fail
      obtain ⟨wo, hwo⟩ : ∃ wo, wo = wr := ⟨_, rfl⟩
      have HBk := HB
      rw [← hwo] at HBk ⊢
      clear hwo HB
      go_loopw [8] (fun i wq => ∃ j : Nat, j ≤ xs.length ∧ i = .int .i64 j ∧ Both w1 bs bt M (rowsI M xs xs.length) wq) (fun i _ => xs.length - (intOf i).toNat)
      case atStart => exact ⟨0, Nat.zero_le _, rfl, HBk.out⟩
      case round =>
        obtain ⟨k, hk, rfl, hB⟩ := hrel
        have HB := Lib.hid hB
        clear hB HBk
        by_cases hlt : k < xs.length
        · obtain ⟨b, off, rfl, hb, hcs⟩ : ∃ b off, A = some ⟨b, off, none⟩ ∧ b < w1.heap.size ∧ ∀ j (h : j < xs.length), w1.cell? ⟨b, off + j, none⟩ = some (.int .i64 xs[j]) := by
            rcases HZ.out with h | h
            · subst h; simp at hlt
            · exact h
          have hcw := hcs k hlt
          have hck : wr.cell? ⟨b, off + k, none⟩ = some (.int .i64 xs[k]) := (HB.out.2.2.cell (p := ⟨b, off + k, none⟩) hb).trans hcw
          have hwk : (Lit.int .i64 xs[k]).wf = true := HWf.out _ (List.getElem_mem hlt)
          have hlook := rows_look M xs xs.length xs[k]
          have HCS := Lib.hid hcs
          clear hcs
          generalize hx : xs[k] = x at hcw hck hwk hlook
          clear hx
          obtain ⟨rows, hrows⟩ : ∃ rows, rowsI M xs xs.length = rows := ⟨_, rfl⟩
          rw [hrows] at HB hlook
          obtain ⟨va, ok, hva⟩ : ∃ va ok, look rows x = (va, ok) := ⟨_, _, rfl⟩
          rw [hva] at hlook
          have HVA := Lib.hid hva
          have HRR := Lib.hid hrows
          have HBd := Lib.hid HB.out.drew
          have mixed : Tryd.prog.follows Departure.mixedOrders = true := by kernel_rfl
          clear hva hrows
          cases ok with
          | false =>
            clear hlook
            go_wp2_with (first
              | (go_at_call 13; refine (getI w1 bs bt M rows x _ HB.out).mono ?_; rw [HVA.out]; rintro e w3 ⟨rfl, hb3⟩; have HB3 := Lib.hid (HB.out.grow hb3); have HT3 := Lib.hid (HT.out.block (HB3.out.2.2.block 0 HT.out.lt)); have d3 : w3.cell? ⟨b, off + k, none⟩ = some (.int .i64 x) := (HB3.out.2.2.cell (p := ⟨b, off + k, none⟩) hb).trans hcw; clear hb3 hck HBd)
              | (go_at_call 10; refine (itoa_calls x _ hwk HT3.out).mono ?_; rintro e w4 ⟨rfl, hb4⟩; have HB4 := Lib.hid (HB3.out.grow hb4); have d4 : w4.cell? ⟨b, off + k, none⟩ = some (.int .i64 x) := (HB4.out.2.2.cell (p := ⟨b, off + k, none⟩) hb).trans hcw; clear hb4)
              | (go_at_call 14; refine (getK w1 bs bt M rows x _ HB4.out).mono ?_; rw [HVA.out]; rintro e w5 ⟨rfl, hb5⟩; have HB5 := Lib.hid (HB4.out.grow hb5); have d5 : w5.cell? ⟨b, off + k, none⟩ = some (.int .i64 x) := (HB5.out.2.2.cell (p := ⟨b, off + k, none⟩) hb).trans hcw; clear hb5))
            go_quiet (fail)
            go_wp2
            go_roundw
            case rel => exact ⟨k + 1, by omega, by simp, by rw [HRR.out]; exact HB5.out.grow ⟨rfl, rfl, rfl, Nat.le_refl _, fun _ _ => rfl⟩⟩
            case measure => simp [intOf]; omega
          | true =>
            obtain ⟨j, hj, rfl, hxj⟩ := hlook rfl
            have hjx : xs[j] = x := by rw [← hxj]; simp [List.getD, hj]
            have HCJ : Hid (w1.cell? ⟨b, off + j, none⟩ = some (.int .i64 x)) := by
              have := HCS.out j hj
              rw [hjx] at this
              exact this
            clear hxj hjx HCS
            go_wp2_with (first
              | (go_at_call 13; refine (getI w1 bs bt M rows x _ HB.out).mono ?_; rw [HVA.out]; rintro e w3 ⟨rfl, hb3⟩; have HB3 := Lib.hid (HB.out.grow hb3); have HT3 := Lib.hid (HT.out.block (HB3.out.2.2.block 0 HT.out.lt)); have d3 : w3.cell? ⟨b, off + k, none⟩ = some (.int .i64 x) := (HB3.out.2.2.cell (p := ⟨b, off + k, none⟩) hb).trans hcw; clear hb3 hck HBd)
              | (go_at_call 10; refine (itoa_calls x _ hwk HT3.out).mono ?_; rintro e w4 ⟨rfl, hb4⟩; have HB4 := Lib.hid (HB3.out.grow hb4); have d4 : w4.cell? ⟨b, off + k, none⟩ = some (.int .i64 x) := (HB4.out.2.2.cell (p := ⟨b, off + k, none⟩) hb).trans hcw; clear hb4)
              | (go_at_call 14; refine (getK w1 bs bt M rows x _ HB4.out).mono ?_; rw [HVA.out]; rintro e w5 ⟨rfl, hb5⟩; have HB5 := Lib.hid (HB4.out.grow hb5); have d5 : w5.cell? ⟨b, off + k, none⟩ = some (.int .i64 x) := (HB5.out.2.2.cell (p := ⟨b, off + k, none⟩) hb).trans hcw; have d6 : w5.cell? ⟨b, off + j, none⟩ = some (.int .i64 x) := (HB5.out.2.2.cell (p := ⟨b, off + j, none⟩) hb).trans HCJ.out; clear hb5))
            go_quiet (fail)
            go_wp2
            go_roundw
            case rel => exact ⟨k + 1, by omega, by simp, by rw [HRR.out]; exact HB5.out.grow ⟨rfl, rfl, rfl, Nat.le_refl _, fun _ _ => rfl⟩⟩
            case measure => simp [intOf]; omega
        · obtain rfl : k = xs.length := by omega
          go_wp2_with (go_at_call 5; refine (SeenS.awake_calls _).mono ?_; rintro e w7 ⟨rfl, hB7⟩; have HB7 := Lib.hid hB7; clear hB7)
          go_ret
          exact ⟨rfl, HB.out.2.2.trans (HB7.out.mono HB.out.2.2.size)⟩
theorem keys_law (most : Int) (A : Option Addr) (cap : Nat) (xs : List Int) (w : World) (_ : (Lit.int .i64 most).wf = true) (hz : Cells w A xs) (_ : A = none → xs.length = 0 ∧ cap = 0) (_ : xs.length ≤ cap) (hwf : ∀ x ∈ xs, (Lit.int .i64 x).wf = true) (_ : xs.length * 8 ≤ 140737488351232) (hT : Tab w) :
    Calls Tryd.prog 3 #[.int .i64 most, .slice A xs.length cap] w fun e w' => e = .returned (.bool true) ∧ Below w.heap.size w w' := by
  by_cases hl : 60 < xs.length
  · exact keys_long most A cap xs w hl
  · exact keys_short most A cap xs w (by omega) hz hwf hT
end Go.Proofs.YtkjhgbndnaemlaaDoor.SeenI
