/- The calls of seen.Seen at one kind of value (New, Get, Put, Len, All, Clone, Delete) do what the plain list of rows says. -/
import Derived.RangeFuncNested
import Derived.RangeFuncBound
import Derived.RangeFuncCalls
import Derived.RangeFuncLeaves
import Derived.Shelf.Abstract
import Derived.Shelf.RegionOpen
import Derived.WalkKit
import Derived.OwnWalkIn
import Derived.TacticsInMore
import Derived.LoopNIn
import Derived.LoopIn
import Derived.Maps.AppendAt
import Derived.WalkSpells
import Derived.Lib.Hide
import Derived.Deep.RegionLaw
import Derived.Shelf.RegionOpenPlain
import Derived.Laws.IdiomCopy
import Derived.Deep.QuietTactic
import Derived.BigQuiet
import Derived.Test.YtkjhgbndnaemlaaDoorProg
namespace Go.Proofs.YtkjhgbndnaemlaaDoor.SeenS
open Go.RowKit Go.Shelf

attribute [local go_sem] Oper.semAt_some
set_option linter.unusedVariables false

abbrev V := ByteArray
def flat (rows : List (Int × V)) : List Value := rows.flatMap fun r => [.int .i64 r.1, .string r.2]
theorem flat_length (rows : List (Int × V)) : (flat rows).length = rows.length * 2 := by
  induction rows with
  | nil => rfl
  | cons r rs ih => simp [flat] at ih ⊢; omega
theorem flat_one (rows : List (Int × V)) : ∀ u ∈ flat rows, u.oneCell' = true := by
  intro u hu
  simp only [flat, List.mem_flatMap] at hu
  obtain ⟨r, _, hr⟩ := hu
  simp at hr
  rcases hr with rfl | rfl <;> rfl

theorem info65 : (Tryd.prog.info? 65).map (fun i => (i.zero, i.size, i.bytes)) = some (some (.agg #[.int .i64 0, .string ⟨#[]⟩]), 2, 24) := by kernel_rfl

set_option maxHeartbeats 2000000 in
set_option maxRecDepth 100000 in
theorem clone_calls (w : World) (n₀ : Nat) (lv : Value) (rows : List (Int × V)) (hlen : rows.length ≤ 40) (hrow : w.ownsRow n₀ 65 2 lv rows.length (flat rows)) :
    Calls Tryd.prog 32 #[lv] w fun e w' => ∃ v', e = .returned v' ∧ w'.ownsRow w.heap.size 65 2 v' rows.length (flat rows) ∧ Below w.heap.size w w' := by
  obtain ⟨i0, hi, hz0, hz1, hz2⟩ := info_parts info65
  rcases hrow.2 with ⟨rfl, h0⟩ | ⟨g, cap, cur, rfl, hg, hh, hc1, hc2, hcs, htk⟩
  · have e0 : rows = [] := List.eq_nil_of_length_eq_zero h0
    subst e0
    clear hrow
    have hn := fun (w : World) => Lib.run_eql_slice_nil (P := Tryd.prog) w 61 65 none 0 0 0 0 Tryd.underlying61
    go_enter Tryd.func32, Tryd.ntmps32
    go_wp2
    go_ret
    exact ⟨_, rfl, World.ownsRow_nil _ _ _ _, Below.refl _ _⟩
  · have hcl := hrow.cells (g := g) rfl
    have hlt := (Array.getElem?_eq_some_iff.1 hh).1
    have HN : Hid (∀ j u, (flat rows)[j]? = some u → (w.alloc (.cells #[] 65)).cell? ((⟨g, 0, none⟩ : Addr).add j) = some u) := fun j u hu => by
      have := hcl j u hu
      rw [Addr.add_lit] at this ⊢
      exact (World.cell?_of_block (w := w) (Below.heap_alloc w _ _ hlt)).trans this
    clear hcl hh hcs htk hrow
    have hn := fun (w : World) => Lib.run_eql_slice_nil (P := Tryd.prog) w 61 65 (some ⟨g, 0, none⟩) rows.length cap 0 0 Tryd.underlying61
    go_enter Tryd.func32, Tryd.ntmps32
    have hown := World.ownsRow_made (base := w.heap.size) (e := 65) (size := 2) w #[] 0 (Nat.le_refl _) (by decide) rfl
    go_wp2_with (at_builtin; refine wpList_append_own _ rfl _ _ 61 rfl w.heap.size 65 i0 (.agg #[.int .i64 0, .string ⟨#[]⟩]) 2 24 Tryd.underlying61 hi hz0 hz1 hz2 rfl (by decide) _ _ _ rfl hown ⟨g, 0, none⟩ rows.length cap (flat rows) rfl (flat_length rows) HN.out (flat_one rows) (by unfold maxLen; omega) (by omega) (by simp) ?_; intro v' w1 hown' hgrow _)
    go_ret
    exact ⟨_, rfl, by simpa using hown', ((Below.refl _ w).alloc (Nat.le_refl _) _).grown hgrow (by simp) (fun k e => by cases e; exact Nat.le_refl _)⟩

/-- What a round keeps: every block of cells from B on. -/
def KpC (B : Nat) (W W' : World) : Prop := W.heap.size ≤ W'.heap.size ∧ ∀ k cur t z, B ≤ k → W.heap[k]? = some (.cells cur t z) → W'.heap[k]? = some (.cells cur t z)
theorem KpC.refl (B : Nat) (W : World) : KpC B W W := ⟨Nat.le_refl _, fun _ _ _ _ _ h => h⟩
theorem KpC.trans {B : Nat} {X Y Z : World} (h : KpC B X Y) (k : KpC B Y Z) : KpC B X Z := ⟨Nat.le_trans h.1 k.1, fun i c t z hi hh => k.2 i c t z hi (h.2 i c t z hi hh)⟩
theorem KpC.alloc (B : Nat) (W : World) (o : Obj) : KpC B W (W.alloc o) := ⟨by simp, fun i c t z hi hh => (Below.heap_alloc W o i (Array.getElem?_eq_some_iff.1 hh).1).trans hh⟩
theorem KpC.setCell {B : Nat} (W : World) {p : Addr} (hp : p.block < B) (v : Value) : KpC B W (W.setCell p v) := ⟨by simp [World.setCell], fun i c t z hi hh => (Below.heap_setCell W p v i (by omega)).trans hh⟩
theorem KpC.putObj {B : Nat} (W : World) (l : Nat) (o o' : Obj) (h : W.heap[l]? = some o) (ho : o.isCells = false) : KpC B W (W.putObj l o') :=
  ⟨by simp, fun i c t z hi hh => (World.putObj_heap_other (fun e => by subst e; rw [hh] at h; cases h; cases ho)).trans hh⟩
theorem KpC.of_below {B : Nat} {W W' : World} (h : Below W.heap.size W W') : KpC B W W' := ⟨h.size, fun i c t z hi hh => (h.block i (Array.getElem?_eq_some_iff.1 hh).1).trans hh⟩

def At (W : World) (n₀ b : Nat) (most : Int) (lv : Value) (rows : List (Int × V)) : Prop :=
  W.heap[b]? = some (.cells #[.int .i64 most, lv] 63 (0, 0)) ∧ W.ownsRow n₀ 65 2 lv rows.length (flat rows) ∧ rows.length ≤ 40 ∧ n₀ ≤ b

theorem flat_get (rows : List (Int × V)) (k : Nat) (h : k < rows.length) : (flat rows)[k * 2]? = some (.int .i64 rows[k].1) ∧ (flat rows)[k * 2 + 1]? = some (.string rows[k].2) := by
  induction rows generalizing k with
  | nil => simp at h
  | cons r rs ih =>
    cases k with
    | zero => simp [flat]
    | succ k =>
      have := ih k (by simpa using h)
      rw [show (k + 1) * 2 = k * 2 + 2 by omega]
      simpa [flat] using this

theorem below_grown {W W' : World} (h : Below W.heap.size W W') : W.grownBy W' none := ⟨h.os, h.tape, h.output, h.size, fun k hk _ => h.block k hk⟩

theorem row_slice {W : World} {n₀ : Nat} {e : TypeId} {size : Nat} {v : Value} {n : Nat} {xs : List Value} (h : W.ownsRow n₀ e size v n xs) :
    ∃ A cap, v = .slice A n cap ∧ (0 < n → ∃ (c : Nat) (cur : Array Value), A = some ⟨c, 0, none⟩ ∧ n₀ ≤ c ∧ W.heap[c]? = some (.cells cur e (0, 0)) ∧ ∀ (j : Nat) (u : Value), xs[j]? = some u → cur[j]? = some u) := by
  rcases h.2 with ⟨rfl, rfl⟩ | ⟨g, cap, cur, rfl, hg, hh, hc1, hc2, hcs, htk⟩
  · exact ⟨none, 0, rfl, fun h => absurd h (by omega)⟩
  · refine ⟨_, cap, rfl, fun _ => ⟨g, cur, rfl, hg, hh, fun j u hu => ?_⟩⟩
    rw [← htk, List.getElem?_take] at hu
    split at hu
    · simpa using hu
    · cases hu

set_option maxHeartbeats 2000000 in
set_option maxRecDepth 100000 in
theorem all1_in (n l Bs b n₀ B : Nat) (most : Int) (lv : Value) (rows : List (Int × V)) (J Jx : List (Int × V) → World → Prop) (W : World) (hJ : AbidesFrom W.heap.size J)
    (hY : ∀ pre x W1, J pre W1 → pre.length < rows.length → YieldAt Fence.wide (n - 1) Tryd.prog l #[.int .i64 x.1, .string x.2] W1 fun e W' =>
      (e = .returned (.bool true) ∧ J (pre ++ [x]) W' ∧ KpC B W1 W') ∨ (e = .returned (.bool false) ∧ Jx (pre ++ [x]) W'))
    (hn : 1 ≤ n) (hB : B ≤ W.heap.size) (hBs : W.cell? ⟨Bs, 0, none⟩ = some (.pointer (some ⟨b, 0, none⟩))) (hS : At W n₀ b most lv rows) (h0 : J [] W) :
    CallsIn Fence.wide n Tryd.prog 31 #[.func (.yield l) #[] #[], .pointer (some ⟨Bs, 0, none⟩)] W fun e W' => (∃ v, e = .returned v) ∧
      ((∃ ys, ys = rows ∧ J ys W') ∨ (∃ pre, pre <+: rows ∧ Jx pre W')) := by
  obtain ⟨hb, hrow, hlen, _⟩ := hS
  have hb1 : W.cell? ⟨b, 1, none⟩ = some lv := by simp [World.cell?, hb]
  refine callsIn_of_wp Tryd.func31 rfl trivial ?_ rfl
  simp only [Tryd.ntmps31, List.size_toArray, List.length_cons, List.length_nil, Nat.reduceAdd, Nat.reduceSub, Array.replicate_succ, Array.replicate_zero, List.push_toArray, List.append_toArray, List.nil_append, List.cons_append]
  have HR := Lib.hid hrow
  have HJ := Lib.hid hJ
  have HY := Lib.hid hY
  have H0 := Lib.hid h0
  clear hrow hJ hY h0 hb
  have h32 : Fence.wide.fn 32 := trivial
  gi_wp2_with (gi_at_call 32; refine (callsIn_wide.2 (clone_calls _ n₀ lv rows hlen HR.out)).mono ?_; rintro e w1 ⟨v1, rfl, ho1, hb1⟩; obtain ⟨A1, c1, rfl, ho2⟩ := row_slice ho1; have HO := Lib.hid ho2; have HB := Lib.hid hb1; clear ho1 ho2 hb1)
  gi_loopw [13] (fun i wr => ∃ k : Nat, k ≤ rows.length ∧ i = .int .i64 k ∧ J (rows.take k) wr ∧ KpC B w1 wr) (fun i _ => rows.length - (intOf i).toNat)
  case atStart => exact ⟨0, Nat.zero_le _, rfl, HJ.out _ _ _ none H0.out (below_grown HB.out) (fun r e => by cases e), KpC.refl _ _⟩
  case round =>
    obtain ⟨k, hk, rfl, hJs, hkp⟩ := hrel
    have HJs := Lib.hid hJs
    have HK := Lib.hid hkp
    clear hJs hkp
    by_cases hlt : k < rows.length
    · obtain ⟨c, cur, rfl, hc0, hcc, hcu⟩ := HO.out (by omega)
      have hcw : wr.heap[c]? = some (.cells cur 65 (0, 0)) := HK.out.2 _ _ _ _ (by omega) hcc
      have hfg := flat_get rows k hlt
      have c0 : wr.cell? ⟨c, k * 2, none⟩ = some (.int .i64 rows[k].1) := by simp [World.cell?, hcw, hcu _ _ hfg.1]
      have c1 : wr.cell? ⟨c, k * 2 + 1, none⟩ = some (.string rows[k].2) := by simp [World.cell?, hcw, hcu _ _ hfg.2]
      have HJ2 : Hid (J (rows.take k) (wr.alloc (.cells #[.int .i64 rows[k].1, .string rows[k].2] 65))) := Lib.hid (HJ.out _ _ _ none HJs.out (World.grownBy_alloc _ _ _) (fun r e => by cases e))
      obtain ⟨fn, tmps, assign, body, hy, hR⟩ := HY.out (rows.take k) rows[k] _ HJ2.out (by rw [List.length_take]; omega)
      have HRR := Lib.hid hR
      have HCW := Lib.hid hcw
      clear hR hfg hcu hcc hcw
      gi_wp2
      refine HRR.out.mono ?_
      rintro e W3 (⟨rfl, hJ3, hk3⟩ | ⟨rfl, hJx3⟩)
      · have HJ3 := Lib.hid hJ3
        have HK3 := Lib.hid hk3
        clear hJ3 hk3
        gi_wp2
        go_roundw
        case rel => exact ⟨k + 1, by omega, by simp, by rw [List.take_succ_eq_append_getElem hlt]; exact HJ3.out, (HK.out.trans (KpC.alloc _ _ _)).trans HK3.out⟩
        case measure => simp [intOf]; omega
      · have HJ3 := Lib.hid hJx3
        clear hJx3
        gi_wp2
        refine bodyPost_ret (results_none rfl _ _ _) rfl ?_
        exact ⟨⟨_, rfl⟩, .inr ⟨_, by rw [← List.take_succ_eq_append_getElem hlt]; exact List.take_prefix _ _, HJ3.out⟩⟩
    · obtain rfl : k = rows.length := by omega
      gi_wp2
      go_end0
      exact ⟨⟨_, rfl⟩, .inl ⟨_, rfl, by simpa using HJs.out⟩⟩

set_option maxHeartbeats 1000000 in
set_option maxRecDepth 100000 in
theorem all_in (n : Nat) (p : Option Addr) (w : World) :
    CallsIn Fence.wide n Tryd.prog 25 #[.pointer p] w fun e w' => e = .returned (.func (.func 31) #[] #[.pointer (some ⟨w.heap.size, 0, none⟩)]) ∧ w' = w.alloc (.cells #[.pointer p] 38) := by
  refine callsIn_of_wp Tryd.func25 rfl trivial ?_ rfl
  simp only [Tryd.ntmps25, List.size_toArray, List.length_cons, List.length_nil, Nat.reduceAdd, Nat.reduceSub, Array.replicate_succ, Array.replicate_zero, List.push_toArray, List.append_toArray, List.nil_append, List.cons_append]
  gi_wp2
  go_ret
  exact ⟨rfl, rfl⟩

theorem At.below {w W : World} {n₀ b : Nat} {most : Int} {lv : Value} {rows : List (Int × V)} (h : At w n₀ b most lv rows) (hb : Below w.heap.size w W) : At W n₀ b most lv rows :=
  ⟨(hb.block _ (Array.getElem?_eq_some_iff.1 h.1).1).trans h.1, h.2.1.kept (below_grown hb) (by cases hv : lv.ownBlock <;> simp), h.2.2⟩

theorem all_stops (n Bs b n₀ B : Nat) (most : Int) (lv : Value) (rows : List (Int × V)) (w : World) (hn : 1 ≤ n) (hB : B ≤ w.heap.size) (hBs : w.cell? ⟨Bs, 0, none⟩ = some (.pointer (some ⟨b, 0, none⟩))) (hS : At w n₀ b most lv rows) :
    SeqStopsK Fence.wide n Tryd.prog 31 #[.pointer (some ⟨Bs, 0, none⟩)] (fun x : Int × V => #[Value.int .i64 x.1, .string x.2]) (KpC B) (fun ys => ys = rows) (fun pre => pre <+: rows) rows.length w :=
  fun l J Jx W hW hJ hJx hY h0 => all1_in n l Bs b n₀ B most lv rows J Jx W hJ hY hn (by have := hW.size; omega) ((hW.cell (p := ⟨Bs, 0, none⟩) (World.block_lt_of_cell? w _ hBs)).trans hBs) (hS.below hW) h0

set_option maxHeartbeats 1000000 in
set_option maxRecDepth 100000 in
theorem all1_nil (n l Bs : Nat) (J : List (Int × V) → World → Prop) (W : World) (hBs : W.cell? ⟨Bs, 0, none⟩ = some (.pointer none)) (h0 : J [] W) :
    CallsIn Fence.wide n Tryd.prog 31 #[.func (.yield l) #[] #[], .pointer (some ⟨Bs, 0, none⟩)] W fun e W' => (∃ v, e = .returned v) ∧ J [] W' := by
  refine callsIn_of_wp Tryd.func31 rfl trivial ?_ rfl
  simp only [Tryd.ntmps31, List.size_toArray, List.length_cons, List.length_nil, Nat.reduceAdd, Nat.reduceSub, Array.replicate_succ, Array.replicate_zero, List.push_toArray, List.append_toArray, List.nil_append, List.cons_append]
  gi_wp2
  refine bodyPost_ret (results_none rfl _ _ _) rfl ?_
  exact ⟨⟨_, rfl⟩, h0⟩

theorem all_stops_nil (n Bs B : Nat) (w : World) (hBs : w.cell? ⟨Bs, 0, none⟩ = some (.pointer none)) :
    SeqStopsK Fence.wide n Tryd.prog 31 #[.pointer (some ⟨Bs, 0, none⟩)] (fun x : Int × V => #[Value.int .i64 x.1, .string x.2]) (KpC B) (fun ys => ys = []) (fun pre => pre <+: []) 0 w :=
  fun l J Jx W hW hJ hJx hY h0 => (all1_nil n l Bs J W ((hW.cell (p := ⟨Bs, 0, none⟩) (World.block_lt_of_cell? w _ hBs)).trans hBs) h0).mono fun e W' ⟨he, hj⟩ => ⟨he, .inl ⟨_, rfl, hj⟩⟩

def look : List (Int × V) → Int → V × Bool
  | [], _ => (⟨#[]⟩, false)
  | r :: rs, k => if r.1 = k then (r.2, true) else look rs k
theorem look_none (rows : List (Int × V)) (k : Int) (h : ∀ r ∈ rows, r.1 ≠ k) : look rows k = (⟨#[]⟩, false) := by
  induction rows with
  | nil => rfl
  | cons r rs ih => simp only [look]; rw [if_neg (h r (by simp))]; exact ih fun x hx => h x (by simp [hx])
theorem look_some (ini rest : List (Int × V)) (x : Int × V) (h : ∀ r ∈ ini, r.1 ≠ x.1) : look (ini ++ x :: rest) x.1 = (x.2, true) := by
  induction ini with
  | nil => simp [look]
  | cons r rs ih => simp only [look, List.cons_append]; rw [if_neg (h r (by simp))]; exact ih fun y hy => h y (by simp [hy])

set_option maxHeartbeats 2000000 in
set_option maxRecDepth 100000 in
theorem get_in (p : Option Addr) (k : Int) (rows : List (Int × V)) (w : World)
    (hseq : ∀ (W : World), Below w.heap.size w W → ∀ Bs B, B ≤ W.heap.size → W.cell? ⟨Bs, 0, none⟩ = some (.pointer p) → SeqStopsK Fence.wide 8 Tryd.prog 31 #[.pointer (some ⟨Bs, 0, none⟩)] (fun x : Int × V => #[Value.int .i64 x.1, .string x.2]) (KpC B) (fun ys => ys = rows) (fun pre => pre <+: rows) rows.length W) :
    CallsIn Fence.wide 9 Tryd.prog 17 #[.pointer p, .int .i64 k] w fun e W' => e = .returned (.tuple #[.string (look rows k).1, .bool (look rows k).2]) ∧ Below w.heap.size w W' := by
  have HS := Lib.hid hseq
  clear hseq
  refine callsIn_of_wp_marks Tryd.func17 rfl trivial ?_ rfl
  simp only [Tryd.ntmps17, List.size_toArray, List.length_cons, List.length_nil, Nat.reduceAdd, Nat.reduceSub, Array.replicate_succ, Array.replicate_zero, List.push_toArray, List.append_toArray, List.nil_append, List.cons_append]
  have h25 : Fence.wide.fn 25 := trivial
  gi_wp2_with (gi_at_call 25; refine (all_in _ _ _).mono ?_; rintro e w' ⟨rfl, rfl⟩)
  have bK := Boxed.new w 3 (.int .i64 k)
  have bV := Boxed.new (w.alloc (.cells #[.int .i64 k] 3)) 9 (.string ⟨#[]⟩)
  have bB := Boxed.new ((w.alloc (.cells #[.int .i64 k] 3)).alloc (.cells #[.string ⟨#[]⟩] 9)) 4 (.bool false)
  have bP := Boxed.new (((w.alloc (.cells #[.int .i64 k] 3)).alloc (.cells #[.string ⟨#[]⟩] 9)).alloc (.cells #[.bool false] 4)) 38 (.pointer p)
  have hBl : Below w.heap.size w ((((w.alloc (.cells #[.int .i64 k] 3)).alloc (.cells #[.string ⟨#[]⟩] 9)).alloc (.cells #[.bool false] 4)).alloc (.cells #[.pointer p] 38)) :=
    ((((Below.refl _ w).alloc (Nat.le_refl _) _).alloc (by simp) _).alloc (by simp; omega) _).alloc (by simp; omega) _
  replace bK := ((bK.alloc (.cells #[.string ⟨#[]⟩] 9)).alloc (.cells #[.bool false] 4)).alloc (.cells #[.pointer p] 38)
  replace bV := (bV.alloc (.cells #[.bool false] 4)).alloc (.cells #[.pointer p] 38)
  replace bB := bB.alloc (.cells #[.pointer p] 38)
  simp only [World.size_alloc] at bV bB bP
  have hsz : ((((w.alloc (.cells #[.int .i64 k] 3)).alloc (.cells #[.string ⟨#[]⟩] 9)).alloc (.cells #[.bool false] 4)).alloc (.cells #[.pointer p] 38)).heap.size = w.heap.size + 4 := by simp
  obtain ⟨W0, hW0⟩ : ∃ W0, ((((w.alloc (.cells #[.int .i64 k] 3)).alloc (.cells #[.string ⟨#[]⟩] 9)).alloc (.cells #[.bool false] 4)).alloc (.cells #[.pointer p] 38)) = W0 := ⟨_, rfl⟩
  rw [hW0] at bK bV bB bP hBl hsz ⊢
  clear hW0
  have HSZ := Lib.hid hsz
  refine wpIn_rangeFunc_ownH rfl (by omega) (gf := 31) (lb := #[.pointer (some ⟨w.heap.size + 1 + 1 + 1, 0, none⟩)]) rfl trivial (enters_of Tryd.func31 (by kernel_rfl) rfl)
    (HS.out W0 hBl _ W0.heap.size (Nat.le_refl _) bP.cell) (fun h k => h.trans k) (fun W l o o' _ h ho _ => KpC.putObj W l o o' h ho) (Below.refl _ _) (fun _ => rfl)
    (fun pre W => ((∀ r ∈ pre, r.1 ≠ k) ∧ Boxed W w.heap.size 3 (.int .i64 k) ∧ Boxed W (w.heap.size + 1) 9 (.string ⟨#[]⟩) ∧ Boxed W (w.heap.size + 1 + 1) 4 (.bool false)) ∧ Below w.heap.size w W)
    (fun c pre W => (c = .ret ∧ ∃ ini last, pre = ini ++ [last] ∧ (∀ r ∈ ini, r.1 ≠ last.1) ∧ last.1 = k ∧ Boxed W (w.heap.size + 1) 9 (.string last.2) ∧ Boxed W (w.heap.size + 1 + 1) 4 (.bool true)) ∧ Below w.heap.size w W)
    (OwnFrom.and (Own.from (fun s X Y row hs hg hr => ⟨hs.1, boxed_own _ _ (fun _ => _) () X Y row hs.2.1 hg hr, boxed_own _ _ (fun _ => _) () X Y row hs.2.2.1 hg hr, boxed_own _ _ (fun _ => _) () X Y row hs.2.2.2 hg hr⟩) _) (ownFrom_below (Nat.le_refl _) (by omega)))
    (fun c => OwnFrom.and (Own.from (fun s X Y row hs hg hr => by obtain ⟨hc, ini, last, e1, e2, e3, e4, e5⟩ := hs; exact ⟨hc, ini, last, e1, e2, e3, boxed_own _ _ (fun _ => _) () X Y row e4 hg hr, boxed_own _ _ (fun _ => _) () X Y row e5 hg hr⟩) _) (ownFrom_below (Nat.le_refl _) (by omega)))
    ⟨⟨by simp, bK, bV, bB⟩, hBl⟩
    (fun x a' _ => a' = { tmps := #[.pointer p, .int .i64 k, undef, .pointer (some ⟨w.heap.size, 0, none⟩), .pointer (some ⟨w.heap.size + 1, 0, none⟩), .pointer (some ⟨w.heap.size + 1 + 1, 0, none⟩), .int .i64 x.1, .string x.2, undef, .pointer p, .func (.func 31) #[] #[.pointer (some ⟨w.heap.size + 1 + 1 + 1, 0, none⟩)], .int .i64 x.1, .string x.2, undef, undef, undef, undef, undef], defers := [] })
    (fun x a' => ownFrom_pure _ _) ?assign ?body ?done ?stop
  case assign =>
    intro l pre x W K hi hK
    gi_wp2
    exact hK _ _ (KeepsFrom.refl _ _) (KpC.refl _ _) hi rfl
  case body =>
    rintro l pre x a' W hl ⟨r, hr⟩ ⟨⟨hp, hk, hv, hb⟩, hB⟩ rfl hlt
    have HP := Lib.hid hp
    have hkc := hk.cell
    have hvc := hv.cell
    have hvf := hv.frozen
    have hbc := hb.cell
    have hbf := hb.frozen
    clear hp
    gi_wp2
    · have hx : x.1 = k := by simpa using (show (x.1 == k) = true by assumption)
      exact ⟨((KeepsOthers.setCell _ _ _).trans (KeepsOthers.setCell _ _ _)).from _, ⟨rfl, pre, x, rfl, fun r hr => by rw [hx]; exact HP.out r hr, hx, (hv.set _).other (by omega) _, (hb.other (by omega) _).set _⟩, (hB.setCell (p := ⟨w.heap.size + 1, 0, none⟩) (Nat.le_succ _) _).setCell (p := ⟨w.heap.size + 1 + 1, 0, none⟩) (by show w.heap.size ≤ w.heap.size + 1 + 1; omega) _⟩
    · have hx : ¬ x.1 = k := by simpa using (show (x.1 == k) = false by assumption)
      exact ⟨KeepsFrom.refl _ _, KpC.refl _ _, ⟨⟨fun r hr => (List.mem_append.1 hr).elim (HP.out r) (fun e => by simp at e; subst e; exact hx), hk, hv, hb⟩, hB⟩⟩
  case done =>
    rintro D ys W hD rfl ⟨⟨hne, hk, hv, hb⟩, hB⟩ hK
    have HP := Lib.hid hne
    clear hne
    have hvc := hv.cell
    have hvf := hv.frozen
    have hbc := hb.cell
    have hbf := hb.frozen
    gi_wp2
    have kB : Below (w.heap.size + 1) W ((W.setCell ⟨w.heap.size + 1, 0, none⟩ (.string ⟨#[]⟩)).setCell ⟨w.heap.size + 1 + 1, 0, none⟩ (.bool false)) :=
      ((Below.refl _ W).setCell (p := ⟨w.heap.size + 1, 0, none⟩) (Nat.le_refl _) _).setCell (p := ⟨w.heap.size + 1 + 1, 0, none⟩) (Nat.le_succ _) _
    have hK' := ((KeepsOthers.setCell W ⟨w.heap.size + 1, 0, none⟩ (.string ⟨#[]⟩)).trans (KeepsOthers.setCell _ ⟨w.heap.size + 1 + 1, 0, none⟩ (.bool false))).same D _ hK rfl
    have hv2 := (hv.set (.string ⟨#[]⟩)).other (B' := w.heap.size + 1 + 1) (by omega) (.bool false)
    have hb2 := (hb.other (B' := w.heap.size + 1) (by omega) (.string ⟨#[]⟩)).set (.bool false)
    refine ⟨by simp, .inl ⟨_, _, rfl, run_takeDeferred hK', ?_⟩⟩
    have c1 := cell_kept hv2.cell (grownBy_putObj' _ D (.deferred none)) (fun r e => by cases e; exact ⟨_, hK', rfl⟩)
    have c2 := cell_kept hb2.cell (grownBy_putObj' _ D (.deferred none)) (fun r e => by cases e; exact ⟨_, hK', rfl⟩)
    refine ⟨.tuple #[.string ⟨#[]⟩, .bool false], ?_, by rw [look_none ys k HP.out], (hB.trans (kB.mono (Nat.le_succ _))).trans (belowK_b (w := w) (Nat.le_refl _) _ D _ _ (by omega) hK' rfl rfl)⟩
    simp [results, Tryd.f17, go_sem, c1, c2]
  case stop =>
    rintro D c pre W hD hpre ⟨⟨rfl, ini, last, rfl, hne, rfl, hv, hb⟩, hB⟩ hK
    have HP := Lib.hid hne
    have HPre := Lib.hid hpre
    clear hne hpre
    have hvc := hv.cell
    have hbc := hb.cell
    gi_wp2
    refine ⟨by simp, .inl ⟨_, _, rfl, run_takeDeferred hK, ?_⟩⟩
    have c1 := cell_kept hvc (grownBy_putObj' _ D (.deferred none)) (fun r e => by cases e; exact ⟨_, hK, rfl⟩)
    have c2 := cell_kept hbc (grownBy_putObj' _ D (.deferred none)) (fun r e => by cases e; exact ⟨_, hK, rfl⟩)
    have hl : look rows last.1 = (last.2, true) := by
      obtain ⟨rest, hr⟩ := HPre.out
      rw [← hr, List.append_assoc]
      exact look_some ini rest last HP.out
    refine ⟨.tuple #[.string last.2, .bool true], ?_, by rw [hl], hB.trans (belowK_b (w := w) (Nat.le_refl _) _ D _ _ (by omega) hK rfl rfl)⟩
    simp [results, Tryd.f17, go_sem, c1, c2]

theorem setCell_block (w : World) (g o : Nat) (v : Value) (cur : Array Value) (t : TypeId) (z : Nat × Nat) (h : w.heap[g]? = some (.cells cur t z)) :
    (w.setCell ⟨g, o, none⟩ v).heap[g]? = some (.cells (cur.setIfInBounds o v) t z) := by
  obtain ⟨hlt, hk⟩ := Array.getElem?_eq_some_iff.1 h
  show (w.heap.modify g _)[g]? = _
  rw [Array.getElem?_eq_getElem (by rw [Array.size_modify]; exact hlt), Array.getElem_modify_self, hk]
  rfl

theorem setCells_block (g : Nat) (t : TypeId) (z : Nat × Nat) : ∀ (vs : List Value) (o : Nat) (w : World) (cur : Array Value), w.heap[g]? = some (.cells cur t z) → o + vs.length ≤ cur.size →
    ∃ cur' : Array Value, (w.setCells g o vs).heap[g]? = some (.cells cur' t z) ∧ cur'.size = cur.size ∧ (∀ i : Nat, cur'[i]? = if o ≤ i ∧ i < o + vs.length then vs[i - o]? else cur[i]?) ∧ w.grownBy (w.setCells g o vs) (some g)
  | [], o, w, cur, h, hl => ⟨cur, h, rfl, fun i => by rw [if_neg (by simp only [List.length_nil]; omega)], ⟨rfl, rfl, rfl, Nat.le_refl _, fun _ _ _ => rfl⟩⟩
  | v :: vs, o, w, cur, h, hl => by
    have h1 := setCell_block w g o v cur t z h
    obtain ⟨cur', e1, e2, e3, e4⟩ := setCells_block g t z vs (o + 1) (w.setCell ⟨g, o, none⟩ v) (cur.setIfInBounds o v) h1 (by simp at hl ⊢; omega)
    refine ⟨cur', e1, by simpa using e2, fun i => ?_, ⟨e4.os, e4.tape, e4.output, Nat.le_trans (by simp [World.setCell]) e4.size, fun k hk hne => ?_⟩⟩
    · rw [e3 i]
      simp only [List.length_cons] at hl ⊢
      by_cases hio : i = o
      · subst hio
        rw [if_neg (by omega), if_pos (by omega), Nat.sub_self]
        rw [Array.getElem?_setIfInBounds_self_of_lt (by omega)]
        rfl
      · by_cases hc : o + 1 ≤ i ∧ i < o + 1 + vs.length
        · rw [if_pos hc, if_pos (by omega)]
          obtain ⟨d, rfl⟩ : ∃ d, i = o + 1 + d := ⟨i - (o + 1), by omega⟩
          rw [show o + 1 + d - (o + 1) = d by omega, show o + 1 + d - o = d + 1 by omega]
          rfl
        · rw [if_neg hc, if_neg (by omega), Array.getElem?_setIfInBounds_ne (Ne.symm hio)]
    · exact (e4.block k (by simpa [World.setCell] using hk) hne).trans (Below.heap_setCell w _ v k (fun e => hne (by rw [e])))

theorem run_clear_one (w : World) (t e ty : TypeId) (z : Value) (ht : Tryd.prog.underlying t = some (.slice e)) (hv : ∀ w, (zeroValue e).run Tryd.prog w = .ok z w) (h1 : ∀ u ∈ z.cells.toList, u.oneCell' = true) (b o c : Nat)
    (hc : ∀ j, j < z.cells.size → (w.cell? ⟨b, o + j, none⟩).isSome = true) (hf : ∀ j, j < z.cells.size → w.frozen? ⟨b, o + j, none⟩ = false) :
    (Builtin.clear_ #[t] ty #[.slice (some ⟨b, o, none⟩) 1 c]).run Tryd.prog w = .ok (.tuple #[]) (w.setCells b o z.cells.toList) := by
  have hzc : (Builtin.zeroCells z.cells 1).toList = z.cells.toList := by
    simp [Builtin.zeroCells]
    apply List.ext_getElem
    · simp
    · intro i h1 h2
      simp at h1
      simp [Nat.mod_eq_of_lt h1, h1]
  have hst := run_storeCells_cells (P := Tryd.prog) b o z.cells.toList 0 w (by simpa using hc) (by simpa using hf) h1
  simp only [Nat.add_zero] at hst
  simp [Builtin.clear_, run_underlying ht, hv, hzc, hst]

theorem grown_trans {X Y Z : World} {row : Option Nat} (h : X.grownBy Y row) (k : Y.grownBy Z row) : X.grownBy Z row :=
  ⟨k.os.trans h.os, k.tape.trans h.tape, k.output.trans h.output, Nat.le_trans h.size k.size, fun i hi hne => (k.block i (Nat.lt_of_lt_of_le hi h.size) hne).trans (h.block i hi hne)⟩

theorem flat_cons (r : Int × V) (rows : List (Int × V)) : flat (r :: rows) = .int .i64 r.1 :: .string r.2 :: flat rows := rfl

set_option maxHeartbeats 4000000 in
set_option maxRecDepth 100000 in
theorem del_calls (w : World) (n₀ g cap : Nat) (r : Int × V) (rows : List (Int × V)) (hlen : rows.length ≤ 40) (hrow : w.ownsRow n₀ 65 2 (.slice (some ⟨g, 0, none⟩) (rows.length + 1) cap) (rows.length + 1) (flat (r :: rows))) :
    Calls Tryd.prog 24 #[.slice (some ⟨g, 0, none⟩) (rows.length + 1) cap, .int .i64 0, .int .i64 1] w fun e w' => e = .returned (.slice (some ⟨g, 0, none⟩) rows.length cap) ∧ w'.ownsRow n₀ 65 2 (.slice (some ⟨g, 0, none⟩) rows.length cap) rows.length (flat rows) ∧ w.grownBy w' (some g) := by
  obtain ⟨i0, hi, hz0, hz1, hz2⟩ := info_parts info65
  rcases hrow.2 with ⟨hx, _⟩ | ⟨g', cap', cur, hx, hg, hh, hc1, hc2, hcs, htk⟩
  · cases hx
  · cases hx
    have hcu : ∀ (j : Nat) (u : Value), (flat (r :: rows))[j]? = some u → cur[j]? = some u := fun j u hu => by
      rw [← htk, List.getElem?_take] at hu
      split at hu
      · simpa using hu
      · cases hu
    have hfl := flat_length rows
    have hwd : w.drew.heap[g]? = some (.cells cur 65 (0, 0)) := hh
    obtain ⟨A, hA, hsrc⟩ : ∃ A : Addr, (if cap = 1 then (some ⟨g, 0, none⟩ : Option Addr) else some ⟨g, 2, none⟩) = some A ∧ Hid (∀ t u, (flat rows)[t]? = some u → w.drew.cell? (A.add t) = some u) := by
      by_cases h : cap = 1
      · refine ⟨⟨g, 0, none⟩, by simp [h], fun t u hu => ?_⟩
        have h0 : rows = [] := List.eq_nil_of_length_eq_zero (by omega)
        subst h0
        simp [flat] at hu
      · refine ⟨⟨g, 2, none⟩, by simp [h], fun t u hu => ?_⟩
        rw [Addr.add_lit]
        have := hcu (2 + t) u (by rw [flat_cons, show 2 + t = t + 1 + 1 by omega]; simpa using hu)
        simp [World.cell?, hwd, this]
    obtain ⟨cur1, e1, e2, e3, e4⟩ := setCells_block g 65 (0, 0) (flat rows) 0 w.drew cur hwd (by omega)
    obtain ⟨W1, hW1⟩ : ∃ W1, W1 = w.drew.setCells g 0 (flat rows) := ⟨_, rfl⟩
    rw [← hW1] at e1 e4
    have hcl : ∀ ty, (Builtin.clear_ #[61] ty #[.slice (some ⟨g, rows.length * 2, none⟩) 1 (cap - rows.length)]).run Tryd.prog W1 = .ok (.tuple #[]) (W1.setCells g (rows.length * 2) [.int .i64 0, .string ⟨#[]⟩]) := fun ty => by
      refine run_clear_one W1 61 65 ty (.agg #[.int .i64 0, .string ⟨#[]⟩]) Tryd.underlying61 Tryd.zeroValue65 (by decide) g (rows.length * 2) _ (fun j hj => ?_) (fun j hj => ?_)
      · have hj' : j < 2 := hj
        simp [World.cell?, e1]; omega
      · simp [World.frozen?, e1]
    obtain ⟨cur2, f1, f2, f3, f4⟩ := setCells_block g 65 (0, 0) [.int .i64 0, .string ⟨#[]⟩] (rows.length * 2) W1 cur1 e1 (by simp; omega)
    have s1 : Hid ((flat rows).length = rows.length * 2) := hfl
    have s2 : Hid (∀ u ∈ flat rows, u.oneCell' = true) := flat_one rows
    have s3 : Hid (∀ t, t < (flat rows).length → (w.drew.cell? ⟨g, 0 + 0 * 2 + t, none⟩).isSome = true ∧ w.drew.frozen? ⟨g, 0 + 0 * 2 + t, none⟩ = false) := by
      intro t ht
      rw [hfl] at ht
      constructor
      · simp [World.cell?, hwd]; omega
      · simp [World.frozen?, hwd]
    have HW : Hid (W1 = w.drew.setCells g 0 (flat rows)) := hW1
    have HE : Hid (∀ i : Nat, cur1[i]? = if 0 ≤ i ∧ i < 0 + (flat rows).length then (flat rows)[i - 0]? else cur[i]?) := e3
    have HF : Hid (∀ i : Nat, cur2[i]? = if rows.length * 2 ≤ i ∧ i < rows.length * 2 + [Value.int .i64 0, .string ⟨#[]⟩].length then [Value.int .i64 0, .string ⟨#[]⟩][i - rows.length * 2]? else cur1[i]?) := f3
    have H1 := Lib.hid f1
    have HS : Hid (cur2.size = cap * 2) := by show _ = _; rw [f2, e2]; exact hcs
    unfold maxLen at hc2
    clear hrow hh hcs htk hcu hfl hwd e1 e2 e3 f1 f2 f3 hW1
    go_enter Tryd.func24, Tryd.ntmps24
    go_wp2_with fail
    have hle : (1 : Int) ≤ (rows.length : Int) + 1 := by omega
    go_region_law (refine step_append_room rfl (.tmp 22) (.tmp 25) 61 rfl 65 i0 2 Tryd.underlying61 hi hz1 g 0 0 cap (by simp [Act.eval, Act.put]) A rows.length (cap - 1) (flat rows) (by simp [Act.eval, Act.put]) s1.out hsrc.out s2.out (by omega) s3.out ?_; rw [show 0 + 0 * 2 = 0 from rfl, ← HW.out])
    go_wp2
    go_ret
    refine ⟨rfl, ⟨s1.out, .inr ⟨g, cap, cur2, rfl, hg, H1.out, by omega, by unfold maxLen; exact hc2, HS.out, ?_⟩⟩, ?_⟩
    · apply List.ext_getElem?
      intro i
      rw [List.getElem?_take]
      have hs1 := s1.out
      split
      · rename_i hi'
        have h1 := HF.out i
        rw [if_neg (by omega)] at h1
        have h2 := HE.out i
        rw [if_pos (by omega)] at h2
        rw [Array.getElem?_toList, h1, h2]
        rfl
      · rw [List.getElem?_eq_none (by omega)]
    · exact grown_trans ⟨e4.os, e4.tape, e4.output, e4.size, e4.block⟩ f4

theorem del_calls_n (w : World) (n₀ g cap n : Nat) (r : Int × V) (rows : List (Int × V)) (hn : rows.length = n) (hlen : rows.length ≤ 40) (hrow : w.ownsRow n₀ 65 2 (.slice (some ⟨g, 0, none⟩) (n + 1) cap) (r :: rows).length (flat (r :: rows))) :
    Calls Tryd.prog 24 #[.slice (some ⟨g, 0, none⟩) (n + 1) cap, .int .i64 0, .int .i64 1] w fun e w' => e = .returned (.slice (some ⟨g, 0, none⟩) n cap) ∧ w'.ownsRow n₀ 65 2 (.slice (some ⟨g, 0, none⟩) n cap) n (flat rows) ∧ w.grownBy w' (some g) := by
  subst hn
  exact del_calls w n₀ g cap r rows hlen hrow

theorem get_calls (b n₀ : Nat) (most : Int) (lv : Value) (rows : List (Int × V)) (k : Int) (w : World) (hS : At w n₀ b most lv rows) :
    Calls Tryd.prog 17 #[.pointer (some ⟨b, 0, none⟩), .int .i64 k] w fun e W' => e = .returned (.tuple #[.string (look rows k).1, .bool (look rows k).2]) ∧ Below w.heap.size w W' :=
  callsIn_wide.1 (get_in _ k rows w (fun W hW Bs B hB hc => all_stops 8 Bs b n₀ B most lv rows W (by omega) hB hc (hS.below hW)))
theorem get_is (b n₀ : Nat) (most : Int) (lv : Value) (rows : List (Int × V)) (k : Int) (v : V) (ok : Bool) (w : World) (hS : At w n₀ b most lv rows) (hl : look rows k = (v, ok)) :
    Calls Tryd.prog 17 #[.pointer (some ⟨b, 0, none⟩), .int .i64 k] w fun e W' => e = .returned (.tuple #[.string v, .bool ok]) ∧ Below w.heap.size w W' := by
  have := get_calls b n₀ most lv rows k w hS
  rw [hl] at this
  exact this
theorem get_nil (k : Int) (w : World) :
    Calls Tryd.prog 17 #[.pointer none, .int .i64 k] w fun e W' => e = .returned (.tuple #[.string ⟨#[]⟩, .bool false]) ∧ Below w.heap.size w W' :=
  callsIn_wide.1 (get_in none k [] w (fun W hW Bs B hB hc => all_stops_nil 8 Bs B W hc))

set_option maxRecDepth 100000 in
theorem new_calls (most : Int) (w : World) (h1 : 1 ≤ most) (h2 : most ≤ 32) :
    Calls Tryd.prog 15 #[.int .i64 most] w fun e W' => e = .returned (.pointer (some ⟨w.heap.size, 0, none⟩)) ∧ W' = w.alloc (.cells #[.int .i64 most, .slice none 0 0] 63) := by
  go_enter Tryd.func15, Tryd.ntmps15
  go_wp2
  go_ret
  exact ⟨rfl, rfl⟩
set_option maxRecDepth 100000 in
theorem new_no (most : Int) (w : World) (h : most < 1 ∨ 32 < most) :
    Calls Tryd.prog 15 #[.int .i64 most] w fun e W' => e = .returned (.pointer none) ∧ W' = w := by
  rcases h with h | h
  · go_enter Tryd.func15, Tryd.ntmps15
    go_wp2
    go_ret
    exact ⟨rfl, rfl⟩
  · have h' : ¬ most < 1 := by omega
    go_enter Tryd.func15, Tryd.ntmps15
    go_wp2
    go_ret
    exact ⟨rfl, rfl⟩
theorem at_new (n₀ : Nat) (most : Int) (w : World) (h : n₀ ≤ w.heap.size) : At (w.alloc (.cells #[.int .i64 most, .slice none 0 0] 63)) n₀ w.heap.size most (.slice none 0 0) [] :=
  ⟨World.alloc_heap_new _ _, World.ownsRow_nil _ _ _ _, by simp, h⟩
set_option maxRecDepth 100000 in
theorem len_calls (b n₀ : Nat) (most : Int) (lv : Value) (rows : List (Int × V)) (w : World) (hS : At w n₀ b most lv rows) :
    Calls Tryd.prog 18 #[.pointer (some ⟨b, 0, none⟩)] w fun e W' => e = .returned (.int .i64 rows.length) ∧ W' = w := by
  obtain ⟨hb, hrow, hlen, _⟩ := hS
  obtain ⟨A, cap, rfl, _⟩ := row_slice hrow
  have hb1 : w.cell? ⟨b, 1, none⟩ = some (.slice A rows.length cap) := by simp [World.cell?, hb]
  clear hb hrow
  go_enter Tryd.func18, Tryd.ntmps18
  go_wp2
  go_ret
  exact ⟨rfl, rfl⟩
set_option maxRecDepth 100000 in
theorem len_nil (w : World) : Calls Tryd.prog 18 #[.pointer none] w fun e W' => e = .returned (.int .i64 0) ∧ W' = w := by
  go_enter Tryd.func18, Tryd.ntmps18
  go_wp2
  go_ret
  exact ⟨rfl, rfl⟩
set_option maxRecDepth 100000 in
theorem put_nil (k : Int) (v : V) (w : World) : Calls Tryd.prog 16 #[.pointer none, .int .i64 k, .string v] w fun e W' => e = .returned (.bool false) ∧ Below w.heap.size w W' := by
  go_enter Tryd.func16, Tryd.ntmps16
  go_wp2_with (go_at_call 17; refine (get_nil k _).mono ?_; rintro e w1 ⟨rfl, hb⟩; have HB := Lib.hid hb; clear hb)
  go_ret
  exact ⟨rfl, HB.out⟩

def putR (most : Int) (rows : List (Int × V)) (k : Int) (v : V) : List (Int × V) :=
  if (look rows k).2 = true then rows else if most < (rows.length : Int) + 1 then (rows ++ [(k, v)]).tail else rows ++ [(k, v)]

/-- The type of a block of cells. -/
def oty : Obj → Option TypeId
  | .cells _ t _ => some t
  | _ => none
/-- What a Put keeps: all below n₀, and every block that is neither a Seen nor a row of one. -/
structure Keep (n₀ : Nat) (w w' : World) : Prop where
  below : Below n₀ w w'
  same : ∀ (i : Nat) (o : Obj), w.heap[i]? = some o → oty o ≠ some 65 → oty o ≠ some 63 → w'.heap[i]? = some o
theorem Keep.trans {n : Nat} {X Y Z : World} (h : Keep n X Y) (k : Keep n Y Z) : Keep n X Z := ⟨h.below.trans k.below, fun i o ho h1 h2 => k.same i o (h.same i o ho h1 h2) h1 h2⟩
theorem Keep.of_below {n : Nat} {w w' : World} (h : Below w.heap.size w w') (hn : n ≤ w.heap.size) : Keep n w w' := ⟨h.mono hn, fun i o ho _ _ => (h.block i (Array.getElem?_eq_some_iff.1 ho).1).trans ho⟩
theorem Keep.grown {n : Nat} {w w' : World} {row : Option Nat} (h : w.grownBy w' row) (hn : n ≤ w.heap.size) (hr : ∀ k, row = some k → n ≤ k) (ht : ∀ k o, row = some k → w.heap[k]? = some o → oty o = some 65) : Keep n w w' :=
  ⟨(Below.refl n w).grown h hn hr, fun i o ho h1 _ => (h.block i (Array.getElem?_eq_some_iff.1 ho).1 (fun e => h1 (ht i o e.symm ho))).trans ho⟩
theorem Keep.setCell {n b o : Nat} {w : World} {cs : Array Value} {z : Nat × Nat} (v : Value) (h : w.heap[b]? = some (.cells cs 63 z)) (hn : n ≤ b) : Keep n w (w.setCell ⟨b, o, none⟩ v) :=
  ⟨(Below.refl n w).setCell (p := ⟨b, o, none⟩) hn v, fun i o' ho _ h2 => (Below.heap_setCell w _ v i (fun e => by have e' : i = b := e; subst e'; rw [h] at ho; cases ho; exact h2 rfl)).trans ho⟩
theorem Keep.drewN (n : Nat) (W : World) (k : Nat) : Keep n W (W.drewN k) := ⟨⟨rfl, rfl, rfl, Nat.le_refl _, fun _ _ => rfl⟩, fun _ _ h _ _ => h⟩
theorem row_type {w : World} {n : Nat} {v : Value} {k : Nat} {xs : List Value} (h : w.ownsRow n 65 2 v k xs) : (∀ i, v.ownBlock = some i → n ≤ i) ∧ (∀ i o, v.ownBlock = some i → w.heap[i]? = some o → oty o = some 65) := by
  rcases h.2 with ⟨rfl, _⟩ | ⟨g, cap, cur, rfl, hg, hgb, _⟩
  · exact ⟨fun i e => by simp [Value.ownBlock] at e, fun i o e => by simp [Value.ownBlock] at e⟩
  · exact ⟨fun i e => by simp [Value.ownBlock] at e; omega, fun i o e ho => by simp [Value.ownBlock] at e; subst e; rw [hgb] at ho; cases ho; rfl⟩

theorem cells_new (w : World) (cs : Array Value) (t : TypeId) : ∀ (j : Nat) (u : Value), cs.toList[j]? = some u → (w.alloc (.cells cs t)).cell? ((⟨w.heap.size, 0, none⟩ : Addr).add j) = some u := by
  intro j u hj
  rw [Addr.add_lit]
  have h := World.alloc_heap_new w (.cells cs t)
  simp only [World.cell?, h, Nat.zero_add]
  simpa using hj

theorem not_row {W : World} {b : Nat} {cs : Array Value} {t e : TypeId} {z : Nat × Nat} (h : W.heap[b]? = some (.cells cs t z)) (hte : t ≠ e) {base size k : Nat} {v : Value} {xs : List Value} (hr : W.ownsRow base e size v k xs) : some b ≠ v.ownBlock := by
  rcases hr.2 with ⟨rfl, _⟩ | ⟨g, cap, cur, rfl, _, hgb, _⟩
  · simp [Value.ownBlock]
  · intro e'
    obtain rfl : b = g := by simpa [Value.ownBlock] using e'
    have := h.symm.trans hgb
    simp at this
    exact hte this.2.1

theorem flat_snoc (rows : List (Int × V)) (k : Int) (v : V) : flat (rows ++ [(k, v)]) = flat rows ++ [.int .i64 k, .string v] := by simp [flat]

theorem at_stored {w2 : World} {n₀ b : Nat} {most : Int} {lv v' : Value} {rows : List (Int × V)} (hb : w2.heap[b]? = some (.cells #[.int .i64 most, lv] 63 (0, 0))) (hown : w2.ownsRow n₀ 65 2 v' rows.length (flat rows)) (hl : rows.length ≤ 40) (hn : n₀ ≤ b) :
    At (w2.setCell ⟨b, 1, none⟩ v') n₀ b most v' rows :=
  ⟨setCell_block w2 b 1 v' _ 63 (0, 0) hb, hown.kept (row := some b) ⟨rfl, rfl, rfl, by simp [World.setCell], fun i hi hne => Below.heap_setCell _ _ _ i (fun e => hne (by rw [e]))⟩ (.inr (Ne.symm (not_row hb (by decide) hown))), hl, hn⟩

theorem at_appended {w1 w2 : World} {n₀ b : Nat} {most : Int} {lv v' : Value} {rows : List (Int × V)} {k : Int} {v : V} {tmp : Obj} {m : Nat} (hS : At w1 n₀ b most lv rows) (hl : rows.length + 1 ≤ 40) (hm : m = rows.length + 1) (hn : n₀ ≤ w1.heap.size)
    (hgrow : (w1.alloc tmp).grownBy w2 lv.ownBlock) (hown : w2.ownsRow n₀ 65 2 v' m (flat rows ++ [.int .i64 k, .string v])) :
    w2.heap[b]? = some (.cells #[.int .i64 most, lv] 63 (0, 0)) ∧ At (w2.setCell ⟨b, 1, none⟩ v') n₀ b most v' (rows ++ [(k, v)]) ∧ Keep n₀ w1 (w2.setCell ⟨b, 1, none⟩ v') := by
  have hb : w2.heap[b]? = some (.cells #[.int .i64 most, lv] 63 (0, 0)) :=
    (hgrow.block b (by have := (Array.getElem?_eq_some_iff.1 hS.1).1; simp; omega) (not_row hS.1 (by decide) hS.2.1)).trans ((Below.heap_alloc w1 tmp b (Array.getElem?_eq_some_iff.1 hS.1).1).trans hS.1)
  subst hm
  have hr := row_type (hS.2.1.alloc tmp)
  refine ⟨hb, at_stored hb (by rw [flat_snoc, List.length_append]; exact hown) (by simpa using hl) hS.2.2.2, ?_⟩
  exact ((Keep.of_below ((Below.refl _ w1).alloc (Nat.le_refl _) tmp) hn).trans (Keep.grown hgrow (by simp; omega) hr.1 hr.2)).trans (Keep.setCell v' hb hS.2.2.2)

theorem at_deleted {w1 w2 : World} {n₀ b g n cap : Nat} {most : Int} {r : Int × V} {rows : List (Int × V)} (hS : At w1 n₀ b most (.slice (some ⟨g, 0, none⟩) (n + 1) cap) (r :: rows)) (hm : rows.length = n) (hn : n₀ ≤ w1.heap.size)
    (hgrow : w1.grownBy w2 (some g)) (hown : w2.ownsRow n₀ 65 2 (.slice (some ⟨g, 0, none⟩) n cap) n (flat rows)) :
    w2.heap[b]? = some (.cells #[.int .i64 most, .slice (some ⟨g, 0, none⟩) (n + 1) cap] 63 (0, 0)) ∧ At (w2.setCell ⟨b, 1, none⟩ (.slice (some ⟨g, 0, none⟩) n cap)) n₀ b most (.slice (some ⟨g, 0, none⟩) n cap) rows ∧ Keep n₀ w1 (w2.setCell ⟨b, 1, none⟩ (.slice (some ⟨g, 0, none⟩) n cap)) := by
  have hr := row_type hS.2.1
  have hb := (hgrow.block b (Array.getElem?_eq_some_iff.1 hS.1).1 (not_row hS.1 (by decide) hS.2.1)).trans hS.1
  subst hm
  exact ⟨hb, at_stored hb hown (by have := hS.2.2.1; simp at this; omega) hS.2.2.2, (Keep.grown hgrow hn hr.1 hr.2).trans (Keep.setCell _ hb hS.2.2.2)⟩

def PutPost (w : World) (n₀ b : Nat) (most : Int) (lv : Value) (rows : List (Int × V)) (k : Int) (v : V) (e : Ending) (w' : World) : Prop :=
  e = .returned (.bool (!(look rows k).2)) ∧ ∃ lv', At w' n₀ b most lv' (putR most rows k v) ∧ Keep n₀ w w'

set_option maxHeartbeats 4000000 in
set_option maxRecDepth 100000 in
theorem put_calls (b n₀ : Nat) (most : Int) (lv : Value) (rows : List (Int × V)) (k : Int) (v : V) (w : World) (hS : At w n₀ b most lv rows) (h1 : 1 ≤ most) (h2 : most ≤ 32) (h3 : (rows.length : Int) ≤ most) (hn : n₀ ≤ w.heap.size) :
    Calls Tryd.prog 16 #[.pointer (some ⟨b, 0, none⟩), .int .i64 k, .string v] w (PutPost w n₀ b most lv rows k v) := by
  obtain ⟨v0, bb, hl⟩ : ∃ v0 bb, look rows k = (v0, bb) := ⟨_, _, rfl⟩
  have HL := Lib.hid hl
  have HS := Lib.hid hS
  obtain ⟨A, cap, rfl, _⟩ := row_slice hS.2.1
  clear hS hl
  cases bb with
  | true =>
    go_enter Tryd.func16, Tryd.ntmps16
    go_wp2_with (go_at_call 17; refine (get_calls b n₀ most _ rows k _ HS.out).mono ?_; rw [HL.out]; rintro e w1 ⟨rfl, hb⟩; have HB := Lib.hid hb; clear hb)
    go_ret
    exact ⟨by rw [HL.out]; rfl, _, by unfold putR; rw [HL.out]; exact HS.out.below HB.out, Keep.of_below HB.out hn⟩
  | false =>
    obtain ⟨i0, hi, hz0, hz1, hz2⟩ := info_parts info65
    have HN := Lib.hid (cells_new · #[.int .i64 k, .string v] 65)
    have hl40 := HS.out.2.2.1
    go_enter Tryd.func16, Tryd.ntmps16
    go_wp2_with (first
      | (go_at_call 17; refine (get_calls b n₀ most _ rows k _ HS.out).mono ?_; rw [HL.out]; rintro e w1 ⟨rfl, hb⟩; have HB := Lib.hid hb; have HS1 := Lib.hid (HS.out.below hb); have hb1 : w1.cell? ⟨b, 1, none⟩ = some (.slice A rows.length cap) := (by simp [World.cell?, HS1.out.1]); clear hb)
      | (at_builtin; refine wpList_append_own _ rfl _ _ 61 rfl n₀ 65 i0 (.agg #[.int .i64 0, .string ⟨#[]⟩]) 2 24 Tryd.underlying61 hi hz0 hz1 hz2 rfl (by decide) _ _ _ rfl (HS1.out.2.1.alloc _) ⟨w1.heap.size, 0, none⟩ 1 1 [.int .i64 k, .string v] rfl rfl (HN.out w1) (by simp [Value.oneCell']) (by unfold maxLen; omega) (by omega) (by have := HB.out.size; simp; omega) ?_; intro v' w2 hown' hgrow _; obtain ⟨g', cap', rfl⟩ := ownsRow_succ hown'; have HO := Lib.hid hown'; have HG := Lib.hid hgrow; have hb2 : w2.cell? ⟨b, 1, none⟩ = some (.slice A rows.length cap) := (by simp [World.cell?, (at_appended HS1.out (by omega) rfl (Nat.le_trans hn HB.out.size) hgrow hown').1]); have hf2 : w2.frozen? ⟨b, 1, none⟩ = false := (by simp [World.frozen?, (at_appended HS1.out (by omega) rfl (Nat.le_trans hn HB.out.size) hgrow hown').1]); clear hown' hgrow))
    obtain ⟨_, hA3, hT3⟩ := at_appended HS1.out (by omega) rfl (Nat.le_trans hn HB.out.size) HG.out HO.out
    clear HG HO hb2 hf2
    generalize w2.setCell ⟨b, 1, none⟩ (.slice (some ⟨g', 0, none⟩) (rows.length + 1) cap') = W3 at hA3 hT3 ⊢
    have q0 : W3.cell? ⟨b, 0, none⟩ = some (.int .i64 most) := by simp [World.cell?, hA3.1]
    have q1 : W3.cell? ⟨b, 1, none⟩ = some (.slice (some ⟨g', 0, none⟩) (rows.length + 1) cap') := by simp [World.cell?, hA3.1]
    have HA3 := Lib.hid hA3
    have HT3 := Lib.hid hT3
    clear hA3 hT3 hb1
    by_cases hm : most < (rows.length : Int) + 1
    · have hm1 : decide (most < (rows.length : Int) + 1) = true := by simpa using hm
      obtain ⟨r, rows', hrr⟩ : ∃ r rows', rows ++ [(k, v)] = r :: rows' := by cases rows with | nil => exact ⟨_, _, rfl⟩ | cons r rs => exact ⟨r, rs ++ [(k, v)], rfl⟩
      have hrl : rows'.length = rows.length := by have := congrArg List.length hrr; simpa using this.symm
      have HRR := Lib.hid hrr
      have HRL := Lib.hid hrl
      have HA4 : Hid (At W3 n₀ b most (.slice (some ⟨g', 0, none⟩) (rows.length + 1) cap') (r :: rows')) := by rw [← HRR.out]; exact HA3.out
      have hnW : n₀ ≤ W3.heap.size := Nat.le_trans (Nat.le_trans hn HB.out.size) HT3.out.below.size
      have h40' : rows'.length ≤ 40 := by omega
      clear hrr hrl
      go_quiet (fail)
      go_wp2_with (go_at_call 24; refine (del_calls_n (W3.drewN nq) n₀ g' cap' rows.length r rows' HRL.out h40' HA4.out.2.1).mono ?_; rintro e w4 ⟨rfl, ho, hg⟩; obtain ⟨hb4, hA5, hK5⟩ := at_deleted (w1 := W3.drewN nq) HA4.out HRL.out hnW hg ho; have c4 : w4.cell? ⟨b, 1, none⟩ = some (.slice (some ⟨g', 0, none⟩) (rows.length + 1) cap') := (by simp [World.cell?, hb4]); have f4 : w4.frozen? ⟨b, 1, none⟩ = false := (by simp [World.frozen?, hb4]); have HA5 := Lib.hid hA5; have HK5 := Lib.hid hK5; clear ho hg hb4 hA5 hK5)
      go_ret
      refine ⟨by rw [HL.out]; rfl, .slice (some ⟨g', 0, none⟩) rows.length cap', ?_, ((Keep.of_below HB.out hn).trans HT3.out).trans ((Keep.drewN _ _ _).trans HK5.out)⟩
      unfold putR
      rw [HL.out, if_neg (by simp), if_pos hm, HRR.out]
      exact HA5.out
    · have hm1 : decide (most < (rows.length : Int) + 1) = false := by simpa using hm
      go_quiet (fail)
      go_wp2
      go_ret
      refine ⟨by rw [HL.out]; rfl, .slice (some ⟨g', 0, none⟩) (rows.length + 1) cap', ?_, ((Keep.of_below HB.out hn).trans HT3.out).trans (Keep.drewN _ _ _)⟩
      unfold putR
      rw [HL.out, if_neg (by simp), if_neg (by omega)]
      exact HA3.out

end Go.Proofs.YtkjhgbndnaemlaaDoor.SeenS
