/- The walk of the law SeenScript answers true, whatever the number and the acts. -/
import Derived.Test.YtkjhgbndnaemlaaSeenSc
import Derived.Test.YtkjhgbndnaemlaaSeenRun
import Derived.Test.YtkjhgbndnaemlaaTame
namespace Go.Proofs.Ytkjhgbndnaemlaa.SeenR
open Go.RowKit Go.Shelf Go.Proofs.Ytkjhgbndnaemlaa.SeqM
attribute [local go_sem] Oper.semAt_some
set_option linter.unusedVariables false
set_option linter.unusedSimpArgs false

def ScriptPost (w : World) (e : Ending) (w' : World) : Prop := e = .returned (.bool true) ∧ Below w.heap.size w w'

set_option maxHeartbeats 8000000 in
set_option maxRecDepth 100000 in
theorem script_long (most : Int) (A : Option Addr) (cap : Nat) (acts : List (Int × V)) (w : World) (hl : 60 < acts.length) :
    Calls Try.prog 3 #[.int .i64 most, .slice A acts.length cap] w (ScriptPost w) := by
  go_enter Try.func3, Try.ntmps3
  go_wp2_with (go_at_call 6; refine (SeenS.awake_calls _).mono ?_; rintro e w7 ⟨rfl, hB7⟩; have HB7 := Lib.hid hB7; clear hB7)
  go_ret
  exact ⟨rfl, HB7.out⟩

set_option maxHeartbeats 8000000 in
set_option maxRecDepth 100000 in
theorem script_out (most : Int) (A : Option Addr) (cap : Nat) (acts : List (Int × V)) (w : World) (hl : acts.length ≤ 60) (h : most < 1 ∨ 32 < most) :
    Calls Try.prog 3 #[.int .i64 most, .slice A acts.length cap] w (ScriptPost w) := by
  have hn := Lib.hid (new_no most w h)
  have hd : Hid (decide (most < 1) = true ∨ (decide (most < 1) = false ∧ decide (32 < most) = true)) := by rcases h with h | h; exact .inl (by simpa using h); by_cases h2 : most < 1; exact .inl (by simpa using h2); exact .inr ⟨by simpa using h2, by simpa using h⟩
  clear h
  rcases hd.out with hd1 | ⟨hd1, hd2⟩
  · go_enter Try.func3, Try.ntmps3
    go_wp2_with (first | (go_at_call 7; refine hn.out.mono ?_; rintro e w1 ⟨rfl, rfl⟩) | (go_at_call 6; refine (SeenS.awake_calls _).mono ?_; rintro e w7 ⟨rfl, hB7⟩; have HB7 := Lib.hid hB7; clear hB7))
    go_ret
    exact ⟨rfl, HB7.out⟩
  · go_enter Try.func3, Try.ntmps3
    go_wp2_with (first | (go_at_call 7; refine hn.out.mono ?_; rintro e w1 ⟨rfl, rfl⟩) | (go_at_call 6; refine (SeenS.awake_calls _).mono ?_; rintro e w7 ⟨rfl, hB7⟩; have HB7 := Lib.hid hB7; clear hB7))
    go_ret
    exact ⟨rfl, HB7.out⟩

theorem stable_or {β : Type} {J J' : β → Fp → World → Prop} (h : Stable J) (h' : Stable J') : Stable (fun s M W => J s M W ∨ J' s M W) := fun s M M' W W' hs ht h1 h2 => hs.imp (fun hs => h s M M' W W' hs ht h1 h2) (fun hs => h' s M M' W W' hs ht h1 h2)
def ScI (bn bs b6 rB : Nat) (A2 : Option Addr) (cap2 : Nat) (most : Int) (g : Nat) (cs : Array Value) (z : Nat × Nat) (rows : List (Int × V)) (w0 : World) (pre : List (Int × V)) (M : Fp) (W : World) : Prop :=
  (((W.heap[bn]? = some (.cells #[.int .i64 (pre.length : Int)] 3 (0, 0)) ∧ ¬ M bn) ∧ (W.heap[bs]? = some (.cells #[.bool true] 4 (0, 0)) ∧ ¬ M bs)) ∧
   ((W.heap[b6]? = some (.cells #[.pointer (some ⟨rB, 0, none⟩)] 28 (0, 0)) ∧ ¬ M b6) ∧ (W.heap[rB]? = some (.cells #[.slice A2 rows.length cap2, .int .i64 most] 31 (0, 0)) ∧ ¬ M rB))) ∧
  (rows = [] ∨ (W.heap[g]? = some (.cells cs 42 z) ∧ ¬ M g)) ∧ (TurnM (fun k => k = bn ∨ k = bs) w0 W ∧ ∀ k, M k → (k = bn ∨ k = bs) ∨ w0.heap.size ≤ k)
theorem scI_stable (bn bs b6 rB : Nat) (A2 : Option Addr) (cap2 : Nat) (most : Int) (g : Nat) (cs : Array Value) (z : Nat × Nat) (rows : List (Int × V)) (w0 : World) : Stable (ScI bn bs b6 rB A2 cap2 most g cs z rows w0) :=
  (((stable_block bn (fun pre : List (Int × V) => .cells #[.int .i64 (pre.length : Int)] 3 (0, 0))).and (stable_block bs (fun _ => .cells #[.bool true] 4 (0, 0)))).and
   ((stable_block b6 (fun _ => .cells #[.pointer (some ⟨rB, 0, none⟩)] 28 (0, 0))).and (stable_block rB (fun _ => .cells #[.slice A2 rows.length cap2, .int .i64 most] 31 (0, 0))))).and
  ((stable_or (stable_pure (fun _ => rows = [])) (stable_block g (fun _ => .cells cs 42 z))).and (stable_frame _ w0))
theorem fn_neq39 (w : World) (p : Value) : (binOp .neq 39 (.func (.func 25) #[] #[p]) Value.nilFunc).run Try.prog w = .ok (.bool true) w := by kernel_rfl
def SPutR (w0 : World) (sB rB b6 : Nat) (most : Int) (r1 r2 : List (Int × V)) (res : Bool) (W : World) (e : Ending) (W' : World) : Prop :=
  e = .returned (.bool res) ∧ Sc w0 sB rB b6 most r1 r2 W' ∧ Keep w0.heap.size W W'
theorem sput_r (w0 : World) (sB rB b6 : Nat) (most : Int) (r1 r2 r3 : List (Int × V)) (k : Int) (v : V) (res : Bool) (W : World) (h : Sc w0 sB rB b6 most r1 r2 W) (h1 : 1 ≤ most) (h2 : most ≤ 32) (hr : (look r1 k).2 = !res) (h3 : putR most r1 k v = r3) :
    Calls Try.prog 8 #[.pointer (some ⟨sB, 0, none⟩), .int .i64 k, .agg #[.int .i64 v.1, .int .i64 v.2.1, .int .i64 v.2.2]] W (SPutR w0 sB rB b6 most r3 r2 res W) :=
  (sput w0 sB rB b6 most r1 r2 k v W h h1 h2).mono fun e W' ⟨he, hs, hk⟩ => ⟨by rw [he, hr]; simp, h3 ▸ hs, hk⟩
def RPutR (w0 : World) (sB rB b6 : Nat) (most : Int) (r1 r2 : List (Int × V)) (res : Bool) (W : World) (e : Ending) (W' : World) : Prop :=
  e = .returned (.bool res) ∧ Sc w0 sB rB b6 most r1 r2 W' ∧ W.grownBy W' (some rB)
theorem rput_r (w0 : World) (sB rB b6 : Nat) (most : Int) (r1 r2 r3 : List (Int × V)) (k : Int) (v : V) (res : Bool) (W : World) (h : Sc w0 sB rB b6 most r1 r2 W) (h1 : 1 ≤ most) (h2 : most ≤ 32) (hr : (look r2 k).2 = !res) (h3 : putR most r2 k v = r3) :
    Calls Try.prog 9 #[.pointer (some ⟨rB, 0, none⟩), .int .i64 k, .agg #[.int .i64 v.1, .int .i64 v.2.1, .int .i64 v.2.2]] W (RPutR w0 sB rB b6 most r1 r3 res W) :=
  (rput w0 sB rB b6 most r1 r2 k v W h h1 h2).mono fun e W' ⟨he, hs, hk⟩ => ⟨by rw [he, hr]; simp, h3 ▸ hs, hk⟩
theorem Sc.ne {w0 W : World} {sB rB b6 b : Nat} {most : Int} {r1 r2 : List (Int × V)} {cs : Array Value} {z : Nat × Nat} (h : Sc w0 sB rB b6 most r1 r2 W) (hb : W.heap[b]? = some (.cells cs 33 z)) : some b ≠ some rB := fun e => by
  obtain ⟨_, ⟨A, cap, q1, _⟩, _⟩ := h
  cases e
  have := hb.symm.trans q1
  simp at this

set_option maxHeartbeats 8000000 in
set_option maxRecDepth 100000 in
theorem script_in (most : Int) (A : Option Addr) (cap : Nat) (acts : List (Int × V)) (w : World) (hl : acts.length ≤ 60) (h1 : 1 ≤ most) (h2 : most ≤ 32) (hz : CellsR w A acts) :
    CallsIn Fence.wide 20 Try.prog 3 #[.int .i64 most, .slice A acts.length cap] w (ScriptPost w) := by
  have HZ := Lib.hid hz
  clear hz
  refine callsIn_of_wp_marks Try.func3 rfl trivial ?_ rfl
  simp only [Try.ntmps3, List.size_toArray, List.length_cons, List.length_nil, Nat.reduceAdd, Nat.reduceSub, Array.replicate_succ, Array.replicate_zero, List.push_toArray, List.append_toArray, List.nil_append, List.cons_append]
  refine wpIn_wide.2 ?_
  have hm1 : decide (most < 1) = false := by simpa using h1
  have hm2 : decide (32 < most) = false := by simpa using h2
  go_wp2_with (go_at_call 7; refine (new_calls most _ h1 h2).mono ?_; rintro e w2 ⟨rfl, rfl⟩)
  have hSc : Sc w w.heap.size (w.heap.size + 1) (w.heap.size + 1 + 1) most [] [] (((w.alloc (.cells #[.int .i64 most, .slice none 0 0] 62)).alloc (.cells #[.slice none 0 0, .int .i64 most] 31)).alloc (.cells #[.pointer (some ⟨w.heap.size + 1, 0, none⟩)] 28)) := by
    have a1 := at_new w.heap.size most w (Nat.le_refl _)
    have b1 : Below w.heap.size w (w.alloc (.cells #[.int .i64 most, .slice none 0 0] 62)) := (Below.refl _ w).alloc (Nat.le_refl _) _
    have n2 := World.alloc_heap_new (w.alloc (.cells #[.int .i64 most, .slice none 0 0] 62)) (.cells #[.slice none 0 0, .int .i64 most] 31)
    have n3 := World.alloc_heap_new ((w.alloc (.cells #[.int .i64 most, .slice none 0 0] 62)).alloc (.cells #[.slice none 0 0, .int .i64 most] 31)) (.cells #[.pointer (some ⟨w.heap.size + 1, 0, none⟩)] 28)
    have r2 : AtRef ((w.alloc (.cells #[.int .i64 most, .slice none 0 0] 62)).alloc (.cells #[.slice none 0 0, .int .i64 most] 31)) w.heap.size (w.heap.size + 1) most [] := ⟨none, 0, by simpa using n2, by simp, by simp [maxLen], by omega, .inl ⟨rfl, rfl, rfl⟩⟩
    have b2 := b1.alloc b1.size (.cells #[.slice none 0 0, .int .i64 most] 31)
    exact ⟨⟨_, (a1.below ((Below.refl _ _).alloc (Nat.le_refl _) _)).below ((Below.refl _ _).alloc (Nat.le_refl _) _)⟩, r2.grown ((Below.refl _ _).alloc (Nat.le_refl _) _), by simpa using n3, b2.alloc b2.size _, by simp; omega, by simp; omega⟩
  have HSc := Lib.hid hSc
  clear hSc
  generalize ((w.alloc (.cells #[.int .i64 most, .slice none 0 0] 62)).alloc (.cells #[.slice none 0 0, .int .i64 most] 31)).alloc (.cells #[.pointer (some ⟨w.heap.size + 1, 0, none⟩)] 28) = W0 at HSc ⊢
  obtain ⟨sB, hsB⟩ : ∃ sB, sB = w.heap.size := ⟨_, rfl⟩
  obtain ⟨rB, hrB⟩ : ∃ rB, rB = w.heap.size + 1 := ⟨_, rfl⟩
  obtain ⟨b6, hb6⟩ : ∃ b6, b6 = w.heap.size + 1 + 1 := ⟨_, rfl⟩
  rw [← hb6, ← hrB] at HSc ⊢
  rw [show Sc w w.heap.size rB b6 = Sc w sB rB b6 by rw [hsB]] at HSc
  rw [← hsB]
  clear hsB hrB hb6
  go_loopw [7] (fun i wr => ∃ k : Nat, ∃ rows, k ≤ acts.length ∧ i = .int .i64 k ∧ Sc w sB rB b6 most rows rows wr) (fun i _ => acts.length - (intOf i).toNat)
  case atStart => exact ⟨0, [], Nat.zero_le _, rfl, HSc.out⟩
  case round =>
    clear HSc
    obtain ⟨k, rows, hk, rfl, hI⟩ := hrel
    have HI := Lib.hid hI
    clear hI
    by_cases hlt : k < acts.length
    · have hz1 := HZ.out.below HI.out.2.2.2.1
      rcases hz1 with e | ⟨g, off, rfl, hg, hc⟩
      · rw [e] at hlt; simp at hlt
      obtain ⟨q0, q1, q2, q3⟩ := flat_get acts k hlt
      have d0 := hc _ _ q0
      have d1 := hc _ _ q1
      have d2 := hc _ _ q2
      have d3 := hc _ _ q3
      clear hc q0 q1 q2 q3
      simp only [← Nat.add_assoc] at d1 d2 d3
      generalize acts[k] = x at d0 d1 d2 d3
      go_wp2
      have hxb : (wr.alloc (.cells #[.int .i64 x.1, .int .i64 x.2.1, .int .i64 x.2.2.1, .int .i64 x.2.2.2] 33)).heap[wr.heap.size]? = some (.cells #[.int .i64 x.1, .int .i64 x.2.1, .int .i64 x.2.2.1, .int .i64 x.2.2.2] 33 (0, 0)) := World.alloc_heap_new _ _
      have HI5 := Lib.hid (HI.out.below ((Below.refl _ wr).alloc (Nat.le_refl _) (.cells #[.int .i64 x.1, .int .i64 x.2.1, .int .i64 x.2.2.1, .int .i64 x.2.2.2] 33)))
      generalize wr.alloc (.cells #[.int .i64 x.1, .int .i64 x.2.1, .int .i64 x.2.2.1, .int .i64 x.2.2.2] 33) = W5 at hxb HI5 ⊢
      obtain ⟨b8, hb8⟩ : ∃ b8, b8 = wr.heap.size := ⟨_, rfl⟩
      rw [← hb8] at hxb ⊢
      clear hb8 d0 d1 d2 d3 HI hg
      have HX := Lib.hid hxb
      obtain ⟨A5, c5, -, t6⟩ := HI5.out.cell
      have e0 : W5.cell? ⟨b8, 0, none⟩ = some (.int .i64 x.1) := by simp [World.cell?, hxb]
      have e1 : W5.cell? ⟨b8, 1, none⟩ = some (.int .i64 x.2.1) := by simp [World.cell?, hxb]
      have e2 : W5.cell? ⟨b8, 2, none⟩ = some (.int .i64 x.2.2.1) := by simp [World.cell?, hxb]
      have e3 : W5.cell? ⟨b8, 3, none⟩ = some (.int .i64 x.2.2.2) := by simp [World.cell?, hxb]
      clear hxb
      have HI5d : Hid (Sc w sB rB b6 most rows rows W5.drew) := Lib.hid (HI5.out.below ⟨rfl, rfl, rfl, Nat.le_refl _, fun _ _ => rfl⟩)
      obtain ⟨res, hres⟩ : ∃ res, (look rows x.1).2 = !res := ⟨!(look rows x.1).2, by simp⟩
      obtain ⟨r3, hr3⟩ : ∃ r3, putR most rows x.1 x.2 = r3 := ⟨_, rfl⟩
      have HRes := Lib.hid hres
      have HR3 := Lib.hid hr3
      clear hres hr3
      rename_i k3 a3 qq k2 a2 k1 a1 k0 a0
      have HA3 := Lib.hid a3
      have HA2 := Lib.hid a2
      have HA1 := Lib.hid a1
      have HA0 := Lib.hid a0
      clear a3 a2 a1 a0
      refine wp_region_noPanic ?_
      refine wp_region_held_drew (S := fun W => W.cell? ⟨b8, 0, none⟩ = some (.int .i64 x.1) ∧ W.cell? ⟨b8, 1, none⟩ = some (.int .i64 x.2.1) ∧ W.cell? ⟨b8, 2, none⟩ = some (.int .i64 x.2.2.1) ∧ W.cell? ⟨b8, 3, none⟩ = some (.int .i64 x.2.2.2) ∧ W.cell? ⟨b6, 0, none⟩ = some (.pointer (some ⟨rB, 0, none⟩))) (by kernel_rfl) ⟨e0, e1, e2, e3, t6⟩ (fun hHeld => ?_)
      refine wpAnyH_take (i := 0) (v := ?v0) rfl (by kernel_rfl) (by kernel_rfl) (by kernel_rfl) (fun _ _ _ h => h) (Or.inl ⟨by kernel_rfl, ?y0⟩) (by assumption) ?r0
      case y0 => (intro w hSw; (try dsimp only at hSw); go_simp; try (with_reducible rfl))
      try simp only [Act.put, List.setIfInBounds_toArray, List.set_cons_zero, List.set_cons_succ]
      refine wpAnyH_take (i := 1) (v := ?v1) rfl (by kernel_rfl) (by kernel_rfl) (by kernel_rfl) (fun _ _ _ h => h) (Or.inl ⟨by kernel_rfl, ?y1⟩) (by assumption) ?r1
      case y1 => (intro w hSw; (try dsimp only at hSw); go_simp; try (with_reducible rfl))
      try simp only [Act.put, List.setIfInBounds_toArray, List.set_cons_zero, List.set_cons_succ]
      refine wpAnyH_take (i := 2) (v := ?v2) rfl (by kernel_rfl) (by kernel_rfl) (by kernel_rfl) (fun _ _ _ h => h) (Or.inl ⟨by kernel_rfl, ?y2⟩) (by assumption) ?r2
      case y2 => (intro w hSw; (try dsimp only at hSw); go_simp; try (with_reducible rfl))
      try simp only [Act.put, List.setIfInBounds_toArray, List.set_cons_zero, List.set_cons_succ]
      refine wpAnyH_take (i := 3) (v := ?v3) rfl (by kernel_rfl) (by kernel_rfl) (by kernel_rfl) (fun _ _ _ h => h) (Or.inl ⟨by kernel_rfl, ?y3⟩) (by assumption) ?r3
      case y3 => (intro w hSw; (try dsimp only at hSw); go_simp; try (with_reducible rfl))
      try simp only [Act.put, List.setIfInBounds_toArray, List.set_cons_zero, List.set_cons_succ]
      refine wpAnyH_take (i := 4) (v := ?v4) rfl (by kernel_rfl) (by kernel_rfl) (by kernel_rfl) (fun _ _ _ h => h) (Or.inl ⟨by kernel_rfl, ?y4⟩) (by assumption) ?r4
      case y4 => (intro w hSw; (try dsimp only at hSw); go_simp; try (with_reducible rfl))
      try simp only [Act.put, List.setIfInBounds_toArray, List.set_cons_zero, List.set_cons_succ]
      refine wpAnyH_take (i := 6) (v := ?v6) rfl (by kernel_rfl) (by kernel_rfl) (by kernel_rfl) (fun _ _ _ h => h) (Or.inl ⟨by kernel_rfl, ?y6⟩) (by assumption) ?r6
      case y6 => (intro w hSw; (try dsimp only at hSw); go_simp; try (with_reducible rfl))
      try simp only [Act.put, List.setIfInBounds_toArray, List.set_cons_zero, List.set_cons_succ]
      refine wpAnyH_take (i := 7) (v := ?v7) rfl (by kernel_rfl) (by kernel_rfl) (by kernel_rfl) (fun _ _ _ h => h) (Or.inl ⟨by kernel_rfl, ?y7⟩) (by assumption) ?r7
      case y7 => (intro w hSw; (try dsimp only at hSw); go_simp; try (with_reducible rfl))
      try simp only [Act.put, List.setIfInBounds_toArray, List.set_cons_zero, List.set_cons_succ]
      refine wpAnyH_take (i := 8) (v := ?v8) rfl (by kernel_rfl) (by kernel_rfl) (by kernel_rfl) (fun _ _ _ h => h) (Or.inl ⟨by kernel_rfl, ?y8⟩) (by assumption) ?r8
      case y8 => (intro w hSw; (try dsimp only at hSw); go_simp; try (with_reducible rfl))
      try simp only [Act.put, List.setIfInBounds_toArray, List.set_cons_zero, List.set_cons_succ]
      refine wpAnyH_take (i := 9) (v := ?v9) rfl (by kernel_rfl) (by kernel_rfl) (by kernel_rfl) (fun _ _ _ h => h) (Or.inl ⟨by kernel_rfl, ?y9⟩) (by assumption) ?r9
      case y9 => (intro w hSw; (try dsimp only at hSw); go_simp; try (with_reducible rfl))
      try simp only [Act.put, List.setIfInBounds_toArray, List.set_cons_zero, List.set_cons_succ]
      refine wpAnyH_take (i := 10) (v := ?v10) rfl (by kernel_rfl) (by kernel_rfl) (by kernel_rfl) (fun _ _ _ h => h) (Or.inl ⟨by kernel_rfl, ?y10⟩) (by assumption) ?r10
      case y10 => (intro w hSw; (try dsimp only at hSw); go_simp; try (with_reducible rfl))
      try simp only [Act.put, List.setIfInBounds_toArray, List.set_cons_zero, List.set_cons_succ]
      refine wpAnyH_ready (rs := [5]) (by kernel_rfl) (by simp) ?_
      refine AllReadyH.cons rfl (fun K hK => ?_) AllReadyH.nil
      go_simp
      refine (sput_r w sB rB b6 most rows rows r3 x.1 x.2 _ _ HI5d.out h1 h2 HRes.out HR3.out).mono ?_
      rintro e W6 ⟨rfl, hs, hk⟩
      have hx6 := hk.same _ _ HX.out (by simp [oty]) (by simp [oty])
      obtain ⟨A6, c6, -, t7⟩ := hs.cell
      have HI6 := Lib.hid hs
      have HX6 := Lib.hid hx6
      clear hs hk hx6
      refine hK.out _ _ ⟨by simp [World.cell?, HX6.out], by simp [World.cell?, HX6.out], by simp [World.cell?, HX6.out], by simp [World.cell?, HX6.out], t7⟩ (fun hHeld => ?_)
      clear hK K
      try simp only [Act.put, List.setIfInBounds_toArray, List.set_cons_zero, List.set_cons_succ]
      refine wpAnyH_ready (rs := [11]) (by kernel_rfl) (by simp) ?_
      refine AllReadyH.cons rfl (fun K hK => ?_) AllReadyH.nil
      go_simp
      refine (rput_r w sB rB b6 most r3 rows r3 x.1 x.2 _ _ HI6.out h1 h2 HRes.out HR3.out).mono ?_
      rintro e W7 ⟨rfl, hs, hk⟩
      have hx7 := (hk.block _ (Array.getElem?_eq_some_iff.1 HX6.out).1 (HI6.out.ne HX6.out)).trans HX6.out
      obtain ⟨A7, c7, t9, t8⟩ := hs.cell
      have HI7 := Lib.hid hs
      have HX7 := Lib.hid hx7
      clear hs hk hx7
      refine hK.out _ _ ⟨by simp [World.cell?, HX7.out], by simp [World.cell?, HX7.out], by simp [World.cell?, HX7.out], by simp [World.cell?, HX7.out], t8⟩ (fun hHeld => ?_)
      clear hK K
      try simp only [Act.put, List.setIfInBounds_toArray, List.set_cons_zero, List.set_cons_succ]
      refine wpAnyH_weaken (S' := fun W => W.cell? ⟨b6, 0, none⟩ = some (.pointer (some ⟨rB, 0, none⟩)) ∧ W.cell? ⟨rB, 0, none⟩ = some (.slice A7 r3.length c7) ∧ W = W7) (fun W hW => by rw [hW.2.2]; assumption) _ _ _ _ ?_
      have hHeld2 : (fun W => W.cell? ⟨b6, 0, none⟩ = some (.pointer (some ⟨rB, 0, none⟩)) ∧ W.cell? ⟨rB, 0, none⟩ = some (.slice A7 r3.length c7) ∧ W = W7) W7 := ⟨t8, t9, rfl⟩
      clear hHeld
      refine wpAnyH_take (i := 12) (v := ?v12) rfl (by kernel_rfl) (by kernel_rfl) (by kernel_rfl) (fun _ _ _ h => h) (Or.inl ⟨by kernel_rfl, ?y12⟩) (by assumption) ?r12
      case y12 => (intro w hSw; (try dsimp only at hSw); go_simp; try (with_reducible rfl))
      try simp only [Act.put, List.setIfInBounds_toArray, List.set_cons_zero, List.set_cons_succ]
      refine wpAnyH_take (i := 13) (v := ?v13) rfl (by kernel_rfl) (by kernel_rfl) (by kernel_rfl) (fun _ _ _ h => h) (Or.inl ⟨by kernel_rfl, ?y13⟩) (by assumption) ?r13
      case y13 => (intro w hSw; (try dsimp only at hSw); go_simp; try (with_reducible rfl))
      try simp only [Act.put, List.setIfInBounds_toArray, List.set_cons_zero, List.set_cons_succ]
      refine wpAnyH_take (i := 14) (v := ?v14) rfl (by kernel_rfl) (by kernel_rfl) (by kernel_rfl) (fun _ _ _ h => h) (Or.inl ⟨by kernel_rfl, ?y14⟩) (by assumption) ?r14
      case y14 => (intro w hSw; (try dsimp only at hSw); go_simp; try (with_reducible rfl))
      try simp only [Act.put, List.setIfInBounds_toArray, List.set_cons_zero, List.set_cons_succ]
      refine wpAnyH_take (i := 16) (v := ?v16) rfl (by kernel_rfl) (by kernel_rfl) (by kernel_rfl) (fun _ _ _ h => h) (Or.inl ⟨by kernel_rfl, ?y16⟩) (by assumption) ?r16
      case y16 => (intro w hSw; (try dsimp only at hSw); go_simp; try (with_reducible rfl))
      try simp only [Act.put, List.setIfInBounds_toArray, List.set_cons_zero, List.set_cons_succ]
      refine wpAnyH_take (i := 17) (v := ?v17) rfl (by kernel_rfl) (by kernel_rfl) (by kernel_rfl) (fun _ _ _ h => h) (Or.inl ⟨by kernel_rfl, ?y17⟩) (by assumption) ?r17
      case y17 => (intro w hSw; (try dsimp only at hSw); go_simp; try (with_reducible rfl))
      try simp only [Act.put, List.setIfInBounds_toArray, List.set_cons_zero, List.set_cons_succ]
      refine wpAnyH_take (i := 18) (v := ?v18) rfl (by kernel_rfl) (by kernel_rfl) (by kernel_rfl) (fun _ _ _ h => h) (Or.inl ⟨by kernel_rfl, ?y18⟩) (by assumption) ?r18
      case y18 => (intro w hSw; (try dsimp only at hSw); go_simp; try (with_reducible rfl))
      try simp only [Act.put, List.setIfInBounds_toArray, List.set_cons_zero, List.set_cons_succ]
      refine wpAnyH_take (i := 19) (v := ?v19) rfl (by kernel_rfl) (by kernel_rfl) (by kernel_rfl) (fun _ _ _ h => h) (Or.inl ⟨by kernel_rfl, ?y19⟩) (by assumption) ?r19
      case y19 => (intro w hSw; (try dsimp only at hSw); go_simp; try (with_reducible rfl))
      try simp only [Act.put, List.setIfInBounds_toArray, List.set_cons_zero, List.set_cons_succ]
      refine wpAnyH_take (i := 20) (v := ?v20) rfl (by kernel_rfl) (by kernel_rfl) (by kernel_rfl) (fun _ _ _ h => h) (Or.inl ⟨by kernel_rfl, ?y20⟩) (by assumption) ?r20
      case y20 => (intro w hSw; (try dsimp only at hSw); go_simp; try (with_reducible rfl))
      try simp only [Act.put, List.setIfInBounds_toArray, List.set_cons_zero, List.set_cons_succ]
      refine wpAnyH_ready (rs := [15]) (by kernel_rfl) (by simp) ?_
      refine AllReadyH.cons rfl (fun K hK => ?_) AllReadyH.nil
      go_simp
      refine (slen w sB rB b6 most r3 r3 _ HI7.out).mono ?_
      rintro e W8 ⟨rfl, rfl⟩
      refine hK.out _ _ ⟨t8, t9, rfl⟩ (fun hHeld => ?_)
      clear hK K
      try simp only [Act.put, List.setIfInBounds_toArray, List.set_cons_zero, List.set_cons_succ]
      refine wpAnyH_take (i := 21) (v := ?v21) rfl (by kernel_rfl) (by kernel_rfl) (by kernel_rfl) (fun _ _ _ h => h) (Or.inl ⟨by kernel_rfl, ?y21⟩) (by assumption) ?r21
      case y21 => (intro w hSw; (try dsimp only at hSw); go_simp; try (with_reducible rfl))
      try simp only [Act.put, List.setIfInBounds_toArray, List.set_cons_zero, List.set_cons_succ]
      refine wpAnyH_take (i := 22) (v := ?v22) rfl (by kernel_rfl) (by kernel_rfl) (by kernel_rfl) (fun _ _ _ h => h) (Or.inl ⟨by kernel_rfl, ?y22⟩) (by assumption) ?r22
      case y22 => (intro w hSw; (try dsimp only at hSw); go_simp; try (with_reducible rfl))
      try simp only [Act.put, List.setIfInBounds_toArray, List.set_cons_zero, List.set_cons_succ]
      refine wpAnyH_done (by kernel_rfl) ?_ _
      refine NoPanic.normal ?_
      have a3 := HA3.out
      have a2 := HA2.out
      have a1 := HA1.out
      have a0 := HA0.out
      clear HA3 HA2 HA1 HA0
      clear hHeld2
      go_wp2_with fail
      clear t6 t8 t9 e0 e1 e2 e3 HX6 HX7 HI6 HI5 HI5d HX HRes HR3
      obtain ⟨wo, hwo⟩ : ∃ wo, wo = W8 := ⟨_, rfl⟩
      rw [← hwo] at HI7 ⊢
      clear hwo
      go_loopw [9] (fun i wr => ∃ j : Nat, j ≤ k + 1 ∧ i = .int .i64 j ∧ Sc w sB rB b6 most r3 r3 wr) (fun i _ => k + 1 - (intOf i).toNat)
      case atStart => exact ⟨0, Nat.zero_le _, rfl, HI7.out⟩
      case round =>
        clear HI7
        obtain ⟨j, hj, rfl, hI⟩ := hrel
        have HI := Lib.hid hI
        clear hI
        by_cases hjl : j ≤ k
        · have hz1 := HZ.out.below HI.out.2.2.2.1
          have hjn : j < acts.length := by omega
          rcases hz1 with e | ⟨g', off', e', hg, hc⟩
          · rw [e] at hlt; simp at hlt
          cases e'
          have d0 := hc _ _ (flat_get acts j hjn).1
          clear hc
          generalize acts[j].1 = kk at d0
          go_wp2_with (go_at_call 11; refine (sget w sB rB b6 most r3 r3 kk _ HI.out).mono ?_; rintro e W9 ⟨rfl, hb⟩; have HB9 := Lib.hid hb; clear hb)
          have HI9 := Lib.hid ((HI.out.below HB9.out).below ((Below.refl _ W9).alloc (Nat.le_refl _) (.cells #[.int .i64 (look r3 kk).1.1, .int .i64 (look r3 kk).1.2.1, .int .i64 (look r3 kk).1.2.2] 27)))
          have hv9 := BoxV.new W9 (look r3 kk).1
          have d9 : (W9.alloc (.cells #[.int .i64 (look r3 kk).1.1, .int .i64 (look r3 kk).1.2.1, .int .i64 (look r3 kk).1.2.2] 27)).cell? ⟨g, off + j * 4, none⟩ = some (.int .i64 kk) := (((Below.refl _ W9).alloc (Nat.le_refl _) (.cells #[.int .i64 (look r3 kk).1.1, .int .i64 (look r3 kk).1.2.1, .int .i64 (look r3 kk).1.2.2] 27)).cell (p := ⟨g, off + j * 4, none⟩) (Nat.lt_of_lt_of_le hg HB9.out.size)).trans ((HB9.out.cell (p := ⟨g, off + j * 4, none⟩) hg).trans d0)
          generalize W9.alloc (.cells #[.int .i64 (look r3 kk).1.1, .int .i64 (look r3 kk).1.2.1, .int .i64 (look r3 kk).1.2.2] 27) = W10 at HI9 hv9 d9 ⊢
          have HI9d : Hid (Sc w sB rB b6 most r3 r3 W10.drew) := Lib.hid (HI9.out.below ⟨rfl, rfl, rfl, Nat.le_refl _, fun _ _ => rfl⟩)
          have HI9e : Hid (Sc w sB rB b6 most r3 r3 (W10.alloc zero3).drew) := Lib.hid ((HI9.out.below ((Below.refl _ W10).alloc (Nat.le_refl _) zero3)).below ⟨rfl, rfl, rfl, Nat.le_refl _, fun _ _ => rfl⟩)
          obtain ⟨A9, c9, -, t9⟩ := HI9.out.cell
          have nn1 := World.new_ne W10 _ t9
          have nn2 := World.new_ne W10 _ d9
          obtain ⟨b10, hb10⟩ : ∃ b10, b10 = W9.heap.size := ⟨_, rfl⟩
          rw [← hb10] at hv9 ⊢
          clear hb10 hg d0 HB9
          have HV := Lib.hid hv9
          clear hv9
          go_region_held3 (fun W => W.cell? ⟨b6, 0, none⟩ = some (.pointer (some ⟨rB, 0, none⟩)) ∧ W.cell? ⟨g, off + j * 4, none⟩ = some (.int .i64 kk)) (first | exact ⟨t9, d9⟩ | exact ⟨t11, d11⟩ | (simp [*, World.cell?_alloc_some, World.cell?_setCell_far]; done))
            (first
              | (go_at_call 12; refine (rget w sB rB b6 most r3 r3 kk _ HI9d.out h2).mono ?_; rintro e W11 ⟨rfl, hb⟩; have HI11 := Lib.hid (HI9d.out.below hb); have HV11 : Hid (BoxV W11 b10 (look r3 kk).1) := Lib.hid ((hb.block _ HV.out.lt).trans HV.out); have d11 : W11.cell? ⟨g, off + j * 4, none⟩ = some (.int .i64 kk) := (hb.cell (p := ⟨g, off + j * 4, none⟩) (World.block_lt_of_cell? W10 _ d9)).trans d9; obtain ⟨A11, c11, -, t11⟩ := HI11.out.cell; have nn1 := World.new_ne W11 _ t11; have nn2 := World.new_ne W11 _ d11; clear hb)
              | (go_at_call 12; refine (rget w sB rB b6 most r3 r3 kk _ HI9e.out h2).mono ?_; rintro e W11 ⟨rfl, hb⟩; have HI11 := Lib.hid (HI9e.out.below hb); have HV11 : Hid (BoxV W11 b10 (look r3 kk).1) := Lib.hid ((hb.block _ (HV.out.alloc zero3).lt).trans (HV.out.alloc zero3)); have hz11 : BoxV W11 W10.heap.size (0, 0, 0) := (hb.block _ (BoxV.new W10 (0, 0, 0)).lt).trans (BoxV.new W10 (0, 0, 0)); obtain ⟨z0, z1, z2⟩ := hz11.cells; have z3 := hz11.frozen 0; have z4 := hz11.frozen 1; have z5 := hz11.frozen 2; have HZ11 := Lib.hid hz11; have d11 : W11.cell? ⟨g, off + j * 4, none⟩ = some (.int .i64 kk) := (hb.cell (p := ⟨g, off + j * 4, none⟩) (Nat.lt_of_lt_of_le (World.block_lt_of_cell? W10 _ d9) (by simp))).trans ((((Below.refl _ W10).alloc (Nat.le_refl _) zero3).cell (p := ⟨g, off + j * 4, none⟩) (World.block_lt_of_cell? W10 _ d9)).trans d9); obtain ⟨A11, c11, -, t11⟩ := HI11.out.cell; clear hb hz11))
          · have HI12 := Lib.hid (HI11.out.below ((Below.refl _ W11).alloc (Nat.le_refl _) (.cells #[.int .i64 (look r3 kk).1.1, .int .i64 (look r3 kk).1.2.1, .int .i64 (look r3 kk).1.2.2] 27)))
            have hv12 := HV11.out.alloc (.cells #[.int .i64 (look r3 kk).1.1, .int .i64 (look r3 kk).1.2.1, .int .i64 (look r3 kk).1.2.2] 27)
            have hw12 := BoxV.new W11 (look r3 kk).1
            generalize W11.alloc (.cells #[.int .i64 (look r3 kk).1.1, .int .i64 (look r3 kk).1.2.1, .int .i64 (look r3 kk).1.2.2] 27) = W12 at HI12 hv12 hw12 ⊢
            obtain ⟨b12, hb12⟩ : ∃ b12, b12 = W11.heap.size := ⟨_, rfl⟩
            rw [← hb12] at hw12 ⊢
            clear hb12 HI11 HV11 d11 t11 nn1 nn2 d9 t9
            obtain ⟨v0, v1, v2⟩ := hv12.cells
            obtain ⟨y0, y1, y2⟩ := hw12.cells
            clear hv12 hw12
            have hneq := neq27 (look r3 kk).1
            go_wp2
            go_roundw
            case rel => exact ⟨j + 1, by omega, by simp, HI12.out⟩
            case measure => simp [intOf]; omega
          · have HI12 := Lib.hid (HI11.out.box HZ11.out (look r3 kk).1 (by have := HI9.out.2.2.2.1.size; exact this))
            have hv12 := ((HV11.out.other (B' := W10.heap.size) (o := 0) (by have := HV.out.lt; omega) (.int .i64 (look r3 kk).1.1)).other (B' := W10.heap.size) (o := 1) (by have := HV.out.lt; omega) (.int .i64 (look r3 kk).1.2.1)).other (B' := W10.heap.size) (o := 2) (by have := HV.out.lt; omega) (.int .i64 (look r3 kk).1.2.2)
            have hw12 := HZ11.out.set (look r3 kk).1
            generalize ((W11.setCell ⟨W10.heap.size, 0, none⟩ (.int .i64 (look r3 kk).1.1)).setCell ⟨W10.heap.size, 1, none⟩ (.int .i64 (look r3 kk).1.2.1)).setCell ⟨W10.heap.size, 2, none⟩ (.int .i64 (look r3 kk).1.2.2) = W12 at HI12 hv12 hw12 ⊢
            obtain ⟨b12, hb12⟩ : ∃ b12, b12 = W10.heap.size := ⟨_, rfl⟩
            rw [← hb12] at hw12 ⊢
            clear hb12 HI11 HV11 d11 t11 nn1 nn2 d9 t9 z0 z1 z2 z3 z4 z5 HZ11
            obtain ⟨v0, v1, v2⟩ := hv12.cells
            obtain ⟨y0, y1, y2⟩ := hw12.cells
            clear hv12 hw12
            have hneq := neq27 (look r3 kk).1
            go_wp2
            go_roundw
            case rel => exact ⟨j + 1, by omega, by simp, HI12.out⟩
            case measure => simp [intOf]; omega
        · obtain rfl : j = k + 1 := by omega
          go_wp2
          go_roundw
          case rel => exact ⟨k + 1, r3, by omega, by simp, HI.out⟩
          case measure => simp [intOf]; omega
    · obtain rfl : k = acts.length := by omega
      have hnf := fn_neq39
      go_wp2_with (go_at_call 13; refine (callsIn_wide.1 (all_in 9 _ _)).mono ?_; rintro e w1 ⟨rfl, rfl⟩)
      obtain ⟨⟨lv, hAt⟩, ⟨A2, cap2, q1, q2, q3, q4, q5⟩, h6, hBw, -, -⟩ := HI.out
      have hB0 : Below wr.heap.size wr (((wr.alloc (.cells #[.int .i64 0] 3)).alloc (.cells #[.bool true] 4)).alloc (.cells #[.pointer (some ⟨sB, 0, none⟩)] 24)) := (((Below.refl _ wr).alloc (Nat.le_refl _) _).alloc (by simp) _).alloc (by simp; omega) _
      have bN : (((wr.alloc (.cells #[.int .i64 0] 3)).alloc (.cells #[.bool true] 4)).alloc (.cells #[.pointer (some ⟨sB, 0, none⟩)] 24)).heap[wr.heap.size]? = some (.cells #[.int .i64 0] 3 (0, 0)) := ((Boxed.new wr 3 (.int .i64 0)).alloc (.cells #[.bool true] 4)).alloc _
      have bS := (Boxed.new (wr.alloc (.cells #[.int .i64 0] 3)) 4 (.bool true)).alloc (.cells #[.pointer (some ⟨sB, 0, none⟩)] 24)
      have bP := Boxed.new ((wr.alloc (.cells #[.int .i64 0] 3)).alloc (.cells #[.bool true] 4)) 24 (.pointer (some ⟨sB, 0, none⟩))
      simp only [World.size_alloc] at bS bP
      have hsz : (((wr.alloc (.cells #[.int .i64 0] 3)).alloc (.cells #[.bool true] 4)).alloc (.cells #[.pointer (some ⟨sB, 0, none⟩)] 24)).heap.size = wr.heap.size + 3 := by simp
      have hq5 : ∃ g off cs z, rows = [] ∨ (A2 = some ⟨g, off, none⟩ ∧ wr.heap[g]? = some (.cells cs 42 z) ∧ ∀ j u, (flat rows)[j]? = some u → cs[off + j]? = some u) := by
        rcases q5 with ⟨e, _⟩ | ⟨_, g, off, e, hg, ⟨cs, z, hz⟩, hc⟩
        · exact ⟨0, 0, #[], (0, 0), .inl e⟩
        · exact ⟨g, off, cs, z, .inr ⟨e, hz, fun j u hu => by have := hc j u hu; simpa [World.cell?, hz] using this⟩⟩
      obtain ⟨g, off, cs, z, hq⟩ := hq5
      have HQ := Lib.hid hq
      have hAt0 := hAt.below hB0
      have hr0 := (hB0.block _ (Array.getElem?_eq_some_iff.1 q1).1).trans q1
      have h60 := (hB0.block _ (Array.getElem?_eq_some_iff.1 h6).1).trans h6
      have hBw0 := hBw.trans (hB0.mono hBw.size)
      have hg0 : rows = [] ∨ (((wr.alloc (.cells #[.int .i64 0] 3)).alloc (.cells #[.bool true] 4)).alloc (.cells #[.pointer (some ⟨sB, 0, none⟩)] 24)).heap[g]? = some (.cells cs 42 z) := hq.imp id fun h => (hB0.block _ (Array.getElem?_eq_some_iff.1 h.2.1).1).trans h.2.1
      have hsw := hBw.size
      have h40 := hAt.2.2.1
      obtain ⟨W0, hW0⟩ : ∃ W0, ((wr.alloc (.cells #[.int .i64 0] 3)).alloc (.cells #[.bool true] 4)).alloc (.cells #[.pointer (some ⟨sB, 0, none⟩)] 24) = W0 := ⟨_, rfl⟩
      rw [hW0] at bN bS bP hsz hAt0 hr0 h60 hBw0 hg0 ⊢
      clear hW0 hB0 q5 hq hAt hBw
      obtain ⟨bn, hbn⟩ : ∃ bn, bn = wr.heap.size := ⟨_, rfl⟩
      obtain ⟨bs, hbs⟩ : ∃ bs, bs = wr.heap.size + 1 := ⟨_, rfl⟩
      obtain ⟨bp, hbp⟩ : ∃ bp, bp = wr.heap.size + 1 + 1 := ⟨_, rfl⟩
      have hn1 : bn ≠ bs := by omega
      have hn2 : w.heap.size ≤ bn ∧ w.heap.size ≤ bs := by omega
      rw [← hbp] at bP ⊢
      rw [← hbs] at bS ⊢
      rw [← hbn] at bN ⊢
      have lN := bN
      have hsz0 : w.heap.size ≤ W0.heap.size := by omega
      clear hbn hbs hbp hsz
      refine (wpIn_wide (n := 20)).1 ?_
      refine wpIn_rangeM (xs := rows) (R0 := fun _ => False) (M0 := fun _ => False) (encs := eR) rfl enters25 (fun W2 h2 => all1_run bp sB w.heap.size most lv rows W2 ((h2.cell (p := ⟨bp, 0, none⟩) (World.block_lt_of_cell? W0 _ bP.cell)).trans bP.cell) (hAt0.below h2)) (fun _ h => h.elim) (fun _ h => h.elim) (fun _ => rfl)
        (ScI bn bs b6 rB A2 cap2 most g cs z rows W0) (fun _ _ _ _ => False) (scI_stable _ _ _ _ _ _ _ _ _ _ _ _) (fun _ => stable_false) ?_
        (fun x a' W => ∃ Bx, BoxV W Bx x.2 ∧ (bn ≠ Bx ∧ bs ≠ Bx) ∧ a' = { tmps := #[.int .i64 most, .slice A acts.length cap, undef, undef, u4, .pointer (some ⟨sB, 0, none⟩), .pointer (some ⟨b6, 0, none⟩), .int .i64 (acts.length : Int), u8, u9, u10, u11, u12, u13, .pointer (some ⟨bn, 0, none⟩), .pointer (some ⟨bs, 0, none⟩), .func (.func 25) #[] #[.pointer (some ⟨bp, 0, none⟩)], .int .i64 x.fst, .pointer (some ⟨Bx, 0, none⟩), .slice A acts.length cap, .int .i64 (acts.length : Int), .bool (decide (60 < (acts.length : Int))), undef, .int .i64 most, .pointer (some ⟨sB, 0, none⟩), .int .i64 most, .bool false, .bool false, .int .i64 most, .bool false, .bool false, undef, undef, undef, undef, undef, .pointer (some ⟨sB, 0, none⟩), .bool false, .int .i64 most, .agg #[.slice none 0 0, .int .i64 most], .pointer (some ⟨rB, 0, none⟩), .int .i64 (acts.length : Int), .slice A acts.length cap, .int .i64 (acts.length : Int), .bool false, u45, u46, u47, u48, u49, u50, u51, u52, u53, u54, u55, u56, u57, u58, u59, u60, u61, u62, u63, u64, u65, u66, u67, u68, u69, u70, u71, u72, u73, u74, u75, u76, u77, u78, u79, u80, u81, u82, u83, u84, u85, u86, u87, u88, u89, u90, u91, u92, u93, u94, u95, u96, u97, u98, u99, u100, u101, u102, u103, u104, u105, u106, .pointer (some ⟨sB, 0, none⟩), .func (.func 25) #[] #[.pointer (some ⟨bp, 0, none⟩)], .func (.func 25) #[] #[.pointer (some ⟨bp, 0, none⟩)], .bool true, .func (.func 25) #[] #[.pointer (some ⟨bp, 0, none⟩)], .int .i64 x.fst, val x.snd, undef, undef, undef, undef, undef, undef, undef, undef, undef, undef, undef, undef, undef, undef, undef, undef, undef, undef, undef, undef, undef, undef, undef, undef, undef, undef, undef, undef, undef, undef, undef, undef, undef, undef, undef, undef, undef, undef, undef, undef, undef, undef, undef, undef, undef, undef, undef, undef, undef], defers := [] }) ?hax ?assign ?body ?done ?stop
      · exact ⟨⟨⟨⟨bN, fun h => h⟩, bS, fun h => h⟩, ⟨h60, fun h => h⟩, hr0, fun h => h⟩, hg0.imp id fun h => ⟨h, fun h => h⟩, TurnM.refl _ _, fun _ h => h.elim⟩
      case hax =>
        rintro x a' W o' ⟨Bx, h1, h2, h3⟩ ⟨r, hr⟩
        exact ⟨Bx, (World.putObj_heap_other (fun e => by subst e; have := hr.symm.trans h1; simp at this)).trans h1, h2, h3⟩
      case assign =>
        rintro m l pre x M W K hi hin hK
        have HK := Lib.hid hK
        have HI := Lib.hid hi
        have hbn := (Array.getElem?_eq_some_iff.1 hi.1.1.1.1).1
        have hbs := (Array.getElem?_eq_some_iff.1 hi.1.1.2.1).1
        clear hK hi
        gi_wp2
        exact HK.out _ _ (KeepM.of_turn (TurnM.alloc (fun _ => False) W _) (fun _ _ _ h => h)) ((scI_stable _ _ _ _ _ _ _ _ _ _ _ _).turn HI.out (TurnM.alloc _ W _)) ⟨W.heap.size, BoxV.new W x.2, ⟨by omega, by omega⟩, rfl⟩
      case body =>
        rintro m l pre x M a' W ⟨⟨⟨⟨i1, n1⟩, i2, n2⟩, ⟨i3, n3⟩, i4, n4⟩, i5, hT, hM⟩ hin ⟨Bx, hbx, ⟨hx1, hx2⟩, rfl⟩ ⟨rest, hx⟩
        have hlt : pre.length < rows.length := by rw [hx]; simp
        have hget : rows[pre.length] = x := by simp [hx]
        obtain ⟨i5, n5⟩ := i5.resolve_left (fun e => by rw [e] at hlt; simp at hlt)
        obtain ⟨rfl, -, hcs⟩ := HQ.out.resolve_left (fun e => by rw [e] at hlt; simp at hlt)
        obtain ⟨f0, f1, f2, f3⟩ := flat_get rows pre.length hlt
        rw [hget] at f0 f1 f2 f3
        have s1 : W.cell? ⟨bs, 0, none⟩ = some (.bool true) := by simp [World.cell?, i2]
        have s2 : W.cell? ⟨bn, 0, none⟩ = some (.int .i64 (pre.length : Int)) := by simp [World.cell?, i1]
        have s3 : W.cell? ⟨b6, 0, none⟩ = some (.pointer (some ⟨rB, 0, none⟩)) := by simp [World.cell?, i3]
        have s4 : W.cell? ⟨rB, 0, none⟩ = some (.slice (some ⟨g, off, none⟩) rows.length cap2) := by simp [World.cell?, i4]
        have s5 : W.cell? ⟨g, off + pre.length * 4, none⟩ = some (.int .i64 x.1) := by have := hcs _ _ f0; simp [World.cell?, i5, this]
        have s6 : W.cell? ⟨g, off + pre.length * 4 + 1, none⟩ = some (.int .i64 x.2.1) := by have := hcs _ _ f1; simp only [← Nat.add_assoc] at this; simp [World.cell?, i5, this]
        have s7 : W.cell? ⟨g, off + pre.length * 4 + 1 + 1, none⟩ = some (.int .i64 x.2.2.1) := by have := hcs _ _ f2; simp only [← Nat.add_assoc] at this; simp [World.cell?, i5, this]
        have s8 : W.cell? ⟨g, off + pre.length * 4 + 1 + 1 + 1, none⟩ = some (.int .i64 x.2.2.2) := by have := hcs _ _ f3; simp only [← Nat.add_assoc] at this; simp [World.cell?, i5, this]
        obtain ⟨s9, s10, s11⟩ := hbx.cells
        have fs : W.frozen? ⟨bs, 0, none⟩ = false := by simp [World.frozen?, i2]
        have fn : W.frozen? ⟨bn, 0, none⟩ = false := by simp [World.frozen?, i1]
        have heql := eql27 x.2
        have I1 := Lib.hid i1
        have I2 := Lib.hid i2
        have I3 := Lib.hid i3
        have I4 := Lib.hid i4
        have I5 := Lib.hid i5
        have HT := Lib.hid hT
        have HM := Lib.hid hM
        have HIn := Lib.hid hin
        have HX := Lib.hid hx
        have HBx := Lib.hid hbx
        clear i1 i2 i3 i4 i5 hT hM hin hx hbx hcs f0 f1 f2 f3 hget bN bS bP lN hAt0 hr0 h60 hBw0 hg0
        gi_wp2
        refine Tame.wpIn_region_tame (S := fun W' => W'.cell? ⟨bs, 0, none⟩ = some (.bool true) ∧ W'.cell? ⟨bn, 0, none⟩ = some (.int .i64 (pre.length : Int)) ∧ W'.cell? ⟨b6, 0, none⟩ = some (.pointer (some ⟨rB, 0, none⟩)) ∧ W'.cell? ⟨rB, 0, none⟩ = some (.slice (some ⟨g, off, none⟩) rows.length cap2) ∧ W'.cell? ⟨g, off + pre.length * 4, none⟩ = some (.int .i64 x.1) ∧ W'.cell? ⟨g, off + pre.length * 4 + 1, none⟩ = some (.int .i64 x.2.1) ∧ W'.cell? ⟨g, off + pre.length * 4 + 1 + 1, none⟩ = some (.int .i64 x.2.2.1) ∧ W'.cell? ⟨g, off + pre.length * 4 + 1 + 1 + 1, none⟩ = some (.int .i64 x.2.2.2) ∧ W'.cell? ⟨Bx, 0, none⟩ = some (.int .i64 x.2.1) ∧ W'.cell? ⟨Bx, 1, none⟩ = some (.int .i64 x.2.2.1) ∧ W'.cell? ⟨Bx, 2, none⟩ = some (.int .i64 x.2.2.2)) (by kernel_rfl) (by rfl) (fun ⟨_, _, h⟩ => h) ⟨s1, s2, s3, s4, s5, s6, s7, s8, s9, s10, s11⟩ (fun hHeld => ?_)
        refine wpAnyH_take (i := 0) (v := ?vb0) rfl (by kernel_rfl) (by kernel_rfl) (by kernel_rfl) (fun _ _ _ h => h) (Or.inl ⟨by kernel_rfl, ?yb0⟩) (by assumption) ?rb0
        case yb0 => (intro w hSw; (try dsimp only at hSw); go_simp; try (with_reducible rfl))
        try simp only [Act.put, List.setIfInBounds_toArray, List.set_cons_zero, List.set_cons_succ]
        refine wpAnyH_take (i := 1) (v := ?vb1) rfl (by kernel_rfl) (by kernel_rfl) (by kernel_rfl) (fun _ _ _ h => h) (Or.inl ⟨by kernel_rfl, ?yb1⟩) (by assumption) ?rb1
        case yb1 => (intro w hSw; (try dsimp only at hSw); go_simp; try (with_reducible rfl))
        try simp only [Act.put, List.setIfInBounds_toArray, List.set_cons_zero, List.set_cons_succ]
        refine wpAnyH_take (i := 2) (v := ?vb2) rfl (by kernel_rfl) (by kernel_rfl) (by kernel_rfl) (fun _ _ _ h => h) (Or.inl ⟨by kernel_rfl, ?yb2⟩) (by assumption) ?rb2
        case yb2 => (intro w hSw; (try dsimp only at hSw); go_simp; try (with_reducible rfl))
        try simp only [Act.put, List.setIfInBounds_toArray, List.set_cons_zero, List.set_cons_succ]
        refine wpAnyH_take (i := 3) (v := ?vb3) rfl (by kernel_rfl) (by kernel_rfl) (by kernel_rfl) (fun _ _ _ h => h) (Or.inl ⟨by kernel_rfl, ?yb3⟩) (by assumption) ?rb3
        case yb3 => (intro w hSw; (try dsimp only at hSw); go_simp; try (with_reducible rfl))
        try simp only [Act.put, List.setIfInBounds_toArray, List.set_cons_zero, List.set_cons_succ]
        refine wpAnyH_take (i := 4) (v := ?vb4) rfl (by kernel_rfl) (by kernel_rfl) (by kernel_rfl) (fun _ _ _ h => h) (Or.inl ⟨by kernel_rfl, ?yb4⟩) (by assumption) ?rb4
        case yb4 => (intro w hSw; (try dsimp only at hSw); go_simp; try (with_reducible rfl))
        try simp only [Act.put, List.setIfInBounds_toArray, List.set_cons_zero, List.set_cons_succ]
        refine wpAnyH_take (i := 5) (v := ?vb5) rfl (by kernel_rfl) (by kernel_rfl) (by kernel_rfl) (fun _ _ _ h => h) (Or.inl ⟨by kernel_rfl, ?yb5⟩) (by assumption) ?rb5
        case yb5 => (intro w hSw; (try dsimp only at hSw); go_simp; try (with_reducible rfl))
        try simp only [Act.put, List.setIfInBounds_toArray, List.set_cons_zero, List.set_cons_succ]
        refine wpAnyH_take (i := 6) (v := ?vb6) rfl (by kernel_rfl) (by kernel_rfl) (by kernel_rfl) (fun _ _ _ h => h) (Or.inl ⟨by kernel_rfl, ?yb6⟩) (by assumption) ?rb6
        case yb6 => (intro w hSw; (try dsimp only at hSw); go_simp; try (with_reducible rfl))
        try simp only [Act.put, List.setIfInBounds_toArray, List.set_cons_zero, List.set_cons_succ]
        refine wpAnyH_take (i := 7) (v := ?vb7) rfl (by kernel_rfl) (by kernel_rfl) (by kernel_rfl) (fun _ _ _ h => h) (Or.inl ⟨by kernel_rfl, ?yb7⟩) (by assumption) ?rb7
        case yb7 => (intro w hSw; (try dsimp only at hSw); go_simp; try (with_reducible rfl))
        try simp only [Act.put, List.setIfInBounds_toArray, List.set_cons_zero, List.set_cons_succ]
        refine wpAnyH_take (i := 8) (v := ?vb8) rfl (by kernel_rfl) (by kernel_rfl) (by kernel_rfl) (fun _ _ _ h => h) (Or.inl ⟨by kernel_rfl, ?yb8⟩) (by assumption) ?rb8
        case yb8 => (intro w hSw; (try dsimp only at hSw); go_simp; try (with_reducible rfl))
        try simp only [Act.put, List.setIfInBounds_toArray, List.set_cons_zero, List.set_cons_succ]
        refine wpAnyH_take (i := 9) (v := ?vb9) rfl (by kernel_rfl) (by kernel_rfl) (by kernel_rfl) (fun _ _ _ h => h) (Or.inl ⟨by kernel_rfl, ?yb9⟩) (by assumption) ?rb9
        case yb9 => (intro w hSw; (try dsimp only at hSw); go_simp; try (with_reducible rfl))
        try simp only [Act.put, List.setIfInBounds_toArray, List.set_cons_zero, List.set_cons_succ]
        refine wpAnyH_take (i := 10) (v := ?vb10) rfl (by kernel_rfl) (by kernel_rfl) (by kernel_rfl) (fun _ _ _ h => h) (Or.inl ⟨by kernel_rfl, ?yb10⟩) (by assumption) ?rb10
        case yb10 => (intro w hSw; (try dsimp only at hSw); go_simp; try (with_reducible rfl))
        try simp only [Act.put, List.setIfInBounds_toArray, List.set_cons_zero, List.set_cons_succ]
        refine wpAnyH_take (i := 11) (v := ?vb11) rfl (by kernel_rfl) (by kernel_rfl) (by kernel_rfl) (fun _ _ _ h => h) (Or.inl ⟨by kernel_rfl, ?yb11⟩) (by assumption) ?rb11
        case yb11 => (intro w hSw; (try dsimp only at hSw); go_simp; try (with_reducible rfl))
        try simp only [Act.put, List.setIfInBounds_toArray, List.set_cons_zero, List.set_cons_succ]
        refine wpAnyH_take (i := 12) (v := ?vb12) rfl (by kernel_rfl) (by kernel_rfl) (by kernel_rfl) (fun _ _ _ h => h) (Or.inl ⟨by kernel_rfl, ?yb12⟩) (by assumption) ?rb12
        case yb12 => (intro w hSw; (try dsimp only at hSw); go_simp; try (with_reducible rfl))
        try simp only [Act.put, List.setIfInBounds_toArray, List.set_cons_zero, List.set_cons_succ]
        refine wpAnyH_take (i := 13) (v := ?vb13) rfl (by kernel_rfl) (by kernel_rfl) (by kernel_rfl) (fun _ _ _ h => h) (Or.inl ⟨by kernel_rfl, ?yb13⟩) (by assumption) ?rb13
        case yb13 => (intro w hSw; (try dsimp only at hSw); go_simp; try (with_reducible rfl))
        try simp only [Act.put, List.setIfInBounds_toArray, List.set_cons_zero, List.set_cons_succ]
        refine wpAnyH_take (i := 14) (v := ?vb14) rfl (by kernel_rfl) (by kernel_rfl) (by kernel_rfl) (fun _ _ _ h => h) (Or.inl ⟨by kernel_rfl, ?yb14⟩) (by assumption) ?rb14
        case yb14 => (intro w hSw; (try dsimp only at hSw); go_simp; try (with_reducible rfl))
        try simp only [Act.put, List.setIfInBounds_toArray, List.set_cons_zero, List.set_cons_succ]
        refine wpAnyH_take (i := 15) (v := ?vb15) rfl (by kernel_rfl) (by kernel_rfl) (by kernel_rfl) (fun _ _ _ h => h) (Or.inl ⟨by kernel_rfl, ?yb15⟩) (by assumption) ?rb15
        case yb15 => (intro w hSw; (try dsimp only at hSw); go_simp; try (with_reducible rfl))
        try simp only [Act.put, List.setIfInBounds_toArray, List.set_cons_zero, List.set_cons_succ]
        refine wpAnyH_take (i := 16) (v := ?vb16) rfl (by kernel_rfl) (by kernel_rfl) (by kernel_rfl) (fun _ _ _ h => h) (Or.inl ⟨by kernel_rfl, ?yb16⟩) (by assumption) ?rb16
        case yb16 => (intro w hSw; (try dsimp only at hSw); go_simp; try (with_reducible rfl))
        try simp only [Act.put, List.setIfInBounds_toArray, List.set_cons_zero, List.set_cons_succ]
        refine wpAnyH_take (i := 17) (v := ?vb17) rfl (by kernel_rfl) (by kernel_rfl) (by kernel_rfl) (fun _ _ _ h => h) (Or.inl ⟨by kernel_rfl, ?yb17⟩) (by assumption) ?rb17
        case yb17 => (intro w hSw; (try dsimp only at hSw); go_simp; try (with_reducible rfl))
        try simp only [Act.put, List.setIfInBounds_toArray, List.set_cons_zero, List.set_cons_succ]
        refine wpAnyH_take (i := 18) (v := ?vb18) rfl (by kernel_rfl) (by kernel_rfl) (by kernel_rfl) (fun _ _ _ h => h) (Or.inl ⟨by kernel_rfl, ?yb18⟩) (by assumption) ?rb18
        case yb18 => (intro w hSw; (try dsimp only at hSw); go_simp; try (with_reducible rfl))
        try simp only [Act.put, List.setIfInBounds_toArray, List.set_cons_zero, List.set_cons_succ]
        refine wpAnyH_take (i := 19) (v := ?vb19) rfl (by kernel_rfl) (by kernel_rfl) (by kernel_rfl) (fun _ _ _ h => h) (Or.inl ⟨by kernel_rfl, ?yb19⟩) (by assumption) ?rb19
        case yb19 => (intro w hSw; (try dsimp only at hSw); go_simp; try (with_reducible rfl))
        try simp only [Act.put, List.setIfInBounds_toArray, List.set_cons_zero, List.set_cons_succ]
        refine wpAnyH_take (i := 20) (v := ?vb20) rfl (by kernel_rfl) (by kernel_rfl) (by kernel_rfl) (fun _ _ _ h => h) (Or.inl ⟨by kernel_rfl, ?yb20⟩) (by assumption) ?rb20
        case yb20 => (intro w hSw; (try dsimp only at hSw); go_simp; try (with_reducible rfl))
        try simp only [Act.put, List.setIfInBounds_toArray, List.set_cons_zero, List.set_cons_succ]
        refine wpAnyH_take (i := 21) (v := ?vb21) rfl (by kernel_rfl) (by kernel_rfl) (by kernel_rfl) (fun _ _ _ h => h) (Or.inl ⟨by kernel_rfl, ?yb21⟩) (by assumption) ?rb21
        case yb21 => (intro w hSw; (try dsimp only at hSw); go_simp; try (with_reducible rfl))
        try simp only [Act.put, List.setIfInBounds_toArray, List.set_cons_zero, List.set_cons_succ]
        refine wpAnyH_take (i := 22) (v := ?vb22) rfl (by kernel_rfl) (by kernel_rfl) (by kernel_rfl) (fun _ _ _ h => h) (Or.inl ⟨by kernel_rfl, ?yb22⟩) (by assumption) ?rb22
        case yb22 => (intro w hSw; (try dsimp only at hSw); go_simp; try (with_reducible rfl))
        try simp only [Act.put, List.setIfInBounds_toArray, List.set_cons_zero, List.set_cons_succ]
        refine wpAnyH_take (i := 23) (v := ?vb23) rfl (by kernel_rfl) (by kernel_rfl) (by kernel_rfl) (fun _ _ _ h => h) (Or.inl ⟨by kernel_rfl, ?yb23⟩) (by assumption) ?rb23
        case yb23 => (intro w hSw; (try dsimp only at hSw); go_simp; try (with_reducible rfl))
        try simp only [Act.put, List.setIfInBounds_toArray, List.set_cons_zero, List.set_cons_succ]
        refine wpAnyH_take (i := 24) (v := ?vb24) rfl (by kernel_rfl) (by kernel_rfl) (by kernel_rfl) (fun _ _ _ h => h) (Or.inl ⟨by kernel_rfl, ?yb24⟩) (by assumption) ?rb24
        case yb24 => (intro w hSw; (try dsimp only at hSw); go_simp; try (with_reducible rfl))
        try simp only [Act.put, List.setIfInBounds_toArray, List.set_cons_zero, List.set_cons_succ]
        refine wpAnyH_take (i := 25) (v := ?vb25) rfl (by kernel_rfl) (by kernel_rfl) (by kernel_rfl) (fun _ _ _ h => h) (Or.inl ⟨by kernel_rfl, ?yb25⟩) (by assumption) ?rb25
        case yb25 => (intro w hSw; (try dsimp only at hSw); go_simp; try (with_reducible rfl))
        try simp only [Act.put, List.setIfInBounds_toArray, List.set_cons_zero, List.set_cons_succ]
        refine wpAnyH_take (i := 26) (v := ?vb26) rfl (by kernel_rfl) (by kernel_rfl) (by kernel_rfl) (fun _ _ _ h => h) (Or.inl ⟨by kernel_rfl, ?yb26⟩) (by assumption) ?rb26
        case yb26 => (intro w hSw; (try dsimp only at hSw); go_simp; try (with_reducible rfl))
        try simp only [Act.put, List.setIfInBounds_toArray, List.set_cons_zero, List.set_cons_succ]
        refine wpAnyH_take (i := 27) (v := ?vb27) rfl (by kernel_rfl) (by kernel_rfl) (by kernel_rfl) (fun _ _ _ h => h) (Or.inl ⟨by kernel_rfl, ?yb27⟩) (by assumption) ?rb27
        case yb27 => (intro w hSw; (try dsimp only at hSw); go_simp; try (with_reducible rfl))
        try simp only [Act.put, List.setIfInBounds_toArray, List.set_cons_zero, List.set_cons_succ]
        refine wpAnyH_take (i := 28) (v := ?vb28) rfl (by kernel_rfl) (by kernel_rfl) (by kernel_rfl) (fun _ _ _ h => h) (Or.inl ⟨by kernel_rfl, ?yb28⟩) (by assumption) ?rb28
        case yb28 => (intro w hSw; (try dsimp only at hSw); go_simp; try (with_reducible rfl))
        try simp only [Act.put, List.setIfInBounds_toArray, List.set_cons_zero, List.set_cons_succ]
        refine wpAnyH_take (i := 29) (v := ?vb29) rfl (by kernel_rfl) (by kernel_rfl) (by kernel_rfl) (fun _ _ _ h => h) (Or.inl ⟨by kernel_rfl, ?yb29⟩) (by assumption) ?rb29
        case yb29 => (intro w hSw; (try dsimp only at hSw); go_simp; try (with_reducible rfl))
        try simp only [Act.put, List.setIfInBounds_toArray, List.set_cons_zero, List.set_cons_succ]
        refine wpAnyH_take (i := 30) (v := ?vb30) rfl (by kernel_rfl) (by kernel_rfl) (by kernel_rfl) (fun _ _ _ h => h) (Or.inl ⟨by kernel_rfl, ?yb30⟩) (by assumption) ?rb30
        case yb30 => (intro w hSw; (try dsimp only at hSw); go_simp; try (with_reducible rfl))
        try simp only [Act.put, List.setIfInBounds_toArray, List.set_cons_zero, List.set_cons_succ]
        refine wpAnyH_take (i := 31) (v := ?vb31) rfl (by kernel_rfl) (by kernel_rfl) (by kernel_rfl) (fun _ _ _ h => h) (Or.inl ⟨by kernel_rfl, ?yb31⟩) (by assumption) ?rb31
        case yb31 => (intro w hSw; (try dsimp only at hSw); go_simp; try (with_reducible rfl))
        try simp only [Act.put, List.setIfInBounds_toArray, List.set_cons_zero, List.set_cons_succ]
        refine wpAnyH_take (i := 32) (v := ?vb32) rfl (by kernel_rfl) (by kernel_rfl) (by kernel_rfl) (fun _ _ _ h => h) (Or.inl ⟨by kernel_rfl, ?yb32⟩) (by assumption) ?rb32
        case yb32 => (intro w hSw; (try dsimp only at hSw); go_simp; try (with_reducible rfl))
        try simp only [Act.put, List.setIfInBounds_toArray, List.set_cons_zero, List.set_cons_succ]
        refine wpAnyH_take (i := 33) (v := ?vb33) rfl (by kernel_rfl) (by kernel_rfl) (by kernel_rfl) (fun _ _ _ h => h) (Or.inl ⟨by kernel_rfl, ?yb33⟩) (by assumption) ?rb33
        case yb33 => (intro w hSw; (try dsimp only at hSw); go_simp; try (with_reducible rfl))
        try simp only [Act.put, List.setIfInBounds_toArray, List.set_cons_zero, List.set_cons_succ]
        have J2 : (W.setCell ⟨bs, 0, none⟩ (.bool true)).heap[bs]? = some (.cells #[.bool true] 4 (0, 0)) := (setCell_block W bs 0 (.bool true) _ 4 (0, 0) I2.out).trans (by simp)
        have J1 : (W.setCell ⟨bs, 0, none⟩ (.bool true)).heap[bn]? = some (.cells #[.int .i64 (pre.length : Int)] 3 (0, 0)) := (Below.heap_setCell W _ _ bn hn1).trans I1.out
        have jc : ∀ (i o : Nat) (u : Value), i ≠ bs → W.cell? ⟨i, o, none⟩ = some u → (W.setCell ⟨bs, 0, none⟩ (.bool true)).cell? ⟨i, o, none⟩ = some u := fun i o u hne h => (World.cell?_of_block (w := W) (Below.heap_setCell W _ _ i hne)).trans h
        have ne : ∀ (i : Nat) (cs : Array Value) (t : TypeId) (z : Nat × Nat), W.heap[i]? = some (.cells cs t z) → t ≠ 4 → i ≠ bs := fun i cs t z hi ht e => by
          subst e
          have := hi.symm.trans I2.out
          simp at this
          exact ht this.2.1
        have JC := Lib.hid jc
        have NE := Lib.hid ne
        have c0 : (W.setCell ⟨bs, 0, none⟩ (.bool true)).cell? ⟨bs, 0, none⟩ = some (.bool true) := by simp [World.cell?, J2]
        have c1 : (W.setCell ⟨bs, 0, none⟩ (.bool true)).cell? ⟨bn, 0, none⟩ = some (.int .i64 (pre.length : Int)) := by simp [World.cell?, J1]
        have c2 : (W.setCell ⟨bs, 0, none⟩ (.bool true)).frozen? ⟨bn, 0, none⟩ = false := by simp [World.frozen?, J1]
        have HJ2 := Lib.hid J2
        have HJ1 := Lib.hid J1
        clear jc ne J1 J2
        refine wpAnyH_ready (rs := [34]) (by kernel_rfl) (by simp) ?_
        refine AllReadyH.cons rfl (fun K hK => ?_) AllReadyH.nil
        go_simp
        refine hK.out _ _ ⟨c0, c1, JC.out _ _ _ (NE.out _ _ _ _ I3.out (by decide)) s3, JC.out _ _ _ (NE.out _ _ _ _ I4.out (by decide)) s4, JC.out _ _ _ (NE.out _ _ _ _ I5.out (by decide)) s5, JC.out _ _ _ (NE.out _ _ _ _ I5.out (by decide)) s6, JC.out _ _ _ (NE.out _ _ _ _ I5.out (by decide)) s7, JC.out _ _ _ (NE.out _ _ _ _ I5.out (by decide)) s8, JC.out _ _ _ (NE.out _ _ _ _ HBx.out (by decide)) s9, JC.out _ _ _ (NE.out _ _ _ _ HBx.out (by decide)) s10, JC.out _ _ _ (NE.out _ _ _ _ HBx.out (by decide)) s11⟩ (fun hHeld2 => ?_)
        clear hK K hHeld2 hHeld
        try simp only [Act.put, List.setIfInBounds_toArray, List.set_cons_zero, List.set_cons_succ]
        refine wpAnyH_done (by kernel_rfl) ?_ _
        gi_wp2
        have hT3 : TurnM (fun k => k = bn ∨ k = bs) W ((W.setCell ⟨bs, 0, none⟩ (.bool true)).setCell ⟨bn, 0, none⟩ (.int .i64 ((pre.length : Int) + 1))).drew :=
          ((TurnM.setCell (M := fun k => k = bn ∨ k = bs) W (p := ⟨bs, 0, none⟩) (.inr rfl) _).trans (TurnM.setCell (M := fun k => k = bn ∨ k = bs) _ (p := ⟨bn, 0, none⟩) (.inl rfl) _)).trans (TurnM.drew _ _)
        have nb6 : ¬ (b6 = bn ∨ b6 = bs) := by
          rintro (e | e)
          · subst e; have := I3.out.symm.trans I1.out; simp at this
          · exact NE.out _ _ _ _ I3.out (by decide) e
        have nrB : ¬ (rB = bn ∨ rB = bs) := by
          rintro (e | e)
          · subst e; have := I4.out.symm.trans I1.out; simp at this
          · exact NE.out _ _ _ _ I4.out (by decide) e
        have ng : ¬ (g = bn ∨ g = bs) := by
          rintro (e | e)
          · subst e; have := I5.out.symm.trans I1.out; simp at this
          · exact NE.out _ _ _ _ I5.out (by decide) e
        refine ⟨KeepM.of_turn hT3 (fun k _ h e => ?_), ⟨⟨⟨?_, n1⟩, ?_, n2⟩, ⟨(hT3.block _ (Array.getElem?_eq_some_iff.1 I3.out).1 nb6).trans I3.out, n3⟩, (hT3.block _ (Array.getElem?_eq_some_iff.1 I4.out).1 nrB).trans I4.out, n4⟩, .inr ⟨(hT3.block _ (Array.getElem?_eq_some_iff.1 I5.out).1 ng).trans I5.out, n5⟩, HT.out.trans hT3, HM.out⟩
        · rcases h with h | h
          · exact h
          · rcases e with rfl | rfl
            · exact n1 h
            · exact n2 h
        · have := setCell_block _ bn 0 (.int .i64 ((pre.length : Int) + 1)) _ 3 (0, 0) HJ1.out
          rw [List.length_append, List.length_singleton]
          exact this.trans (by simp)
        · exact (Below.heap_setCell _ _ _ bs (Ne.symm hn1)).trans HJ2.out
      case done =>
        rintro M W ⟨⟨⟨⟨i1, n1⟩, i2, n2⟩, ⟨i3, n3⟩, i4, n4⟩, -, hT, hM⟩ hin hK
        have s1 : W.cell? ⟨bs, 0, none⟩ = some (.bool true) := by simp [World.cell?, i2]
        have s2 : W.cell? ⟨bn, 0, none⟩ = some (.int .i64 (rows.length : Int)) := by simp [World.cell?, i1]
        have s3 : W.cell? ⟨b6, 0, none⟩ = some (.pointer (some ⟨rB, 0, none⟩)) := by simp [World.cell?, i3]
        have s4 : W.cell? ⟨rB, 0, none⟩ = some (.slice A2 rows.length cap2) := by simp [World.cell?, i4]
        have HK := Lib.hid hK
        have hBW : Below w.heap.size w W := hBw0.trans (hT.below hBw0.size (fun k _ h => by rcases h with rfl | rfl; exact hn2.1; exact hn2.2))
        have HBW := Lib.hid hBW
        clear hK hBW i1 i2 i3 i4 n1 n2 n3 n4 hT hM hin bN bS bP lN hAt0 hr0 h60 hBw0 hg0
        go_wp2_with fail
        go_region_held3 (fun W' => W'.cell? ⟨bs, 0, none⟩ = some (.bool true) ∧ W'.cell? ⟨bn, 0, none⟩ = some (.int .i64 (rows.length : Int)) ∧ W'.cell? ⟨b6, 0, none⟩ = some (.pointer (some ⟨rB, 0, none⟩)) ∧ W'.cell? ⟨rB, 0, none⟩ = some (.slice A2 rows.length cap2)) (first | exact ⟨s1, s2, s3, s4⟩ | exact ⟨s5, s6, s7, s8⟩)
          (first | (go_at_call 6; refine (SeenS.awake_calls _).mono ?_; rintro e w7 ⟨rfl, hB7⟩; have s5 := (hB7.cell (p := ⟨bs, 0, none⟩) (World.block_lt_of_cell? W _ s1)).trans s1; have s6 := (hB7.cell (p := ⟨bn, 0, none⟩) (World.block_lt_of_cell? W _ s2)).trans s2; have s7 := (hB7.cell (p := ⟨b6, 0, none⟩) (World.block_lt_of_cell? W _ s3)).trans s3; have s8 := (hB7.cell (p := ⟨rB, 0, none⟩) (World.block_lt_of_cell? W _ s4)).trans s4; have HB7 := Lib.hid hB7; clear hB7))
        go_wp2
        have hB7 := HBW.out.drew.trans (HB7.out.mono HBW.out.size)
        have hD2 : w7.heap[W0.heap.size]? = some (.deferred (some [])) := (HB7.out.block _ (Array.getElem?_eq_some_iff.1 HK.out).1).trans HK.out
        refine ⟨by simp, .inl ⟨_, _, rfl, run_takeDeferred hD2, ?_⟩⟩
        refine ⟨_, results_tmp rfl _ _ _, rfl, ?_⟩
        exact hB7.trans ((TurnM.putObj (M := fun k => k = W0.heap.size) w7 rfl _).below hB7.size (fun k _ e => by subst e; exact hsz0))
      case stop => exact fun _ _ _ _ _ h _ _ => h.elim

theorem script_law (most : Int) (A : Option Addr) (cap : Nat) (acts : List (Int × V)) (w : World) (hz : CellsR w A acts) : Calls Try.prog 3 #[.int .i64 most, .slice A acts.length cap] w (ScriptPost w) := by
  by_cases hl : 60 < acts.length
  · exact script_long most A cap acts w hl
  · by_cases h : most < 1 ∨ 32 < most
    · exact script_out most A cap acts w (by omega) h
    · exact callsIn_wide.1 (script_in most A cap acts w (by omega) (by omega) (by omega) hz)
theorem script_row (most : Int) (A : Option Addr) (cap : Nat) (acts : List (Int × V)) (w : World) (_ : (Lit.int .i64 most).wf = true) (hz : CellsR w A acts) : Calls Try.prog 3 #[.int .i64 most, .slice A acts.length cap] w fun e w' => e = .returned (.bool true) ∧ Below w.heap.size w w' := script_law most A cap acts w hz
end Go.Proofs.Ytkjhgbndnaemlaa.SeenR
