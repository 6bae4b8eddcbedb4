/- Sequences (function values that are ranged over), with what each may turn and what each asks to be kept: one contract for all, and the law for a range statement over it. -/
import Derived.RangeFuncNested
import Derived.RangeFuncBound
import Derived.RangeFuncCalls
import Derived.RangeFuncLeaves
import Derived.Shelf.Abstract
import Derived.WalkKit
import Derived.OwnWalkIn
import Derived.Deep.AppendLies
import Derived.TacticsInMore
import Derived.LoopNIn
import Derived.LoopIn
import Derived.Lib.Hide
import Derived.Deep.QuietTactic
import Derived.BigQuiet
namespace Go.Proofs.YtipccndoffcfiaaDoor.SeqM
open Go.RowKit Go.Shelf
set_option linter.unusedVariables false

abbrev Fp := Nat → Prop

/-- Only blocks in M are turned, and new ones are made. -/
structure TurnM (M : Fp) (w w' : World) : Prop where
  os : w'.os = w.os
  tape : w'.tape = w.tape
  output : w'.output = w.output
  size : w.heap.size ≤ w'.heap.size
  block : ∀ k, k < w.heap.size → ¬ M k → w'.heap[k]? = w.heap[k]?

theorem TurnM.refl (M : Fp) (w : World) : TurnM M w w := ⟨rfl, rfl, rfl, Nat.le_refl _, fun _ _ _ => rfl⟩
theorem TurnM.trans {M : Fp} {a b c : World} (h : TurnM M a b) (k : TurnM M b c) : TurnM M a c :=
  ⟨k.os.trans h.os, k.tape.trans h.tape, k.output.trans h.output, Nat.le_trans h.size k.size, fun i hi hn => (k.block i (Nat.lt_of_lt_of_le hi h.size) hn).trans (h.block i hi hn)⟩
theorem TurnM.mono {M M' : Fp} {a b : World} (h : TurnM M a b) (hM : ∀ k, k < a.heap.size → M k → M' k) : TurnM M' a b := ⟨h.os, h.tape, h.output, h.size, fun i hi hn => h.block i hi (fun hm => hn (hM i hi hm))⟩
theorem TurnM.alloc (M : Fp) (w : World) (o : Obj) : TurnM M w (w.alloc o) := ⟨rfl, rfl, rfl, by simp, fun k hk _ => Below.heap_alloc w o k hk⟩
theorem TurnM.setCell {M : Fp} (w : World) {p : Addr} (hp : M p.block) (v : Value) : TurnM M w (w.setCell p v) := ⟨rfl, rfl, rfl, by simp [World.setCell], fun k hk hn => Below.heap_setCell w p v k (fun e => hn (by rw [e]; exact hp))⟩
theorem TurnM.putObj {M : Fp} (w : World) {l : Nat} (hl : M l) (o : Obj) : TurnM M w (w.putObj l o) := ⟨rfl, rfl, rfl, by simp, fun k hk hn => World.putObj_heap_other (fun e => hn (by rw [e]; exact hl))⟩
theorem TurnM.drewN (M : Fp) (w : World) (n : Nat) : TurnM M w (w.drewN n) := ⟨rfl, rfl, rfl, Nat.le_refl _, fun _ _ _ => rfl⟩
theorem TurnM.drew (M : Fp) (w : World) : TurnM M w w.drew := ⟨rfl, rfl, rfl, Nat.le_refl _, fun _ _ _ => rfl⟩
theorem TurnM.of_below {M : Fp} {w w' : World} (h : Below w.heap.size w w') : TurnM M w w' := ⟨h.os, h.tape, h.output, h.size, fun k hk _ => h.block k hk⟩
theorem TurnM.grown {M : Fp} {w w' : World} {row : Option Nat} (h : w.grownBy w' row) (hr : ∀ k, row = some k → M k) : TurnM M w w' := ⟨h.os, h.tape, h.output, h.size, fun k hk hn => h.block k hk (fun e => hn (hr k e.symm))⟩
theorem TurnM.below {M : Fp} {w w' : World} (h : TurnM M w w') {n : Nat} (hn : n ≤ w.heap.size) (hM : ∀ k, k < w.heap.size → M k → n ≤ k) : Below n w w' :=
  ⟨h.os, h.tape, h.output, h.size, fun k hk => h.block k (Nat.lt_of_lt_of_le hk hn) (fun hm => by have := hM k (Nat.lt_of_lt_of_le hk hn) hm; omega)⟩
theorem TurnM.none {w w' : World} (h : TurnM (fun _ => False) w w') : Below w.heap.size w w' := h.below (Nat.le_refl _) (fun _ _ h => h.elim)

/-- On from what lay in a alone. -/
theorem TurnM.on {M T : Fp} {a b c : World} (h : TurnM M a b) (k : TurnM T b c) (hT : ∀ i, i < a.heap.size → T i → M i) : TurnM M a c :=
  ⟨k.os.trans h.os, k.tape.trans h.tape, k.output.trans h.output, Nat.le_trans h.size k.size, fun i hi hn => (k.block i (Nat.lt_of_lt_of_le hi h.size) (fun ht => hn (hT i hi ht))).trans (h.block i hi hn)⟩

/-- What a round of the loop's body keeps: every block in M. -/
structure KeepM (M : Fp) (w w' : World) : Prop where
  size : w.heap.size ≤ w'.heap.size
  block : ∀ k, k < w.heap.size → M k → w'.heap[k]? = w.heap[k]?
theorem KeepM.refl (M : Fp) (w : World) : KeepM M w w := ⟨Nat.le_refl _, fun _ _ _ => rfl⟩
theorem KeepM.trans {M : Fp} {a b c : World} (h : KeepM M a b) (k : KeepM M b c) : KeepM M a c := ⟨Nat.le_trans h.size k.size, fun i hi hm => (k.block i (Nat.lt_of_lt_of_le hi h.size) hm).trans (h.block i hi hm)⟩
theorem KeepM.mono {M M' : Fp} {a b : World} (h : KeepM M a b) (hM : ∀ k, k < a.heap.size → M' k → M k) : KeepM M' a b := ⟨h.size, fun i hi hm => h.block i hi (hM i hi hm)⟩
theorem KeepM.of_turn {M T : Fp} {a b : World} (h : TurnM T a b) (hd : ∀ k, k < a.heap.size → M k → ¬ T k) : KeepM M a b := ⟨h.size, fun i hi hm => h.block i hi (hd i hi hm)⟩

/-- J minds no turn of what is in M, which may grow by new blocks. -/
def Stable {β : Type} (J : β → Fp → World → Prop) : Prop :=
  ∀ s M M' W W', J s M W → TurnM M W W' → (∀ k, M k → M' k) → (∀ k, M' k → M k ∨ (W.heap.size ≤ k ∧ k < W'.heap.size)) → J s M' W'

theorem Stable.turn {β : Type} {J : β → Fp → World → Prop} (h : Stable J) {s : β} {M : Fp} {W W' : World} (hj : J s M W) (ht : TurnM M W W') : J s M W' := h s M M W W' hj ht (fun _ h => h) (fun _ h => .inl h)
/-- A new block that is the iterator's own. -/
theorem Stable.own {β : Type} {J : β → Fp → World → Prop} (h : Stable J) {s : β} {M : Fp} {W : World} (o : Obj) (hj : J s M W) : J s (fun k => M k ∨ k = W.heap.size) (W.alloc o) :=
  h s M _ W _ hj (TurnM.alloc M W o) (fun _ h => .inl h) (fun k hk => hk.elim .inl (fun e => .inr ⟨by omega, by simp; omega⟩))

/-- One round: a call of yield, at every depth. -/
def RoundM (P : Program) (l : Nat) (args : Array Value) (W : World) (R : Ending → World → Prop) : Prop := ∀ m, YieldAt Fence.wide m P l args W R

/-- THE CONTRACT: called at the yield of a loop, in the world W0, it yields xs, or as far as a round says so. R0: what it asks to be kept; M0: what it may turn. -/
def RunM {α : Type} (P : Program) (g : Nat) (lb : Array Value) (encs : α → Array Value) (xs : List α) (R0 M0 : Fp) (W0 : World) : Prop :=
  ∀ (n l : Nat) (J Jx : List α → Fp → World → Prop), Stable J → Stable Jx →
    (∀ pre x M W1, J pre M W1 → (∀ k, M0 k → M k) → (∀ k, M k → k < W1.heap.size) → (∃ rest, xs = pre ++ x :: rest) → RoundM P l (encs x) W1 fun e W' =>
      (e = .returned (.bool true) ∧ J (pre ++ [x]) M W' ∧ KeepM (fun k => R0 k ∨ M k) W1 W') ∨ (e = .returned (.bool false) ∧ Jx (pre ++ [x]) M W' ∧ KeepM (fun k => R0 k ∨ M k) W1 W')) →
    ∀ M, (∀ k, M0 k → M k) → (∀ k, M k → k < W0.heap.size) → J [] M W0 →
    CallsIn Fence.wide n P g (#[.func (.yield l) #[] #[]] ++ lb) W0 fun e W' => (∃ v, e = .returned v) ∧
      ∃ M', (∀ k, M k → M' k) ∧ (∀ k, M' k → k < W'.heap.size) ∧ (J xs M' W' ∨ ∃ pre, pre <+: xs ∧ Jx pre M' W')

/-- How a body may be left. -/
def postM {α : Type} (R0 M : Fp) (I : List α → Fp → World → Prop) (Ix : Code → List α → Fp → World → Prop) (xs : List α) (W : World) : Exit → Act → World → Prop
  | .normal, _, W' => KeepM (fun k => R0 k ∨ M k) W W' ∧ I xs M W'
  | .ret, _, W' => KeepM (fun k => R0 k ∨ M k) W W' ∧ Ix .ret xs M W'
  | .exit id, _, W' => KeepM (fun k => R0 k ∨ M k) W W' ∧ Ix (.exit id) xs M W'
  | .goto t, _, W' => KeepM (fun k => R0 k ∨ M k) W W' ∧ Ix (.goto t) xs M W'
  | .panic _, _, _ => False
  | .outgrown, _, _ => False

/-- What is known of M within the loop that began at heap size B. -/
structure InM (M0 : Fp) (B : Nat) (M : Fp) (W : World) : Prop where
  base : ∀ k, M0 k → M k
  d : M B
  l : M (B + 1)
  old : ∀ k, M k → M0 k ∨ B ≤ k
  lt : ∀ k, M k → k < W.heap.size

theorem InM.turn {M0 : Fp} {B : Nat} {M M' : Fp} {W W' : World} (h : InM M0 B M W) (hs : W.heap.size ≤ W'.heap.size) (h1 : ∀ k, M k → M' k) (h2 : ∀ k, M' k → M k ∨ (W.heap.size ≤ k ∧ k < W'.heap.size)) : InM M0 B M' W' :=
  ⟨fun k hk => h1 k (h.base k hk), h1 _ h.d, h1 _ h.l, fun k hk => (h2 k hk).elim (h.old k) (fun e => .inr (by have := h.lt _ h.d; omega)), fun k hk => (h2 k hk).elim (fun e => by have := h.lt k e; omega) (fun e => e.2)⟩

/-- THE LAW OF THE STATEMENT 'for .. := range g { .. }'. -/
theorem wpIn_rangeM {α : Type} {P : Program} {n : Nat} {g : Operand} {ps : Array Tmp} {assign body : Code} {Q : Exit → Act → World → Prop} {a : Act} {w : World}
    {gf : Nat} {lb : Array Value} (hg : a.eval g = .func (.func gf) #[] lb) (eg : ∀ args w, (callFunc gf args).run P w = .ok (.enter gf args) w)
    {encs : α → Array Value} {xs : List α} {R0 M0 : Fp} (hseq : ∀ W2, Below w.heap.size w W2 → RunM P gf lb encs xs R0 M0 W2) (hR0 : ∀ k, R0 k → k < w.heap.size) (hM0 : ∀ k, M0 k → k < w.heap.size) (hps : ∀ x, (encs x).size = ps.size)
    (I : List α → Fp → World → Prop) (Ix : Code → List α → Fp → World → Prop) (hI : Stable I) (hIx : ∀ c, Stable (Ix c)) (h0 : I [] M0 w)
    (Ax : α → Act → World → Prop) (hAx : ∀ x a' W (o' : Obj), Ax x a' W → (∃ r, W.heap[w.heap.size + 1]? = some (.loop r)) → Ax x a' (W.putObj (w.heap.size + 1) o'))
    (hassign : ∀ (m l : Nat) (pre : List α) (x : α) (M : Fp) (W : World) (K : Act → World → Prop), I pre M W → InM M0 w.heap.size M W → (∀ a' W', KeepM (fun k => R0 k ∨ M k) W W' → I pre M W' → Ax x a' W' → K a' W') →
      assign.wpIn (Fence.wide.inRound l) m P (Exit.then K (fun _ _ _ => False)) { tmps := (ps.zip (encs x)).foldl (fun t (p, v) => t.setIfInBounds p v) a.tmps, defers := [] } W)
    (hbody : ∀ (m l : Nat) (pre : List α) (x : α) (M : Fp) (a' : Act) (W : World), I pre M W → InM M0 w.heap.size M W → Ax x a' W → (∃ rest, xs = pre ++ x :: rest) → body.wpIn (Fence.wide.inRound l) m P (postM R0 M I Ix (pre ++ [x]) W) a' W)
    (hdone : ∀ (M : Fp) (W : World), I xs M W → InM M0 w.heap.size M W → W.heap[w.heap.size]? = some (.deferred (some [])) → Q .normal { a with defers := { target := .collected w.heap.size, args := #[] } :: a.defers } W)
    (hstop : ∀ (c : Code) (pre : List α) (M : Fp) (W : World), pre <+: xs → Ix c pre M W → InM M0 w.heap.size M W → W.heap[w.heap.size]? = some (.deferred (some [])) → c.wpIn Fence.wide n P Q { a with defers := { target := .collected w.heap.size, args := #[] } :: a.defers } W) :
    (Code.rangeFunc g ps assign body).wpIn Fence.wide n P Q a w := by
  refine wpIn_rangeFunc ?_
  intro fn hfn
  obtain ⟨rec, hrec⟩ : ∃ rec : LoopState → Option Code → Loop, rec = fun st pe => { state := st, pending := pe, fn, tmps := a.tmps, params := ps, assign, body, defers := w.heap.size } := ⟨_, rfl⟩
  obtain ⟨W1, hW1⟩ : ∃ W1, (w.alloc (.deferred (some []))).alloc (.loop (rec .ready none)) = W1 := ⟨_, rfl⟩
  have hL1 : W1.heap[w.heap.size + 1]? = some (.loop (rec .ready none)) := by
    rw [← hW1]; have := World.alloc_heap_new (w.alloc (.deferred (some []))) (.loop (rec .ready none)); rwa [World.size_alloc] at this
  have hK1 : W1.heap[w.heap.size]? = some (.deferred (some [])) := by
    rw [← hW1]; exact (Below.heap_alloc _ _ _ (by simp)).trans (World.alloc_heap_new w _)
  have hs1 : W1.heap.size = w.heap.size + 2 := by rw [← hW1]; simp
  have hb1 : Below w.heap.size w W1 := by
    rw [← hW1]; exact ((Below.refl _ w).alloc (Nat.le_refl _) _).alloc (by simp) _
  obtain ⟨M1, hM1⟩ : ∃ M1 : Fp, M1 = fun k => M0 k ∨ k = w.heap.size ∨ k = w.heap.size + 1 := ⟨_, rfl⟩
  have hI1 : I [] M1 W1 := by
    refine hI [] M0 M1 w W1 h0 (TurnM.of_below hb1) (fun k hk => by rw [hM1]; exact .inl hk) (fun k hk => ?_)
    rw [hM1] at hk
    rcases hk with h | h | h
    · exact .inl h
    · exact .inr ⟨by omega, by omega⟩
    · exact .inr ⟨by omega, by omega⟩
  have hin1 : InM M0 w.heap.size M1 W1 := by
    subst hM1
    refine ⟨fun k hk => .inl hk, .inr (.inl rfl), .inr (.inr rfl), fun k hk => ?_, fun k hk => ?_⟩
    · rcases hk with h | h | h
      · exact .inl h
      · exact .inr (by omega)
      · exact .inr (by omega)
    · rcases hk with h | h | h
      · have := hM0 k h; omega
      · omega
      · omega
  refine ⟨w.heap.size + 1, [{ target := .collected w.heap.size, args := #[] }], W1, { target := .fn (.func gf) lb, args := #[.func (.yield (w.heap.size + 1)) #[] #[]] }, W1, gf,
    #[.func (.yield (w.heap.size + 1)) #[] #[]] ++ lb, W1, ?_, ?_, fun _ _ => trivial, ?_, (fun h => (by cases h)), ?_⟩
  · rw [← hW1, hrec]; exact run_enterLoop_outer _ _ _ _ _
  · simp only [resolve, hg]
    simp [go_sem]
  · simp [invoke, go_sem, eg]
  · -- the iterator's contract, at I with the bookkeeping beside it; M without the two blocks of bookkeeping for the iterator, with them for I
    refine (hseq W1 hb1 (n - 1) (w.heap.size + 1)
      (fun pre M W => (¬ M w.heap.size ∧ ¬ M (w.heap.size + 1)) ∧ I pre (fun k => M k ∨ k = w.heap.size ∨ k = w.heap.size + 1) W ∧ InM M0 w.heap.size (fun k => M k ∨ k = w.heap.size ∨ k = w.heap.size + 1) W ∧ W.heap[w.heap.size + 1]? = some (.loop (rec .ready none)) ∧ W.heap[w.heap.size]? = some (.deferred (some [])))
      (fun pre M W => (¬ M w.heap.size ∧ ¬ M (w.heap.size + 1)) ∧ InM M0 w.heap.size (fun k => M k ∨ k = w.heap.size ∨ k = w.heap.size + 1) W ∧ ∃ c, Ix c pre (fun k => M k ∨ k = w.heap.size ∨ k = w.heap.size + 1) W ∧ W.heap[w.heap.size + 1]? = some (.loop (rec .done (some c))) ∧ W.heap[w.heap.size]? = some (.deferred (some [])))
      ?_ ?_ ?_ M0 (fun _ h => h) (fun k hk => by have := hM0 k hk; omega) ⟨⟨fun h => by have := hM0 _ h; omega, fun h => by have := hM0 _ h; omega⟩, by rw [hM1] at hI1; exact hI1, by rw [hM1] at hin1; exact hin1, hL1, hK1⟩).mono ?_
    · -- stable
      rintro s M M' A B ⟨⟨n1, n2⟩, hi, hin, hl, hk⟩ ht h1 h2
      have lD : w.heap.size < A.heap.size := hin.lt _ hin.d
      have lL : w.heap.size + 1 < A.heap.size := hin.lt _ hin.l
      have h1' : ∀ k, (M k ∨ k = w.heap.size ∨ k = w.heap.size + 1) → (M' k ∨ k = w.heap.size ∨ k = w.heap.size + 1) := fun k hk => hk.elim (fun h => .inl (h1 k h)) .inr
      have h2' : ∀ k, (M' k ∨ k = w.heap.size ∨ k = w.heap.size + 1) → (M k ∨ k = w.heap.size ∨ k = w.heap.size + 1) ∨ (A.heap.size ≤ k ∧ k < B.heap.size) := fun k hk => hk.elim (fun h => (h2 k h).elim (fun e => .inl (.inl e)) .inr) (fun h => .inl (.inr h))
      exact ⟨⟨fun h => (h2 _ h).elim n1 (fun e => by omega), fun h => (h2 _ h).elim n2 (fun e => by omega)⟩, hI s _ _ A B hi (ht.mono fun k _ h => .inl h) h1' h2', hin.turn ht.size h1' h2',
        (ht.block _ lL n2).trans hl, (ht.block _ lD n1).trans hk⟩
    · rintro s M M' A B ⟨⟨n1, n2⟩, hin, c, hi, hl, hk⟩ ht h1 h2
      have lD : w.heap.size < A.heap.size := hin.lt _ hin.d
      have lL : w.heap.size + 1 < A.heap.size := hin.lt _ hin.l
      have h1' : ∀ k, (M k ∨ k = w.heap.size ∨ k = w.heap.size + 1) → (M' k ∨ k = w.heap.size ∨ k = w.heap.size + 1) := fun k hk => hk.elim (fun h => .inl (h1 k h)) .inr
      have h2' : ∀ k, (M' k ∨ k = w.heap.size ∨ k = w.heap.size + 1) → (M k ∨ k = w.heap.size ∨ k = w.heap.size + 1) ∨ (A.heap.size ≤ k ∧ k < B.heap.size) := fun k hk => hk.elim (fun h => (h2 k h).elim (fun e => .inl (.inl e)) .inr) (fun h => .inl (.inr h))
      exact ⟨⟨fun h => (h2 _ h).elim n1 (fun e => by omega), fun h => (h2 _ h).elim n2 (fun e => by omega)⟩, hin.turn ht.size h1' h2', c, hIx c s _ _ A B hi (ht.mono fun k _ h => .inl h) h1' h2',
        (ht.block _ lL n2).trans hl, (ht.block _ lD n1).trans hk⟩
    · -- one round
      rintro pre x M W ⟨⟨n1, n2⟩, hi, hin, hl, hk⟩ hM0M hMlt hx m
      have lL : w.heap.size + 1 < W.heap.size := hin.lt _ hin.l
      have hy := run_yield (P := P) (args := encs x) hl (by rw [hrec]; exact hps x)
      rw [hrec] at hy
      refine ⟨fn, _, assign, body, hy, roundIn_of_wpIn trivial (hassign m _ pre x _ W _ hi hin ?_)⟩
      clear hy
      intro a' Wa hka hia hax
      have hla : Wa.heap[w.heap.size + 1]? = some (.loop (rec .ready none)) := (hka.block _ lL (.inr (.inr (.inr rfl)))).trans hl
      have hkk : Wa.heap[w.heap.size]? = some (.deferred (some [])) := (hka.block _ (by omega) (.inr (.inr (.inl rfl)))).trans hk
      have ltA : w.heap.size + 1 < Wa.heap.size := (Array.getElem?_eq_some_iff.1 hla).1
      have hina : InM M0 w.heap.size (fun k => M k ∨ k = w.heap.size ∨ k = w.heap.size + 1) Wa := hin.turn hka.size (fun _ h => h) (fun _ h => .inl h)
      refine ⟨_, run_beginRound hla (by rw [hrec]), ?_⟩
      have tB : TurnM (fun k => M k ∨ k = w.heap.size ∨ k = w.heap.size + 1) Wa (Wa.putObj (w.heap.size + 1) (.loop { rec .ready none with state := .busy })) := TurnM.putObj Wa (.inr (.inr rfl)) _
      have hl2 : (Wa.putObj (w.heap.size + 1) (.loop { rec .ready none with state := .busy })).heap[w.heap.size + 1]? = some (.loop { rec .ready none with state := .busy }) := World.putObj_heap_same ltA
      have hk2 : (Wa.putObj (w.heap.size + 1) (.loop { rec .ready none with state := .busy })).heap[w.heap.size]? = some (.deferred (some [])) := (World.putObj_heap_other (by omega)).trans hkk
      have hin2 := hina.turn (W' := Wa.putObj (w.heap.size + 1) (.loop { rec .ready none with state := .busy })) (by simp) (fun _ h => h) (fun _ h => .inl h)
      refine wpIn_mono (hbody m _ pre x _ a' _ (hI.turn hia tB) hin2 (hAx x a' Wa _ hax ⟨_, hla⟩) hx) ?_
      have keepAll : ∀ (W3 : World) (o3 : Obj), KeepM (fun k => R0 k ∨ M k ∨ k = w.heap.size ∨ k = w.heap.size + 1) (Wa.putObj (w.heap.size + 1) (.loop { rec .ready none with state := .busy })) W3 → KeepM (fun k => R0 k ∨ M k) W (W3.putObj (w.heap.size + 1) o3) := fun W3 o3 h3 => by
        refine ⟨by simpa using Nat.le_trans hka.size (by simpa using h3.size), fun k hkl hm => ?_⟩
        have hne : k ≠ w.heap.size + 1 := fun e => by
          subst e
          rcases hm with h | h
          · have := hR0 _ h; omega
          · exact n2 h
        have hm' : R0 k ∨ M k ∨ k = w.heap.size ∨ k = w.heap.size + 1 := hm.elim .inl (fun h => .inr (.inl h))
        rw [World.putObj_heap_other hne, h3.block k (by simpa using Nat.lt_of_lt_of_le hkl hka.size) hm', World.putObj_heap_other hne, hka.block k hkl hm']
      have fin : ∀ (jump : Option Code) (W3 : World), KeepM (fun k => R0 k ∨ M k ∨ k = w.heap.size ∨ k = w.heap.size + 1) (Wa.putObj (w.heap.size + 1) (.loop { rec .ready none with state := .busy })) W3 →
          (Instr.endRound (w.heap.size + 1) jump).run P W3 = .ok (.bool jump.isNone) (W3.putObj (w.heap.size + 1) (.loop (rec (if jump.isNone then .ready else .done) jump))) ∧
          (W3.putObj (w.heap.size + 1) (.loop (rec (if jump.isNone then .ready else .done) jump))).heap[w.heap.size + 1]? = some (.loop (rec (if jump.isNone then .ready else .done) jump)) ∧
          (W3.putObj (w.heap.size + 1) (.loop (rec (if jump.isNone then .ready else .done) jump))).heap[w.heap.size]? = some (.deferred (some [])) ∧
          TurnM (fun k => M k ∨ k = w.heap.size ∨ k = w.heap.size + 1) W3 (W3.putObj (w.heap.size + 1) (.loop (rec (if jump.isNone then .ready else .done) jump))) ∧
          InM M0 w.heap.size (fun k => M k ∨ k = w.heap.size ∨ k = w.heap.size + 1) (W3.putObj (w.heap.size + 1) (.loop (rec (if jump.isNone then .ready else .done) jump))) := fun jump W3 hk3 => by
        have hl3 := (hk3.block _ (by simpa using ltA) (.inr (.inr (.inr rfl)))).trans hl2
        have hd3 := (hk3.block _ (by simp; omega) (.inr (.inr (.inl rfl)))).trans hk2
        have := run_endRound (P := P) jump hl3
        rw [hrec] at this ⊢
        exact ⟨this, World.putObj_heap_same (Array.getElem?_eq_some_iff.1 hl3).1, (World.putObj_heap_other (by omega)).trans hd3, TurnM.putObj W3 (.inr (.inr rfl)) _, hin2.turn (by simpa using hk3.size) (fun _ h => h) (fun _ h => .inl h)⟩
      rintro e a3 W3 hp
      cases e with
      | normal =>
        obtain ⟨hk3, hi3⟩ := hp
        obtain ⟨hr, hl4, hk4, t4, in4⟩ := fin none W3 hk3
        exact ⟨_, _, hr, .inl ⟨rfl, ⟨⟨n1, n2⟩, hI.turn hi3 t4, in4, hl4, hk4⟩, keepAll W3 _ hk3⟩⟩
      | ret =>
        obtain ⟨hk3, hi3⟩ := hp
        obtain ⟨hr, hl4, hk4, t4, in4⟩ := fin (some .ret) W3 hk3
        exact ⟨_, _, hr, .inr ⟨rfl, ⟨⟨n1, n2⟩, in4, .ret, (hIx _).turn hi3 t4, hl4, hk4⟩, keepAll W3 _ hk3⟩⟩
      | exit id =>
        obtain ⟨hk3, hi3⟩ := hp
        obtain ⟨hr, hl4, hk4, t4, in4⟩ := fin (some (.exit id)) W3 hk3
        exact ⟨_, _, hr, .inr ⟨rfl, ⟨⟨n1, n2⟩, in4, .exit id, (hIx _).turn hi3 t4, hl4, hk4⟩, keepAll W3 _ hk3⟩⟩
      | goto t =>
        obtain ⟨hk3, hi3⟩ := hp
        obtain ⟨hr, hl4, hk4, t4, in4⟩ := fin (some (.goto t)) W3 hk3
        exact ⟨_, _, hr, .inr ⟨rfl, ⟨⟨n1, n2⟩, in4, .goto t, (hIx _).turn hi3 t4, hl4, hk4⟩, keepAll W3 _ hk3⟩⟩
      | panic ch => exact hp.elim
      | outgrown => exact hp.elim
    · -- behind the iterator
      rintro e W2 ⟨⟨v, rfl⟩, M', hMM, hMlt, (⟨⟨n1, n2⟩, hi, hin, hl, hk⟩ | ⟨pre, hpre, ⟨n1, n2⟩, hin, c, hi, hl, hk⟩)⟩
      · refine ⟨none, _, by have := run_endLoop (P := P) hl (by rw [hrec]; simp); rw [hrec] at this; exact this, hdone _ _ (hI.turn hi (TurnM.putObj W2 (.inr (.inr rfl)) _)) (hin.turn (by simp) (fun _ h => h) (fun _ h => .inl h)) ((World.putObj_heap_other (by omega)).trans hk)⟩
      · refine ⟨some c, _, by have := run_endLoop (P := P) hl (by rw [hrec]; simp); rw [hrec] at this; exact this, hstop c pre _ _ hpre ((hIx c).turn hi (TurnM.putObj W2 (.inr (.inr rfl)) _)) (hin.turn (by simp) (fun _ h => h) (fun _ h => .inl h)) ((World.putObj_heap_other (by omega)).trans hk)⟩

/-! ### Stable words -/
theorem Stable.and {β : Type} {J J' : β → Fp → World → Prop} (h : Stable J) (h' : Stable J') : Stable (fun s M W => J s M W ∧ J' s M W) := fun s M M' W W' hs ht h1 h2 => ⟨h s M M' W W' hs.1 ht h1 h2, h' s M M' W W' hs.2 ht h1 h2⟩
theorem stable_pure {β : Type} (p : β → Prop) : Stable (fun s (_ : Fp) (_ : World) => p s) := fun _ _ _ _ _ hs _ _ _ => hs
theorem stable_false {β : Type} : Stable (fun (_ : β) (_ : Fp) (_ : World) => False) := fun _ _ _ _ _ hs _ _ _ => hs
/-- A block that is not the iterator's. -/
theorem stable_block {β : Type} (b : Nat) (o : β → Obj) : Stable (fun s M W => W.heap[b]? = some (o s) ∧ ¬ M b) := fun s M M' W W' hs ht h1 h2 => by
  have hl := (Array.getElem?_eq_some_iff.1 hs.1).1
  exact ⟨(ht.block b hl hs.2).trans hs.1, fun h => (h2 b h).elim hs.2 (fun e => by omega)⟩
/-- What lay in w lies as it lay, but for M0. -/
theorem stable_frame {β : Type} (M0 : Fp) (w : World) : Stable (fun (_ : β) M W => TurnM M0 w W ∧ ∀ k, M k → M0 k ∨ w.heap.size ≤ k) := fun s M M' W W' hs ht h1 h2 => by
  have hsz := hs.1.size
  refine ⟨⟨ht.os.trans hs.1.os, ht.tape.trans hs.1.tape, ht.output.trans hs.1.output, Nat.le_trans hsz ht.size, fun k hk hn => (ht.block k (Nat.lt_of_lt_of_le hk hsz) (fun hm => ?_)).trans (hs.1.block k hk hn)⟩, fun k hk => (h2 k hk).elim (hs.2 k) (fun e => .inr (by omega))⟩
  exact (hs.2 k hm).elim hn (fun e => by omega)
/-- A row that the call owns, in a variable's box. -/
theorem stable_row {β : Type} (n₀ b : Nat) (t e : TypeId) (size : Nat) (n : β → Nat) (f : β → List Value) (G : β → Value → Prop) :
    Stable (fun s M W => ∃ v, Boxed W b t v ∧ W.ownsRow n₀ e size v (n s) (f s) ∧ G s v ∧ ¬ M b ∧ ∀ g, v.ownBlock = some g → ¬ M g) := fun s M M' W W' hs ht h1 h2 => by
  obtain ⟨v, hb, hr, hG, hnb, hng⟩ := hs
  have hlb := hb.lt
  refine ⟨v, (ht.block b hlb hnb).trans hb, ?_, hG, fun h => (h2 b h).elim hnb (fun e => by omega), fun g hg h => (h2 g h).elim (hng g hg) (fun e => by have := (hr.lt g hg).2; omega)⟩
  refine ⟨hr.1, ?_⟩
  rcases hr.2 with hn | ⟨g, cap, cur, rfl, hbg, hgg, rest⟩
  · exact .inl hn
  · exact .inr ⟨g, cap, cur, rfl, hbg, (ht.block g (Array.getElem?_eq_some_iff.1 hgg).1 (hng g rfl)).trans hgg, rest⟩

/-- What an iterator asks to be kept lies as it lay. -/
theorem stable_keep {β : Type} (R : Fp) (w : World) (hR : ∀ k, R k → k < w.heap.size) : Stable (fun (_ : β) M W => KeepM R w W ∧ ∀ k, R k → ¬ M k) := fun s M M' W W' hs ht h1 h2 => by
  have hsz := hs.1.size
  exact ⟨⟨Nat.le_trans hsz ht.size, fun k hk hr => (ht.block k (Nat.lt_of_lt_of_le hk hsz) (hs.2 k hr)).trans (hs.1.block k hk hr)⟩, fun k hr hm => (h2 k hm).elim (hs.2 k hr) (fun e => by have := hR k hr; omega)⟩
/-- Another's word, with more blocks beside. -/
theorem Stable.map {β γ : Type} {J : β → Fp → World → Prop} (h : Stable J) (f : γ → β) (K : Fp) : Stable (fun s M W => J (f s) (fun k => K k ∨ M k) W) := fun s M M' W W' hs ht h1 h2 =>
  h (f s) _ _ W W' hs (ht.mono fun _ _ h => .inr h) (fun k hk => hk.imp id (h1 k)) (fun k hk => hk.elim (fun e => .inl (.inl e)) (fun e => (h2 k e).imp .inr id))

theorem roundIn_in {F : Fence} {n : Nat} {P : Program} {l l2 : Nat} {f : FuncId} {tmps : Array Value} {assign body : Code} {w : World} {R : Ending → World → Prop} (h : RoundIn F n P l f tmps assign body w R) : RoundIn (F.inRound l2) n P l f tmps assign body w R := h

/-- append within a round, and where the new slice lies. -/
theorem wpListIn_append_lies {F : Fence} {n : Nat} {P : Program} (w : World) {ops : Array Oper} {rest : List Oper} {o : Oper} {a : Act} {Q : Exit → Act → World → Prop}
    (hg : o.guard = none) (s x : Operand) (t : TypeId) (hop : o.op = Op.call { callee := Callee.builtin Builtin.append, args := #[s, x], argTypes := #[t, t] })
    (base : Nat) (e : TypeId) (i : TypeInfo) (z : Value) (size bytes : Nat) (h1 : P.underlying t = some (.slice e)) (h2 : P.info? e = some i) (h3 : i.zero = some z) (h4 : i.size = size) (h5 : i.bytes = bytes) (h6 : z.cells.size = size) (h7 : 0 < size)
    (v : Value) (k : Nat) (xs : List Value) (hs : a.eval s = v) (hown : w.ownsRow base e size v k xs) (ad : Addr) (m c : Nat) (news : List Value) (hx : a.eval x = .slice (some ad) m c) (hn : news.length = m * size)
    (hc : ∀ j u, news[j]? = some u → w.cell? (ad.add j) = some u) (h1c : ∀ u ∈ news, u.oneCell' = true) (hm : 0 < m) (b1 : k + m ≤ maxLen) (b2 : (k + m) * bytes ≤ 140737488355328) (b3 : base ≤ w.heap.size) (H : Nat) (hH : w.heap.size = H)
    (hK : ∀ g cap w', w'.ownsRow base e size (.slice (some ⟨g, 0, none⟩) (k + m) cap) (k + m) (xs ++ news) → w.grownBy w' v.ownBlock → (v.ownBlock = some g ∨ g = H) → g < w'.heap.size → wpListIn F n P ops Q rest (a.put o.dst (.slice (some ⟨g, 0, none⟩) (k + m) cap)) w') :
    wpListIn F n P ops Q (o :: rest) a w := by
  refine wpListIn_plain hg fun K hK' => ?_
  obtain ⟨g, cap, w', hrun, r1, r2, r3, r4⟩ := run_append_lies (P := P) w t o.type base e i z size bytes h1 h2 h3 h4 h5 h6 h7 v k xs hown ad m c news hn hc h1c hm b1 b2 b3 H hH
  unfold Oper.wpIn
  refine ⟨?_, ?_⟩
  · simp [Oper.about, hop, resolve, Target.leads, Sem.run_pure]
  · rw [Oper.semAt_plain F _ _ (by rw [hop]; intro c hc'; cases hc')]
    simp [execOp, hop, resolve, invoke, builtin, hs, hx, hrun, Result.andThen]
    exact hK' _ _ (hK g cap w' r1 r2 r3 r4)

end Go.Proofs.YtipccndoffcfiaaDoor.SeqM
