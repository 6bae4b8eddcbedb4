/- Iterators with effects: what a function given to Map or Filter writes. -/
import Derived.Test.YtnagjilogadinaaSeqM

namespace Go.Proofs.Ytnagjilogadinaa.SeqM
open Go.RowKit Go.Shelf
set_option linter.unusedVariables false

/-- THE CONTRACT OF ONE WITH EFFECTS: S tells of the blocks M0 after so many. called at the yield of a loop, in the world W0, it yields xs, or as far as a round says so. R0: what it asks to be kept; M0: what it may turn. -/
def RunE {α : Type} (P : Program) (g : Nat) (lb : Array Value) (encs : α → Array Value) (xs : List α) (R0 M0 : Fp) (S : List α → World → Prop) (W0 : World) : Prop :=
  ∀ (n l : Nat) (J Jx : List α → Fp → World → Prop), Stable J → Stable Jx →
    (∀ pre x M W1, J pre M W1 → S (pre ++ [x]) W1 → (∀ k, M0 k → M k) → (∀ k, M k → k < W1.heap.size) → (∃ rest, xs = pre ++ x :: rest) → RoundM P l (encs x) W1 fun e W' =>
      (e = .returned (.bool true) ∧ J (pre ++ [x]) M W' ∧ KeepM (fun k => R0 k ∨ M k) W1 W') ∨ (e = .returned (.bool false) ∧ Jx (pre ++ [x]) M W' ∧ KeepM (fun k => R0 k ∨ M k) W1 W')) →
    ∀ M, (∀ k, M0 k → M k) → (∀ k, M k → k < W0.heap.size) → J [] M W0 →
    CallsIn Fence.wide n P g (#[.func (.yield l) #[] #[]] ++ lb) W0 fun e W' => (∃ v, e = .returned v) ∧
      ∃ M', (∀ k, M k → M' k) ∧ (∀ k, M' k → k < W'.heap.size) ∧ ((J xs M' W' ∧ S xs W') ∨ ∃ pre, pre <+: xs ∧ Jx pre M' W' ∧ S pre W')

/-- THE LAW OF THE STATEMENT 'for .. := range g { .. }'. -/
theorem wpIn_rangeE {α : Type} {P : Program} {n : Nat} {g : Operand} {ps : Array Tmp} {assign body : Code} {Q : Exit → Act → World → Prop} {a : Act} {w : World}
    {gf : Nat} {lb : Array Value} (hg : a.eval g = .func (.func gf) #[] lb) (eg : ∀ args w, (callFunc gf args).run P w = .ok (.enter gf args) w)
    {encs : α → Array Value} {xs : List α} {R0 M0 : Fp} {S : List α → World → Prop} (hS : ∀ pre W W', S pre W → KeepM M0 W W' → S pre W') (hseq : ∀ W2, Below w.heap.size w W2 → RunE P gf lb encs xs R0 M0 S W2) (hR0 : ∀ k, R0 k → k < w.heap.size) (hM0 : ∀ k, M0 k → k < w.heap.size) (hps : ∀ x, (encs x).size = ps.size)
    (I : List α → Fp → World → Prop) (Ix : Code → List α → Fp → World → Prop) (hI : Stable I) (hIx : ∀ c, Stable (Ix c)) (h0 : I [] M0 w)
    (Ax : α → Act → World → Prop) (hAx : ∀ x a' W (o' : Obj), Ax x a' W → (∃ r, W.heap[w.heap.size + 1]? = some (.loop r)) → Ax x a' (W.putObj (w.heap.size + 1) o'))
    (hassign : ∀ (m l : Nat) (pre : List α) (x : α) (M : Fp) (W : World) (K : Act → World → Prop), I pre M W → InM M0 w.heap.size M W → (∀ a' W', KeepM (fun k => R0 k ∨ M k) W W' → I pre M W' → Ax x a' W' → K a' W') →
      assign.wpIn (Fence.wide.inRound l) m P (Exit.then K (fun _ _ _ => False)) { tmps := (ps.zip (encs x)).foldl (fun t (p, v) => t.setIfInBounds p v) a.tmps, defers := [] } W)
    (hbody : ∀ (m l : Nat) (pre : List α) (x : α) (M : Fp) (a' : Act) (W : World), I pre M W → InM M0 w.heap.size M W → Ax x a' W → (∃ rest, xs = pre ++ x :: rest) → S (pre ++ [x]) W → body.wpIn (Fence.wide.inRound l) m P (postM R0 M I Ix (pre ++ [x]) W) a' W)
    (hdone : ∀ (M : Fp) (W : World), I xs M W → S xs W → InM M0 w.heap.size M W → W.heap[w.heap.size]? = some (.deferred (some [])) → Q .normal { a with defers := { target := .collected w.heap.size, args := #[] } :: a.defers } W)
    (hstop : ∀ (c : Code) (pre : List α) (M : Fp) (W : World), pre <+: xs → Ix c pre M W → S pre W → InM M0 w.heap.size M W → W.heap[w.heap.size]? = some (.deferred (some [])) → c.wpIn Fence.wide n P Q { a with defers := { target := .collected w.heap.size, args := #[] } :: a.defers } W) :
    (Code.rangeFunc g ps assign body).wpIn Fence.wide n P Q a w := by
  refine wpIn_rangeFunc ?_
  intro fn hfn
  obtain ⟨rec, hrec⟩ : ∃ rec : LoopState → Option Code → Loop, rec = fun st pe => { state := st, pending := pe, fn, tmps := a.tmps, params := ps, assign, body, defers := w.heap.size } := ⟨_, rfl⟩
  obtain ⟨W1, hW1⟩ : ∃ W1, (w.alloc (.deferred (some []))).alloc (.loop (rec .ready none)) = W1 := ⟨_, rfl⟩
  have hL1 : W1.heap[w.heap.size + 1]? = some (.loop (rec .ready none)) := by
    rw [← hW1]; have := World.alloc_heap_new (w.alloc (.deferred (some []))) (.loop (rec .ready none)); rwa [World.size_alloc] at this
  have hK1 : W1.heap[w.heap.size]? = some (.deferred (some [])) := by
    rw [← hW1]; exact (Below.heap_alloc _ _ _ (by simp)).trans (World.alloc_heap_new w _)
  have hs1 : W1.heap.size = w.heap.size + 2 := by rw [← hW1]; simp
  have hb1 : Below w.heap.size w W1 := by
    rw [← hW1]; exact ((Below.refl _ w).alloc (Nat.le_refl _) _).alloc (by simp) _
  obtain ⟨M1, hM1⟩ : ∃ M1 : Fp, M1 = fun k => M0 k ∨ k = w.heap.size ∨ k = w.heap.size + 1 := ⟨_, rfl⟩
  have hI1 : I [] M1 W1 := by
    refine hI [] M0 M1 w W1 h0 (TurnM.of_below hb1) (fun k hk => by rw [hM1]; exact .inl hk) (fun k hk => ?_)
    rw [hM1] at hk
    rcases hk with h | h | h
    · exact .inl h
    · exact .inr ⟨by omega, by omega⟩
    · exact .inr ⟨by omega, by omega⟩
  have hin1 : InM M0 w.heap.size M1 W1 := by
    subst hM1
    refine ⟨fun k hk => .inl hk, .inr (.inl rfl), .inr (.inr rfl), fun k hk => ?_, fun k hk => ?_⟩
    · rcases hk with h | h | h
      · exact .inl h
      · exact .inr (by omega)
      · exact .inr (by omega)
    · rcases hk with h | h | h
      · have := hM0 k h; omega
      · omega
      · omega
  refine ⟨w.heap.size + 1, [{ target := .collected w.heap.size, args := #[] }], W1, { target := .fn (.func gf) lb, args := #[.func (.yield (w.heap.size + 1)) #[] #[]] }, W1, gf,
    #[.func (.yield (w.heap.size + 1)) #[] #[]] ++ lb, W1, ?_, ?_, fun _ _ => trivial, ?_, (fun h => (by cases h)), ?_⟩
  · rw [← hW1, hrec]; exact run_enterLoop_outer _ _ _ _ _
  · simp only [resolve, hg]
    simp [go_sem]
  · simp [invoke, go_sem, eg]
  · -- the iterator's contract, at I with the bookkeeping beside it; M without the two blocks of bookkeeping for the iterator, with them for I
    refine (hseq W1 hb1 (n - 1) (w.heap.size + 1)
      (fun pre M W => (¬ M w.heap.size ∧ ¬ M (w.heap.size + 1)) ∧ I pre (fun k => M k ∨ k = w.heap.size ∨ k = w.heap.size + 1) W ∧ InM M0 w.heap.size (fun k => M k ∨ k = w.heap.size ∨ k = w.heap.size + 1) W ∧ W.heap[w.heap.size + 1]? = some (.loop (rec .ready none)) ∧ W.heap[w.heap.size]? = some (.deferred (some [])))
      (fun pre M W => (¬ M w.heap.size ∧ ¬ M (w.heap.size + 1)) ∧ InM M0 w.heap.size (fun k => M k ∨ k = w.heap.size ∨ k = w.heap.size + 1) W ∧ ∃ c, Ix c pre (fun k => M k ∨ k = w.heap.size ∨ k = w.heap.size + 1) W ∧ W.heap[w.heap.size + 1]? = some (.loop (rec .done (some c))) ∧ W.heap[w.heap.size]? = some (.deferred (some [])))
      ?_ ?_ ?_ M0 (fun _ h => h) (fun k hk => by have := hM0 k hk; omega) ⟨⟨fun h => by have := hM0 _ h; omega, fun h => by have := hM0 _ h; omega⟩, by rw [hM1] at hI1; exact hI1, by rw [hM1] at hin1; exact hin1, hL1, hK1⟩).mono ?_
    · -- stable
      rintro s M M' A B ⟨⟨n1, n2⟩, hi, hin, hl, hk⟩ ht h1 h2
      have lD : w.heap.size < A.heap.size := hin.lt _ hin.d
      have lL : w.heap.size + 1 < A.heap.size := hin.lt _ hin.l
      have h1' : ∀ k, (M k ∨ k = w.heap.size ∨ k = w.heap.size + 1) → (M' k ∨ k = w.heap.size ∨ k = w.heap.size + 1) := fun k hk => hk.elim (fun h => .inl (h1 k h)) .inr
      have h2' : ∀ k, (M' k ∨ k = w.heap.size ∨ k = w.heap.size + 1) → (M k ∨ k = w.heap.size ∨ k = w.heap.size + 1) ∨ (A.heap.size ≤ k ∧ k < B.heap.size) := fun k hk => hk.elim (fun h => (h2 k h).elim (fun e => .inl (.inl e)) .inr) (fun h => .inl (.inr h))
      exact ⟨⟨fun h => (h2 _ h).elim n1 (fun e => by omega), fun h => (h2 _ h).elim n2 (fun e => by omega)⟩, hI s _ _ A B hi (ht.mono fun k _ h => .inl h) h1' h2', hin.turn ht.size h1' h2',
        (ht.block _ lL n2).trans hl, (ht.block _ lD n1).trans hk⟩
    · rintro s M M' A B ⟨⟨n1, n2⟩, hin, c, hi, hl, hk⟩ ht h1 h2
      have lD : w.heap.size < A.heap.size := hin.lt _ hin.d
      have lL : w.heap.size + 1 < A.heap.size := hin.lt _ hin.l
      have h1' : ∀ k, (M k ∨ k = w.heap.size ∨ k = w.heap.size + 1) → (M' k ∨ k = w.heap.size ∨ k = w.heap.size + 1) := fun k hk => hk.elim (fun h => .inl (h1 k h)) .inr
      have h2' : ∀ k, (M' k ∨ k = w.heap.size ∨ k = w.heap.size + 1) → (M k ∨ k = w.heap.size ∨ k = w.heap.size + 1) ∨ (A.heap.size ≤ k ∧ k < B.heap.size) := fun k hk => hk.elim (fun h => (h2 k h).elim (fun e => .inl (.inl e)) .inr) (fun h => .inl (.inr h))
      exact ⟨⟨fun h => (h2 _ h).elim n1 (fun e => by omega), fun h => (h2 _ h).elim n2 (fun e => by omega)⟩, hin.turn ht.size h1' h2', c, hIx c s _ _ A B hi (ht.mono fun k _ h => .inl h) h1' h2',
        (ht.block _ lL n2).trans hl, (ht.block _ lD n1).trans hk⟩
    · -- one round
      rintro pre x M W ⟨⟨n1, n2⟩, hi, hin, hl, hk⟩ hSx hM0M hMlt hx m
      have lL : w.heap.size + 1 < W.heap.size := hin.lt _ hin.l
      have hy := run_yield (P := P) (args := encs x) hl (by rw [hrec]; exact hps x)
      rw [hrec] at hy
      refine ⟨fn, _, assign, body, hy, roundIn_of_wpIn trivial (hassign m _ pre x _ W _ hi hin ?_)⟩
      clear hy
      intro a' Wa hka hia hax
      have hla : Wa.heap[w.heap.size + 1]? = some (.loop (rec .ready none)) := (hka.block _ lL (.inr (.inr (.inr rfl)))).trans hl
      have hkk : Wa.heap[w.heap.size]? = some (.deferred (some [])) := (hka.block _ (by omega) (.inr (.inr (.inl rfl)))).trans hk
      have ltA : w.heap.size + 1 < Wa.heap.size := (Array.getElem?_eq_some_iff.1 hla).1
      have hina : InM M0 w.heap.size (fun k => M k ∨ k = w.heap.size ∨ k = w.heap.size + 1) Wa := hin.turn hka.size (fun _ h => h) (fun _ h => .inl h)
      refine ⟨_, run_beginRound hla (by rw [hrec]), ?_⟩
      have tB : TurnM (fun k => M k ∨ k = w.heap.size ∨ k = w.heap.size + 1) Wa (Wa.putObj (w.heap.size + 1) (.loop { rec .ready none with state := .busy })) := TurnM.putObj Wa (.inr (.inr rfl)) _
      have hl2 : (Wa.putObj (w.heap.size + 1) (.loop { rec .ready none with state := .busy })).heap[w.heap.size + 1]? = some (.loop { rec .ready none with state := .busy }) := World.putObj_heap_same ltA
      have hk2 : (Wa.putObj (w.heap.size + 1) (.loop { rec .ready none with state := .busy })).heap[w.heap.size]? = some (.deferred (some [])) := (World.putObj_heap_other (by omega)).trans hkk
      have hin2 := hina.turn (W' := Wa.putObj (w.heap.size + 1) (.loop { rec .ready none with state := .busy })) (by simp) (fun _ h => h) (fun _ h => .inl h)
      refine wpIn_mono (hbody m _ pre x _ a' _ (hI.turn hia tB) hin2 (hAx x a' Wa _ hax ⟨_, hla⟩) hx (hS _ _ _ hSx ⟨by simpa using hka.size, fun k hkl hm => by rw [World.putObj_heap_other (fun e => by have := hM0 k hm; omega), hka.block k hkl (.inr (.inl (hM0M k hm)))]⟩)) ?_
      have keepAll : ∀ (W3 : World) (o3 : Obj), KeepM (fun k => R0 k ∨ M k ∨ k = w.heap.size ∨ k = w.heap.size + 1) (Wa.putObj (w.heap.size + 1) (.loop { rec .ready none with state := .busy })) W3 → KeepM (fun k => R0 k ∨ M k) W (W3.putObj (w.heap.size + 1) o3) := fun W3 o3 h3 => by
        refine ⟨by simpa using Nat.le_trans hka.size (by simpa using h3.size), fun k hkl hm => ?_⟩
        have hne : k ≠ w.heap.size + 1 := fun e => by
          subst e
          rcases hm with h | h
          · have := hR0 _ h; omega
          · exact n2 h
        have hm' : R0 k ∨ M k ∨ k = w.heap.size ∨ k = w.heap.size + 1 := hm.elim .inl (fun h => .inr (.inl h))
        rw [World.putObj_heap_other hne, h3.block k (by simpa using Nat.lt_of_lt_of_le hkl hka.size) hm', World.putObj_heap_other hne, hka.block k hkl hm']
      have fin : ∀ (jump : Option Code) (W3 : World), KeepM (fun k => R0 k ∨ M k ∨ k = w.heap.size ∨ k = w.heap.size + 1) (Wa.putObj (w.heap.size + 1) (.loop { rec .ready none with state := .busy })) W3 →
          (Instr.endRound (w.heap.size + 1) jump).run P W3 = .ok (.bool jump.isNone) (W3.putObj (w.heap.size + 1) (.loop (rec (if jump.isNone then .ready else .done) jump))) ∧
          (W3.putObj (w.heap.size + 1) (.loop (rec (if jump.isNone then .ready else .done) jump))).heap[w.heap.size + 1]? = some (.loop (rec (if jump.isNone then .ready else .done) jump)) ∧
          (W3.putObj (w.heap.size + 1) (.loop (rec (if jump.isNone then .ready else .done) jump))).heap[w.heap.size]? = some (.deferred (some [])) ∧
          TurnM (fun k => M k ∨ k = w.heap.size ∨ k = w.heap.size + 1) W3 (W3.putObj (w.heap.size + 1) (.loop (rec (if jump.isNone then .ready else .done) jump))) ∧
          InM M0 w.heap.size (fun k => M k ∨ k = w.heap.size ∨ k = w.heap.size + 1) (W3.putObj (w.heap.size + 1) (.loop (rec (if jump.isNone then .ready else .done) jump))) := fun jump W3 hk3 => by
        have hl3 := (hk3.block _ (by simpa using ltA) (.inr (.inr (.inr rfl)))).trans hl2
        have hd3 := (hk3.block _ (by simp; omega) (.inr (.inr (.inl rfl)))).trans hk2
        have := run_endRound (P := P) jump hl3
        rw [hrec] at this ⊢
        exact ⟨this, World.putObj_heap_same (Array.getElem?_eq_some_iff.1 hl3).1, (World.putObj_heap_other (by omega)).trans hd3, TurnM.putObj W3 (.inr (.inr rfl)) _, hin2.turn (by simpa using hk3.size) (fun _ h => h) (fun _ h => .inl h)⟩
      rintro e a3 W3 hp
      cases e with
      | normal =>
        obtain ⟨hk3, hi3⟩ := hp
        obtain ⟨hr, hl4, hk4, t4, in4⟩ := fin none W3 hk3
        exact ⟨_, _, hr, .inl ⟨rfl, ⟨⟨n1, n2⟩, hI.turn hi3 t4, in4, hl4, hk4⟩, keepAll W3 _ hk3⟩⟩
      | ret =>
        obtain ⟨hk3, hi3⟩ := hp
        obtain ⟨hr, hl4, hk4, t4, in4⟩ := fin (some .ret) W3 hk3
        exact ⟨_, _, hr, .inr ⟨rfl, ⟨⟨n1, n2⟩, in4, .ret, (hIx _).turn hi3 t4, hl4, hk4⟩, keepAll W3 _ hk3⟩⟩
      | exit id =>
        obtain ⟨hk3, hi3⟩ := hp
        obtain ⟨hr, hl4, hk4, t4, in4⟩ := fin (some (.exit id)) W3 hk3
        exact ⟨_, _, hr, .inr ⟨rfl, ⟨⟨n1, n2⟩, in4, .exit id, (hIx _).turn hi3 t4, hl4, hk4⟩, keepAll W3 _ hk3⟩⟩
      | goto t =>
        obtain ⟨hk3, hi3⟩ := hp
        obtain ⟨hr, hl4, hk4, t4, in4⟩ := fin (some (.goto t)) W3 hk3
        exact ⟨_, _, hr, .inr ⟨rfl, ⟨⟨n1, n2⟩, in4, .goto t, (hIx _).turn hi3 t4, hl4, hk4⟩, keepAll W3 _ hk3⟩⟩
      | panic ch => exact hp.elim
      | outgrown => exact hp.elim
    · -- behind the iterator
      rintro e W2 ⟨⟨v, rfl⟩, M', hMM, hMlt, (⟨⟨⟨n1, n2⟩, hi, hin, hl, hk⟩, hs⟩ | ⟨pre, hpre, ⟨⟨n1, n2⟩, hin, c, hi, hl, hk⟩, hs⟩)⟩
      · refine ⟨none, _, by have := run_endLoop (P := P) hl (by rw [hrec]; simp); rw [hrec] at this; exact this, hdone _ _ (hI.turn hi (TurnM.putObj W2 (.inr (.inr rfl)) _)) (hS _ _ _ hs ⟨by simp, fun k hkl hm => World.putObj_heap_other (fun e => by have := hM0 k hm; omega)⟩) (hin.turn (by simp) (fun _ h => h) (fun _ h => .inl h)) ((World.putObj_heap_other (by omega)).trans hk)⟩
      · refine ⟨some c, _, by have := run_endLoop (P := P) hl (by rw [hrec]; simp); rw [hrec] at this; exact this, hstop c pre _ _ hpre ((hIx c).turn hi (TurnM.putObj W2 (.inr (.inr rfl)) _)) (hS _ _ _ hs ⟨by simp, fun k hkl hm => World.putObj_heap_other (fun e => by have := hM0 k hm; omega)⟩) (hin.turn (by simp) (fun _ h => h) (fun _ h => .inl h)) ((World.putObj_heap_other (by omega)).trans hk)⟩

end Go.Proofs.Ytnagjilogadinaa.SeqM
