import Derived.Test.YtkjhgbndnaemlaaSeenRef
import Derived.Test.YtkjhgbndnaemlaaSeenAwake
import Derived.Laws.StructEq
import Derived.Deep.RegionHeld3
import Derived.BigRegionIn
namespace Go.Proofs.Ytkjhgbndnaemlaa.SeenR
open Go.RowKit Go.Shelf
attribute [local go_sem] Oper.semAt_some
set_option linter.unusedVariables false
set_option linter.unusedSimpArgs false

section
variable {P : Program} {d : Nat} {xs ys : Array Value} {f : Field} {fs : List Field} {a b : Value} {r s : Bool} {w : World}
theorem eqf_last (hn : (f.name == "_") = false) (ha : (part f.type xs f.offset).run P w = .ok a w) (hb : (part f.type ys f.offset).run P w = .ok b w) (he : (Op.equalIn d f.type a b).run P w = .ok r w) : (Op.eqFields d xs ys [f]).run P w = .ok r w := by
  have hn' : f.name ≠ "_" := by simpa using hn
  simp only [Op.eqFields, if_pos hn', Sem.run_bind, ha, hb, he, Result.andThen_ok]
  cases r <;> simp
theorem eqf_cons (hn : (f.name == "_") = false) (ha : (part f.type xs f.offset).run P w = .ok a w) (hb : (part f.type ys f.offset).run P w = .ok b w) (he : (Op.equalIn d f.type a b).run P w = .ok r w) (hr : (Op.eqFields d xs ys fs).run P w = .ok s w) : (Op.eqFields d xs ys (f :: fs)).run P w = .ok (r && s) w := by
  have hn' : f.name ≠ "_" := by simpa using hn
  rw [Op.eqFields]
  simp only [if_pos hn', Sem.run_bind, ha, hb, he, Result.andThen_ok]
  cases r
  · simp
  · simpa using hr
theorem eqA_of {t : TypeId} {fs : Array Field} (hu : P.underlying t = some (.struct fs)) (hp : P.stoodInHeld t = false) (h : (Op.eqFields d xs ys fs.toList).run P w = .ok r w) : (Op.equalIn (d + 1) t (.agg xs) (.agg ys)).run P w = .ok r w := by
  have hf : P.fieldsOf t = fs := by simp [Program.fieldsOf, hu]
  rw [run_equalIn_struct (P := P) w d t xs ys (by rw [hf]; exact hu) hp, hf]
  exact h
end
theorem eqA27 (d : Nat) (w : World) (x0 y0 : Int) (x1 y1 : Int) (x2 y2 : Int) :
    (Op.equalIn (d + 2) 27 (.agg #[.int .i64 x0, .int .i64 x1, .int .i64 x2]) (.agg #[.int .i64 y0, .int .i64 y1, .int .i64 y2])).run Try.prog w = .ok (x0 == y0 && (x1 == y1 && (x2 == y2))) w := by
  refine eqA_of Try.underlying27 (by kernel_rfl) ?_
  refine eqf_cons (by rfl) (by go_simp; rfl) (by go_simp; rfl) (by go_simp) ?_
  refine eqf_cons (by rfl) (by go_simp; rfl) (by go_simp; rfl) (by go_simp) ?_
  exact eqf_last (by rfl) (by go_simp; rfl) (by go_simp; rfl) (by go_simp)
theorem eql27 (x : V) (w : World) : (binOp .eql 27 (val x) (val x)).run Try.prog w = .ok (.bool true) w := by
  have h := eqA27 9998 w x.1 x.1 x.2.1 x.2.1 x.2.2 x.2.2
  simp only [binOp]
  simp [Op.equal, Op.maxDepth, h]
theorem neq27 (x : V) (w : World) : (binOp .neq 27 (val x) (val x)).run Try.prog w = .ok (.bool false) w := by
  have h := eqA27 9998 w x.1 x.1 x.2.1 x.2.1 x.2.2 x.2.2
  rw [run_neq_struct, h]
  simp [Result.andThen]

theorem AtRef.keep {W W' : World} {n₀ n b : Nat} {most : Int} {rows : List (Int × V)} (h : AtRef W n₀ b most rows) (hk : Keep n W W') : AtRef W' n₀ b most rows := by
  obtain ⟨A, cap, h1, h2, h3, h4, h5⟩ := h
  refine ⟨A, cap, hk.same _ _ h1 (by simp [oty]) (by simp [oty]), h2, h3, h4, h5.imp id ?_⟩
  rintro ⟨hn, g, off, e, hg, ⟨cs, z, hne⟩, hc⟩
  have h6 := hk.same _ _ hne (by simp [oty]) (by simp [oty])
  exact ⟨hn, g, off, e, (Array.getElem?_eq_some_iff.1 h6).1, ⟨cs, z, h6⟩, fun j u hu => (World.cell?_of_block (w := W) (h6.trans hne.symm)).trans (hc j u hu)⟩
theorem At.other {W W' : World} {n₀ b rB : Nat} {most : Int} {lv : Value} {rows rows' : List (Int × V)} (h : At W n₀ b most lv rows) (hr : AtRef W n₀ rB most rows') (hg : W.grownBy W' (some rB)) : At W' n₀ b most lv rows := by
  obtain ⟨A, cap, h1, _⟩ := hr
  have hne : b ≠ rB := fun e => by subst e; have := h.1.symm.trans h1; simp at this
  exact ⟨(hg.block _ (Array.getElem?_eq_some_iff.1 h.1).1 (fun e => hne (by injection e))).trans h.1, h.2.1.kept hg (.inr (Ne.symm (not_row h1 (by decide) h.2.1))), h.2.2⟩

/-- The two Seens of the law: s at sB, w at rB behind the variable at b6. -/
def Sc (w0 : World) (sB rB b6 : Nat) (most : Int) (r1 r2 : List (Int × V)) (W : World) : Prop :=
  (∃ lv, At W w0.heap.size sB most lv r1) ∧ AtRef W w0.heap.size rB most r2 ∧ W.heap[b6]? = some (.cells #[.pointer (some ⟨rB, 0, none⟩)] 28 (0, 0)) ∧ Below w0.heap.size w0 W ∧ (r1.length : Int) ≤ most ∧ (r2.length : Int) ≤ most
theorem Sc.below {w0 W W' : World} {sB rB b6 : Nat} {most : Int} {r1 r2 : List (Int × V)} (h : Sc w0 sB rB b6 most r1 r2 W) (hb : Below W.heap.size W W') : Sc w0 sB rB b6 most r1 r2 W' := by
  obtain ⟨⟨lv, h1⟩, h2, h3, h4, h5, h6⟩ := h
  exact ⟨⟨lv, h1.below hb⟩, h2.grown hb, (hb.block _ (Array.getElem?_eq_some_iff.1 h3).1).trans h3, h4.trans (hb.mono h4.size), h5, h6⟩
theorem put_len (most : Int) (rows : List (Int × V)) (k : Int) (v : V) (h1 : 1 ≤ most) (h : (rows.length : Int) ≤ most) : ((putR most rows k v).length : Int) ≤ most := by
  unfold putR
  split
  · exact h
  · split <;> simp <;> omega

def SPut (w0 : World) (sB rB b6 : Nat) (most : Int) (r1 r2 : List (Int × V)) (k : Int) (v : V) (W : World) (e : Ending) (W' : World) : Prop :=
  e = .returned (.bool (!(look r1 k).2)) ∧ Sc w0 sB rB b6 most (putR most r1 k v) r2 W' ∧ Keep w0.heap.size W W'
theorem sput (w0 : World) (sB rB b6 : Nat) (most : Int) (r1 r2 : List (Int × V)) (k : Int) (v : V) (W : World) (h : Sc w0 sB rB b6 most r1 r2 W) (h1 : 1 ≤ most) (h2 : most ≤ 32) :
    Calls Try.prog 8 #[.pointer (some ⟨sB, 0, none⟩), .int .i64 k, val v] W (SPut w0 sB rB b6 most r1 r2 k v W) := by
  obtain ⟨⟨lv, h3⟩, h4, h5, h6, h7, h8⟩ := h
  refine (put_calls sB w0.heap.size most lv r1 k v W h3 h1 h2 h7 h6.size).mono ?_
  rintro e W' ⟨he, lv', hA, hK⟩
  exact ⟨he, ⟨⟨lv', hA⟩, h4.keep hK, hK.same _ _ h5 (by simp [oty]) (by simp [oty]), h6.trans hK.below, put_len most r1 k v h1 h7, h8⟩, hK⟩
def RPut (w0 : World) (sB rB b6 : Nat) (most : Int) (r1 r2 : List (Int × V)) (k : Int) (v : V) (W : World) (e : Ending) (W' : World) : Prop :=
  e = .returned (.bool (!(look r2 k).2)) ∧ Sc w0 sB rB b6 most r1 (putR most r2 k v) W' ∧ W.grownBy W' (some rB)
theorem rput (w0 : World) (sB rB b6 : Nat) (most : Int) (r1 r2 : List (Int × V)) (k : Int) (v : V) (W : World) (h : Sc w0 sB rB b6 most r1 r2 W) (h1 : 1 ≤ most) (h2 : most ≤ 32) :
    Calls Try.prog 9 #[.pointer (some ⟨rB, 0, none⟩), .int .i64 k, val v] W (RPut w0 sB rB b6 most r1 r2 k v W) := by
  obtain ⟨⟨lv, h3⟩, h4, h5, h6, h7, h8⟩ := h
  refine (rput_calls rB w0.heap.size most r2 k v W h4 h1 h2 h8 h6.size).mono ?_
  rintro e W' ⟨he, hA, hK⟩
  obtain ⟨A, cap, q1, _, _, q4, _⟩ := h4
  have h9 : b6 ≠ rB := fun e => by subst e; have := h5.symm.trans q1; simp at this
  refine ⟨he, ⟨⟨lv, h3.other ⟨A, cap, q1, by assumption, by assumption, q4, by assumption⟩ hK⟩, hA, (hK.block _ (Array.getElem?_eq_some_iff.1 h5).1 (fun e => h9 (by injection e))).trans h5, h6.grown hK h6.size (fun k e => by cases e; exact q4), h7, put_len most r2 k v h1 h8⟩, hK⟩
theorem Sc.cell {w0 W : World} {sB rB b6 : Nat} {most : Int} {r1 r2 : List (Int × V)} (h : Sc w0 sB rB b6 most r1 r2 W) : ∃ A cap, W.cell? ⟨rB, 0, none⟩ = some (.slice A r2.length cap) ∧ W.cell? ⟨b6, 0, none⟩ = some (.pointer (some ⟨rB, 0, none⟩)) := by
  obtain ⟨_, ⟨A, cap, q1, _⟩, h5, _⟩ := h
  exact ⟨A, cap, by simp [World.cell?, q1], by simp [World.cell?, h5]⟩
abbrev zero3 : Obj := .cells #[.int .i64 0, .int .i64 0, .int .i64 0] 27
theorem Sc.box {w0 W : World} {sB rB b6 B : Nat} {most : Int} {r1 r2 : List (Int × V)} {x : V} (h : Sc w0 sB rB b6 most r1 r2 W) (hb : BoxV W B x) (y : V) (hB : w0.heap.size ≤ B) :
    Sc w0 sB rB b6 most r1 r2 (((W.setCell ⟨B, 0, none⟩ (.int .i64 y.1)).setCell ⟨B, 1, none⟩ (.int .i64 y.2.1)).setCell ⟨B, 2, none⟩ (.int .i64 y.2.2)) := by
  have hb' : W.heap[B]? = some (.cells #[.int .i64 x.1, .int .i64 x.2.1, .int .i64 x.2.2] 27 (0, 0)) := hb
  have hg : W.grownBy (((W.setCell ⟨B, 0, none⟩ (.int .i64 y.1)).setCell ⟨B, 1, none⟩ (.int .i64 y.2.1)).setCell ⟨B, 2, none⟩ (.int .i64 y.2.2)) (some B) :=
    ⟨rfl, rfl, rfl, by simp [World.setCell], fun i hi hne => by
      have hi' : i ≠ B := fun e => hne (by rw [e])
      exact (Below.heap_setCell _ _ _ i hi').trans ((Below.heap_setCell _ _ _ i hi').trans (Below.heap_setCell _ _ _ i hi'))⟩
  generalize ((W.setCell ⟨B, 0, none⟩ (.int .i64 y.1)).setCell ⟨B, 1, none⟩ (.int .i64 y.2.1)).setCell ⟨B, 2, none⟩ (.int .i64 y.2.2) = W' at hg ⊢
  obtain ⟨⟨lv, h1⟩, ⟨A, cap, q1, q2, q3, q4, q5⟩, h3, h4, h5, h6⟩ := h
  have ne : ∀ {i : Nat} {cs : Array Value} {t : TypeId} {z : Nat × Nat}, W.heap[i]? = some (.cells cs t z) → t ≠ 27 → some i ≠ some B := fun hi ht e => by
    cases e
    have := hi.symm.trans hb'
    simp at this
    exact ht this.2.1
  have st : ∀ {i : Nat} {cs : Array Value} {t : TypeId} {z : Nat × Nat}, W.heap[i]? = some (.cells cs t z) → t ≠ 27 → W'.heap[i]? = some (.cells cs t z) := fun hi ht => (hg.block _ (Array.getElem?_eq_some_iff.1 hi).1 (ne hi ht)).trans hi
  refine ⟨⟨lv, st h1.1 (by decide), h1.2.1.kept hg (.inr (Ne.symm (not_row hb' (by decide) h1.2.1))), h1.2.2⟩, ⟨A, cap, st q1 (by decide), q2, q3, q4, q5.imp id ?_⟩, st h3 (by decide), h4.grown hg h4.size (fun k e => by cases e; exact hB), h5, h6⟩
  rintro ⟨hn, g, off, e, hgl, ⟨cs, z, hne⟩, hc⟩
  have h7 := st hne (by decide)
  exact ⟨hn, g, off, e, (Array.getElem?_eq_some_iff.1 h7).1, ⟨cs, z, h7⟩, fun j u hu => (World.cell?_of_block (w := W) (h7.trans hne.symm)).trans (hc j u hu)⟩
theorem wpAnyH_weaken {P : Program} {md : Region.Mode} {ops : Array Oper} {Q : Exit → Act → World → Prop} {S S' : World → Prop} (hSS : ∀ w, S' w → S w) :
    ∀ (fuel : Nat) (listed : Array Bool) (a : Act) (w : World), wpAnyH P md ops Q S' fuel listed a w → wpAnyH P md ops Q S fuel listed a w
  | 0, _, _, _, h => h
  | fuel + 1, _, _, _, h => ⟨h.1, fun i hi => wpOp_mono (fun a' w' h' => ⟨hSS _ h'.1, wpAnyH_weaken hSS fuel _ a' w' h'.2⟩) (h.2 i hi)⟩
def SGet (r1 : List (Int × V)) (k : Int) (W : World) (e : Ending) (W' : World) : Prop := e = .returned (.tuple #[val (look r1 k).1, .bool (look r1 k).2]) ∧ Below W.heap.size W W'
theorem sget (w0 : World) (sB rB b6 : Nat) (most : Int) (r1 r2 : List (Int × V)) (k : Int) (W : World) (h : Sc w0 sB rB b6 most r1 r2 W) : Calls Try.prog 11 #[.pointer (some ⟨sB, 0, none⟩), .int .i64 k] W (SGet r1 k W) := by
  obtain ⟨⟨lv, h3⟩, _⟩ := h
  exact get_calls sB w0.heap.size most lv r1 k W h3
theorem rget (w0 : World) (sB rB b6 : Nat) (most : Int) (r1 r2 : List (Int × V)) (k : Int) (W : World) (h : Sc w0 sB rB b6 most r1 r2 W) (h2 : most ≤ 32) : Calls Try.prog 12 #[.pointer (some ⟨rB, 0, none⟩), .int .i64 k] W (SGet r2 k W) := by
  obtain ⟨_, ⟨A, cap, q1, _, _, _, q5⟩, _, _, _, h8⟩ := h
  exact rget_calls rB A cap most r2 k W q1 (q5.imp (·.1) (fun ⟨_, g, off, e, hg, _, hc⟩ => ⟨g, off, e, hg, hc⟩)) (by omega)
theorem slen (w0 : World) (sB rB b6 : Nat) (most : Int) (r1 r2 : List (Int × V)) (W : World) (h : Sc w0 sB rB b6 most r1 r2 W) : Calls Try.prog 10 #[.pointer (some ⟨sB, 0, none⟩)] W fun e W' => e = .returned (.int .i64 r1.length) ∧ W' = W := by
  obtain ⟨⟨lv, h3⟩, _⟩ := h
  exact len_calls sB w0.heap.size most lv r1 W h3
end Go.Proofs.Ytkjhgbndnaemlaa.SeenR
