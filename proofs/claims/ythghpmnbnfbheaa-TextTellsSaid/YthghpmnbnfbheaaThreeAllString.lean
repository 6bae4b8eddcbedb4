/-
  Rows of pieces (over ByteArray), as they lie in memory.
-/
import Derived.Test.YthghpmnbnfbheaaPRefx0
import Derived.Test.YthghpmnbnfbheaaThreePlain
import Derived.Test.YthghpmnbnfbheaaPRefx1
import Derived.Deep.RegionHeld3
import Derived.Deep.AppendLies
import Derived.Lib.Hide
import Derived.OneCell
import Derived.Test.YthghpmnbnfbheaaPRefx3
import Derived.Test.YthghpmnbnfbheaaRunString
section
namespace Go.Proofs.Ythghpmnbnfbheaa.ThreeString
open Go.RowKit Go.Proofs.Ythghpmnbnfbheaa.PRef Go.Proofs.YthghpmnbnfbheaaW.PrintWords
set_option linter.unusedVariables false
set_option linter.unusedSimpArgs false

/-- A row that is told with its value. -/
def sliceV {α : Type} (e : Nat) (d : Kd α) : Kd (List α × Value) where
  sz := 1
  E := e :: d.E
  K := fun w x cs => ∃ A c, x.2 = .slice A x.1.length c ∧ cs = [x.2] ∧ x.1.length ≤ c ∧ d.C w A x.1.length x.1
  M := fun w base ok x cs => cs = [x.2] ∧ d.R e w base ok x.2 x.1
  K_len := by
    rintro w x cs ⟨A, c, _, rfl, _⟩
    rfl
  K_one := by
    rintro w x cs ⟨A, c, e, rfl, _⟩ u hu
    rw [List.mem_singleton.1 hu, e]
    rfl
  K_below := by
    rintro w w1 x cs hb ⟨A, c, e, rfl, hl, hr⟩
    exact ⟨A, c, e, rfl, hl, Kd.C_below hr hb⟩
  K_of_M := by
    rintro w base ok x cs ⟨rfl, h⟩
    obtain ⟨A, c, e, hl, hr⟩ := Kd.R_reads h
    exact ⟨A, c, e, rfl, hl, hr⟩
  M_mono := by
    rintro w base ok ok' x cs hok ⟨rfl, h⟩
    exact ⟨rfl, Kd.R_mono h hok⟩
  M_bound := by
    rintro w base ok x cs ⟨rfl, h⟩
    exact ⟨rfl, Kd.R_bound h⟩
  M_move := by
    rintro w w1 base ok x cs hm ⟨rfl, h⟩
    exact ⟨rfl, Kd.R_move h hm⟩
  M_lower := by
    rintro w base base' ok x cs hb ⟨rfl, h⟩
    exact ⟨rfl, Kd.R_lower h hb⟩

/-- A piece and its rows' values. -/
structure PV where
  p : Three.Pc ByteArray
  v1 : Value
  v2 : Value
  v3 : Value
def zP : PV := ⟨⟨false, [], [], []⟩, .slice none 0 0, .slice none 0 0, .slice none 0 0⟩
def kP : Kd PV := Kd.iso (Kd.pair Kd.bool (Kd.pair (sliceV 9 Kd.string) (Kd.pair (sliceV 9 Kd.string) (sliceV 9 Kd.string)))) (fun x => (x.p.c, (x.p.o, x.v1), (x.p.a, x.v2), (x.p.b, x.v3)))
theorem kP_openM {w : World} {base : Nat} {ok : Nat → Prop} {x : PV} {cs : List Value} (h : kP.M w base ok x cs) :
    cs = [.bool x.p.c, x.v1, x.v2, x.v3] ∧ Kd.R Kd.string 9 w base ok x.v1 x.p.o ∧ Kd.R Kd.string 9 w base ok x.v2 x.p.a ∧ Kd.R Kd.string 9 w base ok x.v3 x.p.b := by
  obtain ⟨c0, c1, rfl, h0, c2, c3, rfl, ⟨rfl, h1⟩, c4, c5, rfl, ⟨rfl, h2⟩, rfl, h3⟩ := h
  have h0' : c0 = [.bool x.p.c] := h0
  subst h0'
  exact ⟨rfl, h1, h2, h3⟩
theorem kP_mkM {w : World} {base : Nat} {ok : Nat → Prop} (x : PV) (h1 : Kd.R Kd.string 9 w base ok x.v1 x.p.o) (h2 : Kd.R Kd.string 9 w base ok x.v2 x.p.a) (h3 : Kd.R Kd.string 9 w base ok x.v3 x.p.b) :
    kP.M w base ok x [.bool x.p.c, x.v1, x.v2, x.v3] := ⟨[.bool x.p.c], [x.v1, x.v2, x.v3], rfl, rfl, [x.v1], [x.v2, x.v3], rfl, ⟨rfl, h1⟩, [x.v2], [x.v3], rfl, ⟨rfl, h2⟩, rfl, h3⟩
/-- A row that is read. -/
def Rd (w : World) (v : Value) (l : List ByteArray) : Prop := ∃ A c, v = .slice A l.length c ∧ l.length ≤ c ∧ Kd.C Kd.string w A l.length l
theorem Rd.below {w w' : World} {v : Value} {l : List ByteArray} (h : Rd w v l) (hb : Below w.heap.size w w') : Rd w' v l := by
  obtain ⟨A, c, e, hl, hc⟩ := h
  exact ⟨A, c, e, hl, Kd.C_below hc hb⟩
theorem kP_openK {w : World} {x : PV} {cs : List Value} (h : kP.K w x cs) : cs = [.bool x.p.c, x.v1, x.v2, x.v3] ∧ Rd w x.v1 x.p.o ∧ Rd w x.v2 x.p.a ∧ Rd w x.v3 x.p.b := by
  obtain ⟨c0, c1, rfl, h0, c2, c3, rfl, ⟨A1, d1, e1, rfl, h1⟩, c4, c5, rfl, ⟨A2, d2, e2, rfl, h2⟩, A3, d3, e3, rfl, h3⟩ := h
  have h0' : c0 = [.bool x.p.c] := h0
  subst h0'
  exact ⟨rfl, ⟨A1, d1, e1, h1⟩, ⟨A2, d2, e2, h2⟩, ⟨A3, d3, e3, h3⟩⟩
/-- The i-th piece's cells. -/
theorem at_P {w : World} {A : Option Addr} {n : Nat} {xs : List PV} (h : Kd.C kP w A n xs) (i : Nat) (hi : i < xs.length) (hn : n = xs.length) : ∃ ad, A = some ad ∧
    w.cell? (ad.add (i * 4)) = some (.bool xs[i].p.c) ∧ w.cell? ⟨(ad.add (i * 4)).block, (ad.add (i * 4)).off + 1, none⟩ = some xs[i].v1 ∧ w.cell? ⟨(ad.add (i * 4)).block, (ad.add (i * 4)).off + 2, none⟩ = some xs[i].v2 ∧ w.cell? ⟨(ad.add (i * 4)).block, (ad.add (i * 4)).off + 3, none⟩ = some xs[i].v3 ∧
    Rd w xs[i].v1 xs[i].p.o ∧ Rd w xs[i].v2 xs[i].p.a ∧ Rd w xs[i].v3 xs[i].p.b := by
  subst hn
  obtain ⟨ad, c, e, hc, hk, hg⟩ := Kd.C_get h zP (i : Int) (by omega) (by omega)
  have hx : xs.getD (i : Int).toNat zP = xs[i] := by simp [List.getD_eq_getElem?_getD, hi]
  rw [hx] at hk
  obtain ⟨rfl, h1, h2, h3⟩ := kP_openK hk
  have hs : kP.sz = 4 := rfl
  rw [hs] at hg
  refine ⟨ad, e, ?_, ?_, ?_, ?_, h1, h2, h3⟩
  · have := hg 0 _ rfl; simpa using this
  · rw [← add_field _ _ 1 (by omega)]; have := hg 1 _ rfl; simpa using this
  · rw [← add_field _ _ 2 (by omega)]; have := hg 2 _ rfl; simpa using this
  · rw [← add_field _ _ 3 (by omega)]; have := hg 3 _ rfl; simpa using this
/-- The blocks of a piece's rows. -/
def PV.bl (x : PV) : List Nat := x.v1.ownBlock.toList ++ x.v2.ownBlock.toList ++ x.v3.ownBlock.toList
def bls (xs : List PV) : List Nat := xs.flatMap PV.bl
theorem bls_snoc (xs : List PV) (x : PV) : bls (xs ++ [x]) = bls xs ++ x.bl := by simp [bls]
/-- The blocks lie in this world, from base on. -/
theorem bl_of_M {w : World} {base : Nat} {ok : Nat → Prop} {x : PV} {cs : List Value} (h : kP.M w base ok x cs) : ∀ k ∈ x.bl, base ≤ k ∧ k < w.heap.size ∧ ok k := by
  obtain ⟨_, h1, h2, h3⟩ := kP_openM h
  intro k hk
  unfold PV.bl at hk
  simp only [List.mem_append, Option.mem_toList] at hk
  have key : ∀ {v : Value} {l : List ByteArray}, Kd.R Kd.string 9 w base ok v l → v.ownBlock = some k → base ≤ k ∧ k < w.heap.size ∧ ok k := by
    intro v l hr e
    obtain ⟨inner, ho⟩ := Kd.R_own hr
    exact ⟨(ho.lt k e).1, (ho.lt k e).2, hr.1 k e⟩
  rcases hk with (hk | hk) | hk
  · exact key h1 hk
  · exact key h2 hk
  · exact key h3 hk
theorem reps_mem {α : Type} {pr : α → List Value → Prop} {sz : Nat} {xs : List α} {inner : List Value} (h : Reps pr sz xs inner) : ∀ x ∈ xs, ∃ cs, pr x cs := by
  intro x hx
  obtain ⟨j, hj, rfl⟩ := List.getElem_of_mem hx
  exact ⟨_, h.2 j _ (List.getElem?_eq_getElem hj)⟩
theorem bls_of_R {e : Nat} {w : World} {base : Nat} {ok : Nat → Prop} {v : Value} {xs : List PV} (h : Kd.R kP e w base ok v xs) : ∀ k ∈ bls xs, base ≤ k ∧ k < w.heap.size ∧ ok k := by
  obtain ⟨h0, inner, ho, hr⟩ := h
  intro k hk
  obtain ⟨x, hx, hk⟩ := List.mem_flatMap.1 hk
  obtain ⟨cs, hm⟩ := reps_mem hr x hx
  have := bl_of_M hm k hk
  exact ⟨this.1, this.2.1, this.2.2.1⟩
end Go.Proofs.Ythghpmnbnfbheaa.ThreeString
end

section
namespace Go.Proofs.Ythghpmnbnfbheaa.ThreeString
open Go.RowKit Go.Proofs.Ythghpmnbnfbheaa.PRef Go.Proofs.YthghpmnbnfbheaaW.PrintWords Go.Proofs.YthghpmnbnfbheaaW.PrintLast Go.Proofs.YthghpmnbnfbheaaW.PrintMore
set_option linter.unusedSimpArgs false
set_option linter.unusedVariables false
attribute [local go_sem] Oper.semAt_some

/-- The six boxes of Parts: base, a, b, l, at, from. -/
def Bx (W : World) (B : Nat) (V0 V1 V2 lv : Value) (at_ fr : Three.Pl) : Prop :=
  (W.heap[B]? = some (.cells #[V0] 29 (0, 0)) ∧ W.heap[B + 1]? = some (.cells #[V1] 29 (0, 0)) ∧ W.heap[B + 2]? = some (.cells #[V2] 29 (0, 0))) ∧
  W.heap[B + 3]? = some (.cells #[lv] 39 (0, 0)) ∧
  W.heap[B + 4]? = some (.cells #[.int .i64 (at_.1 : Int), .int .i64 (at_.2.1 : Int), .int .i64 (at_.2.2 : Int)] 56 (0, 0)) ∧
  W.heap[B + 5]? = some (.cells #[.int .i64 (fr.1 : Int), .int .i64 (fr.2.1 : Int), .int .i64 (fr.2.2 : Int)] 56 (0, 0))
theorem infoP : (Try.prog.info? 42).map (fun i => (i.zero, i.size, i.bytes)) = some (some (.agg #[.bool false, .slice none 0 0, .slice none 0 0, .slice none 0 0]), 4, 80) := by kernel_rfl
/-- A place of whole numbers from 0 on. -/
def pl (p : Three.Pl) : S56 := ⟨(p.1 : Int), (p.2.1 : Int), (p.2.2 : Int)⟩
theorem part_f' (l0 l1 l2 : List ByteArray) (p q : Three.Pl) (a0 a1 a2 b0 b1 b2 : Int) (ea0 : a0 = (p.1 : Int)) (ea1 : a1 = (p.2.1 : Int)) (ea2 : a2 = (p.2.2 : Int)) (eb0 : b0 = (q.1 : Int)) (eb1 : b1 = (q.2.1 : Int)) (eb2 : b2 = (q.2.2 : Int)) (h1 : p.1 ≤ q.1) (h2 : p.2.1 ≤ q.2.1) (h3 : p.2.2 ≤ q.2.2) (g1 : q.1 ≤ l0.length) (g2 : q.2.1 ≤ l1.length) (g3 : q.2.2 ≤ l2.length) (k0 : l0.length ≤ 1000000) (k1 : l1.length ≤ 1000000) (k2 : l2.length ≤ 1000000) :
    three_part_string.f l0 l1 l2 a0 a1 a2 b0 b1 b2 = some (false, Three.cut l0 p.1 q.1, Three.cut l1 p.2.1 q.2.1, Three.cut l2 p.2.2 q.2.2) := by
  subst ea0 ea1 ea2 eb0 eb1 eb2
  have hcl : ∀ l : List ByteArray, l.length ≤ 1000000 → slices_Clone_string_string.f l = some l := by
    intro l hl
    unfold slices_Clone_string_string.f
    rw [if_pos (by omega)]
  have hct : ∀ (l : List ByteArray) (i j : Nat), l.length ≤ 1000000 → ((l.take ((j : Int)).toNat).drop ((i : Int)).toNat) = Three.cut l i j ∧ (Three.cut l i j).length ≤ 1000000 := by
    intro l i j hl
    refine ⟨by simp [Three.cut], ?_⟩
    unfold Three.cut
    simp; omega
  unfold three_part_string.f
  rw [if_pos (by omega), if_pos (by omega), if_pos (by omega), (hct l0 _ _ k0).1, hcl _ (hct l0 _ _ k0).2, Option.bind_some]
  rw [if_pos (by omega), if_pos (by omega), if_pos (by omega), (hct l1 _ _ k1).1, hcl _ (hct l1 _ _ k1).2, Option.bind_some]
  rw [if_pos (by omega), if_pos (by omega), if_pos (by omega), (hct l2 _ _ k2).1, hcl _ (hct l2 _ _ k2).2, Option.bind_some]
theorem part_f (l0 l1 l2 : List ByteArray) (p q : Three.Pl) (h1 : p.1 ≤ q.1) (h2 : p.2.1 ≤ q.2.1) (h3 : p.2.2 ≤ q.2.2) (g1 : q.1 ≤ l0.length) (g2 : q.2.1 ≤ l1.length) (g3 : q.2.2 ≤ l2.length) (k0 : l0.length ≤ 1000000) (k1 : l1.length ≤ 1000000) (k2 : l2.length ≤ 1000000) :
    three_part_string.f l0 l1 l2 (pl p).f0 (pl p).f1 (pl p).f2 (pl q).f0 (pl q).f1 (pl q).f2 = some (false, Three.cut l0 p.1 q.1, Three.cut l1 p.2.1 q.2.1, Three.cut l2 p.2.2 q.2.2) :=
  part_f' l0 l1 l2 p q _ _ _ _ _ _ rfl rfl rfl rfl rfl rfl h1 h2 h3 g1 g2 g3 k0 k1 k2
/-- What a new piece says of memory: its rows are new, and unlike. -/
def New (w w' : World) (x : PV) : Prop := x.bl.Nodup ∧ ∀ k ∈ x.bl, w.heap.size ≤ k ∧ k < w'.heap.size
/-- part, with its rows. -/
theorem part_calls (A0 : Option Addr) (c0 : Nat) (l0 : List ByteArray) (A1 : Option Addr) (c1 : Nat) (l1 : List ByteArray) (A2 : Option Addr) (c2 : Nat) (l2 : List ByteArray) (p q : Three.Pl) (w : World)
    (hr0 : Kd.C Kd.string w A0 l0.length l0) (hc0 : l0.length ≤ c0) (hr1 : Kd.C Kd.string w A1 l1.length l1) (hc1 : l1.length ≤ c1) (hr2 : Kd.C Kd.string w A2 l2.length l2) (hc2 : l2.length ≤ c2)
    (h1 : p.1 ≤ q.1) (h2 : p.2.1 ≤ q.2.1) (h3 : p.2.2 ≤ q.2.2) (g1 : q.1 ≤ l0.length) (g2 : q.2.1 ≤ l1.length) (g3 : q.2.2 ≤ l2.length) (k0 : l0.length ≤ 1000000) (k1 : l1.length ≤ 1000000) (k2 : l2.length ≤ 1000000) :
    Calls Try.prog 35 #[.slice A0 l0.length c0, .slice A1 l1.length c1, .slice A2 l2.length c2, .agg #[.int .i64 (p.1 : Int), .int .i64 (p.2.1 : Int), .int .i64 (p.2.2 : Int)], .agg #[.int .i64 (q.1 : Int), .int .i64 (q.2.1 : Int), .int .i64 (q.2.2 : Int)]] w fun e w' =>
      ∃ x : PV, e = .returned (.agg #[.bool false, x.v1, x.v2, x.v3]) ∧ x.p = ⟨false, Three.cut l0 p.1 q.1, Three.cut l1 p.2.1 q.2.1, Three.cut l2 p.2.2 q.2.2⟩ ∧ kP.M w' w.heap.size (fun k => k ∈ x.bl) x [.bool false, x.v1, x.v2, x.v3] ∧ New w w' x ∧ Below w.heap.size w w' := by
  refine (three_part_string.calls A0 c0 l0 A1 c1 l1 A2 c2 l2 _ _ _ _ _ _ _ _ _ _ w hr0 hc0 hr1 hc1 hr2 hc2 (part_f l0 l1 l2 p q h1 h2 h3 g1 g2 g3 k0 k1 k2)).mono ?_
  rintro e w' ⟨v1, v2, v3, rfl, r1, r2, r3, hb⟩
  refine ⟨⟨⟨false, Three.cut l0 p.1 q.1, Three.cut l1 p.2.1 q.2.1, Three.cut l2 p.2.2 q.2.2⟩, v1, v2, v3⟩, rfl, rfl, ?_, ⟨?_, ?_⟩, hb⟩
  · have key : ∀ {v : Value} {ok : Nat → Prop} {l : List ByteArray}, Kd.R Kd.string 9 w' w.heap.size ok v l → Kd.R Kd.string 9 w' w.heap.size (fun k => some k = v.ownBlock) v l := by
      intro v ok l hr
      obtain ⟨h0, inner, ho, hi⟩ := hr
      exact ⟨fun k e => e.symm, inner, ho, hi.imp_ (fun _ _ h => h)⟩
    refine kP_mkM (⟨⟨false, Three.cut l0 p.1 q.1, Three.cut l1 p.2.1 q.2.1, Three.cut l2 p.2.2 q.2.2⟩, v1, v2, v3⟩ : PV) (Kd.R_mono (key r1) ?_) (Kd.R_mono (key r2) ?_) (Kd.R_mono (key r3) ?_)
    all_goals
      intro k e
      simp [PV.bl, ← e]
  · unfold PV.bl
    simp only
    have d12 : ∀ k, v1.ownBlock = some k → v2.ownBlock ≠ some k := fun k e e' => (r1.1 k e).1 e'.symm
    have d13 : ∀ k, v1.ownBlock = some k → v3.ownBlock ≠ some k := fun k e e' => (r1.1 k e).2 e'.symm
    have d23 : ∀ k, v2.ownBlock = some k → v3.ownBlock ≠ some k := fun k e e' => (r2.1 k e).2 e'.symm
    cases e1 : v1.ownBlock <;> cases e2 : v2.ownBlock <;> cases e3 : v3.ownBlock <;> simp [List.nodup_cons]
    all_goals
      rw [e1] at d12 d13
      rw [e2] at d23
      first
        | (have := d12 _ rfl; rw [e2] at this; have t2 := d13 _ rfl; rw [e3] at t2; have t3 := d23 _ rfl; rw [e3] at t3; simp at this t2 t3; refine ⟨⟨?_, ?_⟩, ?_⟩ <;> (intro h; subst h; contradiction))
        | (have := d12 _ rfl; rw [e2] at this; simp at this; (intro h; subst h; contradiction))
        | (have := d13 _ rfl; rw [e3] at this; simp at this; (intro h; subst h; contradiction))
        | (have := d23 _ rfl; rw [e3] at this; simp at this; (intro h; subst h; contradiction))
  · intro k hk
    unfold PV.bl at hk
    simp only [List.mem_append, Option.mem_toList] at hk
    have key : ∀ {v : Value} {ok : Nat → Prop} {l : List ByteArray}, Kd.R Kd.string 9 w' w.heap.size ok v l → v.ownBlock = some k → w.heap.size ≤ k ∧ k < w'.heap.size := by
      intro v ok l hr e
      obtain ⟨inner, ho⟩ := Kd.R_own hr
      exact ho.lt k e
    rcases hk with (hk | hk) | hk
    · exact key r1 hk
    · exact key r2 hk
    · exact key r3 hk
/-- All but the box of l, and the row of l, is as it was. -/
def Keep (B : Nat) (lv : Value) (w w' : World) : Prop := Below (B + 3) w w' ∧ ∀ k, k < w.heap.size → k ≠ B + 3 → some k ≠ lv.ownBlock → w'.heap[k]? = w.heap[k]?
def FastPost (B : Nat) (V0 V1 V2 lv : Value) (l0 l1 l2 : List ByteArray) (at_ fr : Three.Pl) (ok : Nat → Prop) (xs : List PV) (w : World) (e : Ending) (w' : World) : Prop :=
  ∃ (lv' v : Value) (xs' : List PV), e = .returned v ∧ Bx w' B V0 V1 V2 lv' at_ fr ∧ Kd.R kP 42 w' (B + 6) ok lv' xs' ∧ xs'.map PV.p = xs.map PV.p ++ Three.fast l0 l1 l2 fr at_ ∧ (bls xs').Nodup ∧ Keep B lv w w'
theorem drewn (w : World) : Below w.heap.size w w.drew := ⟨rfl, rfl, rfl, Nat.le_refl _, fun _ _ => rfl⟩
theorem own_lt' {e : Nat} {w : World} {base : Nat} {ok : Nat → Prop} {v : Value} {xs : List PV} (h : Kd.R kP e w base ok v xs) (k : Nat) (hk : v.ownBlock = some k) : k < w.heap.size := by
  obtain ⟨inner, ho⟩ := Kd.R_own h
  exact (ho.lt k hk).2
theorem fast_done {B : Nat} {V0 V1 V2 lv lv' : Value} {l0 l1 l2 : List ByteArray} {at_ fr : Three.Pl} {ok : Nat → Prop} {xs : List PV} {w w1 w2 : World} {x : PV} (hs : B + 6 ≤ w.heap.size) (hlt : fr.1 < at_.1)
    (HXP : x.p = ⟨false, Three.cut l0 fr.1 at_.1, Three.cut l1 fr.2.1 at_.2.1, Three.cut l2 fr.2.2 at_.2.2⟩) (HXN : New w.drew w1 x) (HBp : Below w.drew.heap.size w.drew w1) (HO : Kd.R kP 42 w2 (B + 6) ok lv' (xs ++ [x])) (HB2 : Below (B + 6) w w2) (HG : w1.grownBy w2 lv.ownBlock)
    (HL : Kd.R kP 42 w (B + 6) ok lv xs) (HBX : Bx w B V0 V1 V2 lv at_ fr) (HN : (bls xs).Nodup) (v : Value) : FastPost B V0 V1 V2 lv l0 l1 l2 at_ fr ok xs w (.returned v) (w2.setCell ⟨B + 3, 0, none⟩ lv') := by
  obtain ⟨⟨e0, e1, e2⟩, e3, e4, e5⟩ := HBX
  have far : ∀ k, k < B + 6 → k ≠ B + 3 → (w2.setCell ⟨B + 3, 0, none⟩ lv').heap[k]? = w.heap[k]? := fun k hk hne =>
    (Below.heap_setCell w2 ⟨B + 3, 0, none⟩ lv' k hne).trans (HB2.block k hk)
  have h3 : w2.heap[B + 3]? = some (.cells #[lv] 39 (0, 0)) := (HB2.block (B + 3) (by omega)).trans e3
  refine ⟨lv', v, xs ++ [x], rfl, ⟨⟨?_, ?_, ?_⟩, ?_, ?_, ?_⟩, ?_, ?_, ?_, ?_, ?_⟩
  · rw [far B (by omega) (by omega)]; exact e0
  · rw [far (B + 1) (by omega) (by omega)]; exact e1
  · rw [far (B + 2) (by omega) (by omega)]; exact e2
  · exact one_setCell h3
  · rw [far (B + 4) (by omega) (by omega)]; exact e4
  · rw [far (B + 5) (by omega) (by omega)]; exact e5
  · exact Kd.R_set HO h3 (by decide) 0 lv'
  · unfold Three.fast
    rw [if_pos hlt, List.map_append, List.map_singleton, HXP]
  · rw [bls_snoc]
    refine List.nodup_append.2 ⟨HN, HXN.1, fun a ha b hb e => ?_⟩
    subst e
    have q1 := (bls_of_R HL a ha).2.1
    have q2 := (HXN.2 a hb).1
    simp at q2
    omega
  · exact (HB2.mono (by omega)).setCell (by exact Nat.le_refl _) _
  · intro k hk hne hnb
    rw [Below.heap_setCell w2 ⟨B + 3, 0, none⟩ lv' k hne, HG.block k (Nat.lt_of_lt_of_le hk (by have := HBp.size; simpa using this)) hnb]
    exact HBp.block k (by simpa using hk)
theorem fast_none {B : Nat} {V0 V1 V2 lv : Value} {l0 l1 l2 : List ByteArray} {at_ fr : Three.Pl} {ok : Nat → Prop} {xs : List PV} {w : World} (hlt : ¬ fr.1 < at_.1)
    (HL : Kd.R kP 42 w (B + 6) ok lv xs) (HBX : Bx w B V0 V1 V2 lv at_ fr) (HN : (bls xs).Nodup) (v : Value) : FastPost B V0 V1 V2 lv l0 l1 l2 at_ fr ok xs w (.returned v) w := by
  refine ⟨lv, v, xs, rfl, HBX, HL, ?_, HN, Below.refl _ _, fun _ _ _ _ => rfl⟩
  unfold Three.fast
  rw [if_neg hlt, List.append_nil]
set_option maxHeartbeats 8000000 in
set_option maxRecDepth 100000 in
theorem fast_calls (B : Nat) (A0 : Option Addr) (c0 : Nat) (l0 : List ByteArray) (A1 : Option Addr) (c1 : Nat) (l1 : List ByteArray) (A2 : Option Addr) (c2 : Nat) (l2 : List ByteArray) (at_ fr : Three.Pl) (lv : Value) (xs : List PV) (ok : Nat → Prop) (w : World)
    (hr0 : Kd.C Kd.string w A0 l0.length l0) (hc0 : l0.length ≤ c0) (hr1 : Kd.C Kd.string w A1 l1.length l1) (hc1 : l1.length ≤ c1) (hr2 : Kd.C Kd.string w A2 l2.length l2) (hc2 : l2.length ≤ c2) (k0 : l0.length ≤ 1000000) (k1 : l1.length ≤ 1000000) (k2 : l2.length ≤ 1000000)
    (hb : Bx w B (.slice A0 l0.length c0) (.slice A1 l1.length c1) (.slice A2 l2.length c2) lv at_ fr) (hl : Kd.R kP 42 w (B + 6) ok lv xs) (hx : xs.length ≤ 1000000) (hs : B + 6 ≤ w.heap.size) (hnd : (bls xs).Nodup) (hfresh : ∀ k, w.heap.size ≤ k → ok k)
    (h1 : fr.1 ≤ at_.1) (h2 : fr.2.1 ≤ at_.2.1) (h3 : fr.2.2 ≤ at_.2.2) (g1 : at_.1 ≤ l0.length) (g2 : at_.2.1 ≤ l1.length) (g3 : at_.2.2 ≤ l2.length) :
    Calls Try.prog 34 #[.pointer (some ⟨B + 5, 0, none⟩), .pointer (some ⟨B + 4, 0, none⟩), .pointer (some ⟨B + 3, 0, none⟩), .pointer (some ⟨B, 0, none⟩), .pointer (some ⟨B + 1, 0, none⟩), .pointer (some ⟨B + 2, 0, none⟩)] w
      (FastPost B (.slice A0 l0.length c0) (.slice A1 l1.length c1) (.slice A2 l2.length c2) lv l0 l1 l2 at_ fr ok xs w) := by
  have HR0 := Lib.hid hr0
  have HR1 := Lib.hid hr1
  have HR2 := Lib.hid hr2
  have HL := Lib.hid hl
  have HBX := Lib.hid hb
  have HN := Lib.hid hnd
  have HF := Lib.hid hfresh
  obtain ⟨⟨e0, e1, e2⟩, e3, e4, e5⟩ := hb
  have k00 : w.cell? ⟨B, 0, none⟩ = some (.slice A0 l0.length c0) := by simp [World.cell?, e0]
  have k10 : w.cell? ⟨B + 1, 0, none⟩ = some (.slice A1 l1.length c1) := by simp [World.cell?, e1]
  have k20 : w.cell? ⟨B + 2, 0, none⟩ = some (.slice A2 l2.length c2) := by simp [World.cell?, e2]
  have k30 : w.cell? ⟨B + 3, 0, none⟩ = some lv := by simp [World.cell?, e3]
  have k40 : w.cell? ⟨B + 4, 0, none⟩ = some (.int .i64 (at_.1 : Int)) := by simp [World.cell?, e4]
  have k41 : w.cell? ⟨B + 4, 1, none⟩ = some (.int .i64 (at_.2.1 : Int)) := by simp [World.cell?, e4]
  have k42 : w.cell? ⟨B + 4, 2, none⟩ = some (.int .i64 (at_.2.2 : Int)) := by simp [World.cell?, e4]
  have k50 : w.cell? ⟨B + 5, 0, none⟩ = some (.int .i64 (fr.1 : Int)) := by simp [World.cell?, e5]
  have k51 : w.cell? ⟨B + 5, 1, none⟩ = some (.int .i64 (fr.2.1 : Int)) := by simp [World.cell?, e5]
  have k52 : w.cell? ⟨B + 5, 2, none⟩ = some (.int .i64 (fr.2.2 : Int)) := by simp [World.cell?, e5]
  have k3f : w.frozen? ⟨B + 3, 0, none⟩ = false := by simp [World.frozen?, e3]
  clear hr0 hr1 hr2 hl hnd hfresh e0 e1 e2 e3 e4 e5
  go_enter Try.func34, Try.ntmps34
  by_cases hlt : fr.1 < at_.1
  · have hlt' : decide ((fr.1 : Int) < (at_.1 : Int)) = true := by simp; omega
    go_wp2_with fail
    refine wp_region_noPanic ?_
    refine start_ (n := 10) (S := fun w' => w'.cell? ⟨B, 0, none⟩ = some (.slice A0 l0.length c0) ∧ w'.cell? ⟨B + 1, 0, none⟩ = some (.slice A1 l1.length c1) ∧ w'.cell? ⟨B + 2, 0, none⟩ = some (.slice A2 l2.length c2) ∧ w'.cell? ⟨B + 3, 0, none⟩ = some lv ∧ w'.cell? ⟨B + 4, 0, none⟩ = some (.int .i64 (at_.1 : Int)) ∧ w'.cell? ⟨B + 4, 1, none⟩ = some (.int .i64 (at_.2.1 : Int)) ∧ w'.cell? ⟨B + 4, 2, none⟩ = some (.int .i64 (at_.2.2 : Int)) ∧ w'.cell? ⟨B + 5, 0, none⟩ = some (.int .i64 (fr.1 : Int)) ∧ w'.cell? ⟨B + 5, 1, none⟩ = some (.int .i64 (fr.2.1 : Int)) ∧ w'.cell? ⟨B + 5, 2, none⟩ = some (.int .i64 (fr.2.2 : Int))) (ds := [9]) #[false, false, false, false, false, false, false, false, false, false] (by kernel_rfl) rfl rfl ⟨k00, k10, k20, k30, k40, k41, k42, k50, k51, k52⟩ (fun hHeld => ?_)
    refine take_ (i := 0) (N := some 11) (v := ?_) (a' := ?_) #[true, false, false, false, false, false, false, false, false, false] rfl rfl (by kernel_rfl) (fun _ _ _ h => h) (Or.inl ⟨by rfl, ?_⟩) hHeld ?_ ?_
    rotate_left
    · rintro w' ⟨s0, s1, s2, s3, s4, s5, s6, s7, s8, s9⟩
      go_simp
      with_reducible rfl
    rotate_left
    · simp only [Act.put, List.setIfInBounds_toArray, List.set_cons_zero, List.set_cons_succ]
      rfl
    refine take_ (i := 1) (N := some 12) (v := ?_) (a' := ?_) #[true, true, false, false, false, false, false, false, false, false] rfl rfl (by kernel_rfl) (fun _ _ _ h => h) (Or.inl ⟨by rfl, ?_⟩) hHeld ?_ ?_
    rotate_left
    · rintro w' ⟨s0, s1, s2, s3, s4, s5, s6, s7, s8, s9⟩
      go_simp
      with_reducible rfl
    rotate_left
    · simp only [Act.put, List.setIfInBounds_toArray, List.set_cons_zero, List.set_cons_succ]
      rfl
    refine take_ (i := 2) (N := some 13) (v := ?_) (a' := ?_) #[true, true, true, false, false, false, false, false, false, false] rfl rfl (by kernel_rfl) (fun _ _ _ h => h) (Or.inl ⟨by rfl, ?_⟩) hHeld ?_ ?_
    rotate_left
    · rintro w' ⟨s0, s1, s2, s3, s4, s5, s6, s7, s8, s9⟩
      go_simp
      with_reducible rfl
    rotate_left
    · simp only [Act.put, List.setIfInBounds_toArray, List.set_cons_zero, List.set_cons_succ]
      rfl
    refine take_ (i := 3) (N := some 14) (v := ?_) (a' := ?_) #[true, true, true, true, false, false, false, false, false, false] rfl rfl (by kernel_rfl) (fun _ _ _ h => h) (Or.inl ⟨by rfl, ?_⟩) hHeld ?_ ?_
    rotate_left
    · rintro w' ⟨s0, s1, s2, s3, s4, s5, s6, s7, s8, s9⟩
      go_simp
      with_reducible rfl
    rotate_left
    · simp only [Act.put, List.setIfInBounds_toArray, List.set_cons_zero, List.set_cons_succ]
      rfl
    refine take_ (i := 4) (N := some 15) (v := ?_) (a' := ?_) #[true, true, true, true, true, false, false, false, false, false] rfl rfl (by kernel_rfl) (fun _ _ _ h => h) (Or.inl ⟨by rfl, ?_⟩) hHeld ?_ ?_
    rotate_left
    · rintro w' ⟨s0, s1, s2, s3, s4, s5, s6, s7, s8, s9⟩
      go_simp
      with_reducible rfl
    rotate_left
    · simp only [Act.put, List.setIfInBounds_toArray, List.set_cons_zero, List.set_cons_succ]
      rfl
    refine take_ (i := 5) (N := some 16) (v := ?_) (a' := ?_) #[true, true, true, true, true, true, false, false, false, false] rfl rfl (by kernel_rfl) (fun _ _ _ h => h) (Or.inl ⟨by rfl, ?_⟩) hHeld ?_ ?_
    rotate_left
    · rintro w' ⟨s0, s1, s2, s3, s4, s5, s6, s7, s8, s9⟩
      go_simp
      with_reducible rfl
    rotate_left
    · simp only [Act.put, List.setIfInBounds_toArray, List.set_cons_zero, List.set_cons_succ]
      rfl
    refine one_ (i := 6) (N := some 17) #[true, true, true, true, true, true, true, false, false, false] rfl rfl (by kernel_rfl) (by decide) (fun K hK => ?_)
    go_simp
    refine (part_calls A0 c0 l0 A1 c1 l1 A2 c2 l2 fr at_ w.drew (Kd.C_below HR0.out ⟨rfl, rfl, rfl, Nat.le_refl _, fun _ _ => rfl⟩) hc0 (Kd.C_below HR1.out ⟨rfl, rfl, rfl, Nat.le_refl _, fun _ _ => rfl⟩) hc1 (Kd.C_below HR2.out ⟨rfl, rfl, rfl, Nat.le_refl _, fun _ _ => rfl⟩) hc2 h1 h2 h3 g1 g2 g3 k0 k1 k2).mono ?_
    rintro e w1 ⟨x, rfl, hxp, hxM, hxN, hbp⟩
    have hh1 : (fun w' : World => w'.cell? ⟨B, 0, none⟩ = some (.slice A0 l0.length c0) ∧ w'.cell? ⟨B + 1, 0, none⟩ = some (.slice A1 l1.length c1) ∧ w'.cell? ⟨B + 2, 0, none⟩ = some (.slice A2 l2.length c2) ∧ w'.cell? ⟨B + 3, 0, none⟩ = some lv ∧ w'.cell? ⟨B + 4, 0, none⟩ = some (.int .i64 (at_.1 : Int)) ∧ w'.cell? ⟨B + 4, 1, none⟩ = some (.int .i64 (at_.2.1 : Int)) ∧ w'.cell? ⟨B + 4, 2, none⟩ = some (.int .i64 (at_.2.2 : Int)) ∧ w'.cell? ⟨B + 5, 0, none⟩ = some (.int .i64 (fr.1 : Int)) ∧ w'.cell? ⟨B + 5, 1, none⟩ = some (.int .i64 (fr.2.1 : Int)) ∧ w'.cell? ⟨B + 5, 2, none⟩ = some (.int .i64 (fr.2.2 : Int))) w1 := ⟨(hbp.cell (by first | (simp; done) | (simp; omega))).trans k00, (hbp.cell (by first | (simp; done) | (simp; omega))).trans k10, (hbp.cell (by first | (simp; done) | (simp; omega))).trans k20, (hbp.cell (by first | (simp; done) | (simp; omega))).trans k30, (hbp.cell (by first | (simp; done) | (simp; omega))).trans k40, (hbp.cell (by first | (simp; done) | (simp; omega))).trans k41, (hbp.cell (by first | (simp; done) | (simp; omega))).trans k42, (hbp.cell (by first | (simp; done) | (simp; omega))).trans k50, (hbp.cell (by first | (simp; done) | (simp; omega))).trans k51, (hbp.cell (by first | (simp; done) | (simp; omega))).trans k52⟩
    have HXP := Lib.hid hxp
    have HXM := Lib.hid hxM
    have HXN := Lib.hid hxN
    have HBp := Lib.hid hbp
    clear hxp hxM hxN hbp
    refine hK.out _ _ hh1 (fun hHeld => ?_)
    clear hK K
    try simp only [Act.put, List.setIfInBounds_toArray, List.set_cons_zero, List.set_cons_succ]
    refine one_ (i := 7) (N := some 18) #[true, true, true, true, true, true, true, true, false, false] rfl rfl (by kernel_rfl) (by decide) (fun K hK => ?_)
    go_simp
    have hh2 : (fun w' : World => w'.cell? ⟨B, 0, none⟩ = some (.slice A0 l0.length c0) ∧ w'.cell? ⟨B + 1, 0, none⟩ = some (.slice A1 l1.length c1) ∧ w'.cell? ⟨B + 2, 0, none⟩ = some (.slice A2 l2.length c2) ∧ w'.cell? ⟨B + 3, 0, none⟩ = some lv ∧ w'.cell? ⟨B + 4, 0, none⟩ = some (.int .i64 (at_.1 : Int)) ∧ w'.cell? ⟨B + 4, 1, none⟩ = some (.int .i64 (at_.2.1 : Int)) ∧ w'.cell? ⟨B + 4, 2, none⟩ = some (.int .i64 (at_.2.2 : Int)) ∧ w'.cell? ⟨B + 5, 0, none⟩ = some (.int .i64 (fr.1 : Int)) ∧ w'.cell? ⟨B + 5, 1, none⟩ = some (.int .i64 (fr.2.1 : Int)) ∧ w'.cell? ⟨B + 5, 2, none⟩ = some (.int .i64 (fr.2.2 : Int))) (w1.alloc (.cells #[.bool false, x.v1, x.v2, x.v3] 42)) := ⟨(World.cell?_alloc_some _ _ _ (by rw [hh1.1]; rfl)).trans hh1.1, (World.cell?_alloc_some _ _ _ (by rw [hh1.2.1]; rfl)).trans hh1.2.1, (World.cell?_alloc_some _ _ _ (by rw [hh1.2.2.1]; rfl)).trans hh1.2.2.1, (World.cell?_alloc_some _ _ _ (by rw [hh1.2.2.2.1]; rfl)).trans hh1.2.2.2.1, (World.cell?_alloc_some _ _ _ (by rw [hh1.2.2.2.2.1]; rfl)).trans hh1.2.2.2.2.1, (World.cell?_alloc_some _ _ _ (by rw [hh1.2.2.2.2.2.1]; rfl)).trans hh1.2.2.2.2.2.1, (World.cell?_alloc_some _ _ _ (by rw [hh1.2.2.2.2.2.2.1]; rfl)).trans hh1.2.2.2.2.2.2.1, (World.cell?_alloc_some _ _ _ (by rw [hh1.2.2.2.2.2.2.2.1]; rfl)).trans hh1.2.2.2.2.2.2.2.1, (World.cell?_alloc_some _ _ _ (by rw [hh1.2.2.2.2.2.2.2.2.1]; rfl)).trans hh1.2.2.2.2.2.2.2.2.1, (World.cell?_alloc_some _ _ _ (by rw [hh1.2.2.2.2.2.2.2.2.2]; rfl)).trans hh1.2.2.2.2.2.2.2.2.2⟩
    refine hK.out _ _ hh2 (fun hHeld => ?_)
    clear hK K
    refine one_ (i := 8) (N := some 19) #[true, true, true, true, true, true, true, true, true, false] rfl rfl (by kernel_rfl) (by decide) (fun K hK => ?_)
    refine Kd.R_append_step kP (w0 := w) (B + 6) (by rfl) (.tmp 11) (.tmp 18) 39 42 (.agg #[.bool false, .slice none 0 0, .slice none 0 0, .slice none 0 0]) 80 (by rfl) Try.underlying39 infoP rfl (by decide) (by omega) lv xs x [.bool false, x.v1, x.v2, x.v3] ok (fun k => k ∈ x.bl) (by rfl) (by rfl)
      (kP.M_lower hs HXM.out) (fun k hk => ⟨HF.out k (HXN.out.2 k hk).1, fun e => by have h1 := own_lt' HL.out k e.symm; have h2 := (HXN.out.2 k hk).1; simp at h2; omega⟩) (fun k hk => HF.out k (by have := HBp.out.size; simp at this; omega))
      (Kd.R_below HL.out ((drewn w).trans HBp.out)) (((drewn w).trans HBp.out).mono hs) (by have := HBp.out.size; simp at this; omega) (by omega) ?_
    intro lv' w2 ho hb2 hg hat
    obtain ⟨A9, c9, rfl⟩ := Kd.R_slice ho
    have hh3 : (fun w' : World => w'.cell? ⟨B, 0, none⟩ = some (.slice A0 l0.length c0) ∧ w'.cell? ⟨B + 1, 0, none⟩ = some (.slice A1 l1.length c1) ∧ w'.cell? ⟨B + 2, 0, none⟩ = some (.slice A2 l2.length c2) ∧ w'.cell? ⟨B + 3, 0, none⟩ = some lv ∧ w'.cell? ⟨B + 4, 0, none⟩ = some (.int .i64 (at_.1 : Int)) ∧ w'.cell? ⟨B + 4, 1, none⟩ = some (.int .i64 (at_.2.1 : Int)) ∧ w'.cell? ⟨B + 4, 2, none⟩ = some (.int .i64 (at_.2.2 : Int)) ∧ w'.cell? ⟨B + 5, 0, none⟩ = some (.int .i64 (fr.1 : Int)) ∧ w'.cell? ⟨B + 5, 1, none⟩ = some (.int .i64 (fr.2.1 : Int)) ∧ w'.cell? ⟨B + 5, 2, none⟩ = some (.int .i64 (fr.2.2 : Int))) w2 := ⟨(hb2.cell (by first | (simp; done) | (simp; omega))).trans k00, (hb2.cell (by first | (simp; done) | (simp; omega))).trans k10, (hb2.cell (by first | (simp; done) | (simp; omega))).trans k20, (hb2.cell (by first | (simp; done) | (simp; omega))).trans k30, (hb2.cell (by first | (simp; done) | (simp; omega))).trans k40, (hb2.cell (by first | (simp; done) | (simp; omega))).trans k41, (hb2.cell (by first | (simp; done) | (simp; omega))).trans k42, (hb2.cell (by first | (simp; done) | (simp; omega))).trans k50, (hb2.cell (by first | (simp; done) | (simp; omega))).trans k51, (hb2.cell (by first | (simp; done) | (simp; omega))).trans k52⟩
    have hf2 : w2.frozen? ⟨B + 3, 0, none⟩ = false := by rw [hb2.frozen (by first | (simp; done) | (simp; omega))]; exact k3f
    have HO := Lib.hid ho
    have HB2 := Lib.hid hb2
    have HG := Lib.hid hg
    clear ho hb2 hg hat
    refine hK.out _ _ hh3 (fun hHeld => ?_)
    clear hK K hh1 hh2
    try simp only [Act.put, List.setIfInBounds_toArray, List.set_cons_zero, List.set_cons_succ]
    refine last_ (i := 9) (N := none) #[true, true, true, true, true, true, true, true, true, true] rfl rfl (by kernel_rfl) (by decide) (fun K hK => ?_)
    have hc32 := hh3.2.2.2.1
    clear hh3 hHeld
    go_simp
    refine hK.out _ _ ?_
    clear hK K
    refine done_ (by kernel_rfl) ?_
    refine NoPanic.normal ?_
    all_goals
      go_end0
      have hd := fast_done hs hlt HXP.out HXN.out HBp.out HO.out HB2.out HG.out HL.out HBX.out HN.out (.tuple #[])
      rw [List.length_append, List.length_singleton] at hd
      exact hd
  · have hlt' : decide ((fr.1 : Int) < (at_.1 : Int)) = false := by simp; omega
    go_wp2_with fail
    go_end0
    exact fast_none hlt HL.out HBX.out HN.out _
end Go.Proofs.Ythghpmnbnfbheaa.ThreeString
end

section
namespace Go.Proofs.Ythghpmnbnfbheaa.ThreeString
open Go.RowKit Go.Proofs.Ythghpmnbnfbheaa.PRef Go.Proofs.YthghpmnbnfbheaaW.PrintWords Go.Proofs.YthghpmnbnfbheaaW.PrintLast Go.Proofs.YthghpmnbnfbheaaW.PrintMore
set_option linter.unusedSimpArgs false
set_option linter.unusedVariables false
attribute [local go_sem] Oper.semAt_some

theorem eqPl (d : Nat) (w : World) (x0 y0 : Int) (x1 y1 : Int) (x2 y2 : Int) :
    (Op.equalIn (d + 2) 56 (.agg #[.int .i64 x0, .int .i64 x1, .int .i64 x2]) (.agg #[.int .i64 y0, .int .i64 y1, .int .i64 y2])).run Try.prog w = .ok (x0 == y0 && (x1 == y1 && (x2 == y2))) w := by
  refine eqA_of Try.underlying56 (by kernel_rfl) ?_
  refine eqf_cons (by rfl) (by go_simp; rfl) (by go_simp; rfl) (by go_simp) ?_
  refine eqf_cons (by rfl) (by go_simp; rfl) (by go_simp; rfl) (by go_simp) ?_
  exact eqf_last (by rfl) (by go_simp; rfl) (by go_simp; rfl) (by go_simp)
def Hold (p : Prop) : Prop := p
theorem Hold.of {p : Prop} (h : Hold p) : p := h
theorem Hold.mk {p : Prop} (h : p) : Hold p := h
/-- The greatest of three, kept whole (no case split in the walk). -/
def mx3 (x y z : Int) : Int := if (if x < y then y else x) < z then z else (if x < y then y else x)
theorem max3 (k k' k'' : IntKind) (ats : Array TypeId) (ty : TypeId) (x y z : Int) : Builtin.max_ ats ty #[.int k x, .int k' y, .int k'' z] = pure (.int k (mx3 x y z)) := by
  simp only [max_three, max2_int, pure_bind, mx3]
theorem bytes_inj {a b : ByteArray} (h : a.toList = b.toList) : a = b := by
  rw [ByteArray.toList_eq, ByteArray.toList_eq] at h
  cases a
  cases b
  simp at h
  rw [h]
theorem eqAt (a b : List ByteArray) (i : Nat) (h1 : i < a.length) (h2 : i < b.length) : ((rdOf ByteArray.empty a (i : Int)).toList = (rdOf ByteArray.empty b (i : Int)).toList) ↔ a[i] = b[i] := by
  simp only [rdOf, List.getD_eq_getElem?_getD, Int.toNat_natCast, List.getElem?_eq_getElem h1, List.getElem?_eq_getElem h2, Option.getD_some]
  exact ⟨bytes_inj, fun h => by rw [h]⟩
/-- slices.Equal, plainly. -/
theorem equal_ev (a b : List ByteArray) (h : a.length ≤ 1000000) (h' : b.length ≤ 1000000) : ∃ k, slices_Equal_string_string.f k a b = some (decide (a = b)) := by
  by_cases hl : a.length = b.length
  · have key : ∀ (d i : Nat), i + d = a.length → ∀ k, d < k → slices_Equal_string_string.l0 k a b (a.length : Int) (i : Int) = some (decide (a.drop i = b.drop i)) := by
      intro d
      induction d with
      | zero =>
        intro i hi k hk
        obtain ⟨k, rfl⟩ : ∃ m, k = m + 1 := ⟨k - 1, by omega⟩
        simp only [slices_Equal_string_string.l0]
        rw [if_neg (by omega), List.drop_eq_nil_of_le (by omega), List.drop_eq_nil_of_le (by omega)]
        simp
      | succ d ih =>
        intro i hi k hk
        obtain ⟨k, rfl⟩ : ∃ m, k = m + 1 := ⟨k - 1, by omega⟩
        simp only [slices_Equal_string_string.l0]
        have h1 : i < a.length := by omega
        have h2 : i < b.length := by omega
        rw [if_pos (by omega), if_pos (by omega), if_pos (by omega), if_pos (by omega), List.drop_eq_getElem_cons h1, List.drop_eq_getElem_cons h2]
        have hw : wrap64 ((i : Int) + 1) = ((i + 1 : Nat) : Int) := by unfold wrap64; omega
        have hc := eqAt a b i h1 h2
        by_cases he : a[i] = b[i]
        · rw [if_pos (hc.2 he), hw, ih (i + 1) (by omega) k (by omega)]
          exact congrArg some (decide_eq_decide.2 ⟨fun h => by rw [he, h], fun h => (List.cons.inj h).2⟩)
        · rw [if_neg (fun e => he (hc.1 e)), decide_eq_false (fun e => he (List.cons.inj e).1)]
    refine ⟨a.length + 1, ?_⟩
    unfold slices_Equal_string_string.f
    rw [if_pos (by omega)]
    have := key a.length 0 (by omega) (a.length + 1) (by omega)
    simpa using this
  · refine ⟨0, ?_⟩
    unfold slices_Equal_string_string.f
    rw [if_neg (by omega), decide_eq_false (fun e => hl (by rw [e]))]
theorem equal_calls (A B : Option Addr) (c d : Nat) (a b : List ByteArray) (w : World) (ha : Kd.C Kd.string w A a.length a) (hc : a.length ≤ c) (hb : Kd.C Kd.string w B b.length b) (hd : b.length ≤ d) (h : a.length ≤ 1000000) (h' : b.length ≤ 1000000) (r : Bool) (hr : r = decide (a = b)) :
    Calls Try.prog 37 #[.slice A a.length c, .slice B b.length d] w fun e w' => e = .returned (.bool r) ∧ ∃ n, w' = w.drewN n := by
  obtain ⟨k, hk⟩ := equal_ev a b h h'
  subst hr
  exact (slices_Equal_string_string.calls k A c a B d b _ w ha hc hb hd hk).mono fun e w' ⟨he, hw⟩ => ⟨he, hw.out⟩

theorem parts_len (l0 l1 l2 : List ByteArray) : (Three.parts l0 l1 l2).length ≤ 2 * l0.length + 3 := by
  unfold Three.parts
  have h1 := Three.partsGo_length l0 l1 l2 (Three.stand l0 l1 l2 ++ [(l0.length, l1.length, l2.length)]) (0, 0, 0) (0, 0, 0)
  have h2 := Three.stand_length l0 l1 l2
  rw [List.length_append] at h1
  simp at h1
  omega
theorem alloc_drewN (w : World) (n : Nat) (o : Obj) : (w.drewN n).alloc o = (w.alloc o).drewN n := rfl
theorem setCell_drewN' (w : World) (n : Nat) (a : Addr) (v : Value) : (w.drewN n).setCell a v = (w.setCell a v).drewN n := by
  unfold World.setCell World.drewN
  split <;> rfl
/-- What is still to come lies ahead. -/
def Ahead (l0 l1 l2 : List ByteArray) (at_ : Three.Pl) (rest : List Three.Pl) : Prop :=
  rest = [] ∨ ∃ ps, rest = ps ++ [(l0.length, l1.length, l2.length)] ∧ Three.Good3 l0 l1 l2 at_.1 at_.2.1 at_.2.2 ps ∧ at_.1 ≤ l0.length ∧ at_.2.1 ≤ l1.length ∧ at_.2.2 ≤ l2.length
def Le3 (p q : Three.Pl) : Prop := p.1 ≤ q.1 ∧ p.2.1 ≤ q.2.1 ∧ p.2.2 ≤ q.2.2
theorem Ahead.next {l0 l1 l2 : List ByteArray} {at_ p : Three.Pl} {rest : List Three.Pl} (h : Ahead l0 l1 l2 at_ (p :: rest)) :
    Le3 at_ p ∧ Le3 p (l0.length, l1.length, l2.length) ∧ Ahead l0 l1 l2 (Three.nx p) rest := by
  rcases h with h | ⟨ps, e, hg, h1, h2, h3⟩
  · cases h
  · cases ps with
    | nil =>
      simp only [List.nil_append, List.cons.injEq] at e
      obtain ⟨rfl, rfl⟩ := e
      exact ⟨⟨h1, h2, h3⟩, ⟨Nat.le_refl _, Nat.le_refl _, Nat.le_refl _⟩, .inl rfl⟩
    | cons q qs =>
      simp only [List.cons_append, List.cons.injEq] at e
      obtain ⟨rfl, rfl⟩ := e
      obtain ⟨p0, p1, p2⟩ := p
      obtain ⟨g1, g2, g3, ⟨x, x1, x2, x3⟩, g4⟩ := hg
      have y1 := (List.getElem?_eq_some_iff.1 x1).1
      have y2 := (List.getElem?_eq_some_iff.1 x2).1
      have y3 := (List.getElem?_eq_some_iff.1 x3).1
      exact ⟨⟨g1, g2, g3⟩, ⟨Nat.le_of_lt y1, Nat.le_of_lt y2, Nat.le_of_lt y3⟩, .inr ⟨qs, rfl, g4, y1, y2, y3⟩⟩
/-- What holds of memory at the head of the loop. -/
structure Mem (B : Nat) (w0 : World) (V0 V1 V2 lv : Value) (at_ fr : Three.Pl) (A3 : Option Addr) (c3 : Nat) (qs : List Three.Pl) (xs : List PV) (w : World) : Prop where
  bx : Bx w B V0 V1 V2 lv at_ fr
  row : Kd.R kP 42 w (B + 6) (fun k => some k ≠ (Value.slice A3 qs.length c3).ownBlock) lv xs
  pls : Kd.R k56 56 w (B + 6) (fun _ => True) (.slice A3 qs.length c3) (qs.map pl)
  bl : (bls xs).Nodup
  sz : B + 6 ≤ w.heap.size
  below : Below B w0 w
theorem heap_alloc (w : World) (o : Obj) (k : Nat) : (w.alloc o).heap[k]? = if k = w.heap.size then some o else w.heap[k]? := by
  unfold World.alloc
  exact Array.getElem?_push
theorem mem_start {w w1 : World} {V0 V1 V2 : Value} {A3 : Option Addr} {c3 : Nat} {qs : List Three.Pl} {W6 : World} (hW : W6 = (((((w.alloc (.cells #[V0] 29)).alloc (.cells #[V1] 29)).alloc (.cells #[V2] 29)).alloc (.cells #[.slice none 0 0] 39)).alloc (.cells #[.int .i64 0, .int .i64 0, .int .i64 0] 56)).alloc (.cells #[.int .i64 0, .int .i64 0, .int .i64 0] 56))
    (hb : Below W6.heap.size W6 w1) (ho : Kd.R k56 56 w1 W6.heap.size (fun _ => True) (.slice A3 qs.length c3) (qs.map pl)) : Mem w.heap.size w V0 V1 V2 (.slice none 0 0) (0, 0, 0) (0, 0, 0) A3 c3 qs [] w1 := by
  have hs : W6.heap.size = w.heap.size + 6 := by rw [hW]; simp
  have hz : w.heap.size + 6 ≤ w1.heap.size := by have := hb.size; omega
  refine ⟨⟨⟨?_, ?_, ?_⟩, ?_, ?_, ?_⟩, Kd.R_nil _ _ _ _ _, by rw [← hs]; exact ho, List.nodup_nil, hz, ?_⟩
  · rw [hb.block _ (by omega), hW]; rw [heap_alloc, if_neg (by first | (simp; done) | (simp; omega))]; rw [heap_alloc, if_neg (by first | (simp; done) | (simp; omega))]; rw [heap_alloc, if_neg (by first | (simp; done) | (simp; omega))]; rw [heap_alloc, if_neg (by first | (simp; done) | (simp; omega))]; rw [heap_alloc, if_neg (by first | (simp; done) | (simp; omega))]; rw [heap_alloc, if_pos (by first | (simp; done) | (simp; omega))]
  · rw [hb.block _ (by omega), hW]; rw [heap_alloc, if_neg (by first | (simp; done) | (simp; omega))]; rw [heap_alloc, if_neg (by first | (simp; done) | (simp; omega))]; rw [heap_alloc, if_neg (by first | (simp; done) | (simp; omega))]; rw [heap_alloc, if_neg (by first | (simp; done) | (simp; omega))]; rw [heap_alloc, if_pos (by first | (simp; done) | (simp; omega))]
  · rw [hb.block _ (by omega), hW]; rw [heap_alloc, if_neg (by first | (simp; done) | (simp; omega))]; rw [heap_alloc, if_neg (by first | (simp; done) | (simp; omega))]; rw [heap_alloc, if_neg (by first | (simp; done) | (simp; omega))]; rw [heap_alloc, if_pos (by first | (simp; done) | (simp; omega))]
  · rw [hb.block _ (by omega), hW]; rw [heap_alloc, if_neg (by first | (simp; done) | (simp; omega))]; rw [heap_alloc, if_neg (by first | (simp; done) | (simp; omega))]; rw [heap_alloc, if_pos (by first | (simp; done) | (simp; omega))]
  · rw [hb.block _ (by omega), hW]; rw [heap_alloc, if_neg (by first | (simp; done) | (simp; omega))]; rw [heap_alloc, if_pos (by first | (simp; done) | (simp; omega))]; rfl
  · rw [hb.block _ (by omega), hW]; rw [heap_alloc, if_pos (by first | (simp; done) | (simp; omega))]; rfl
  · refine Below.trans (b := W6) ?_ (hb.mono (by omega))
    rw [hW]
    repeat (first | exact Below.refl _ _ | apply below_alloc)
section
variable {B : Nat} {w0 w w' : World} {V0 V1 V2 lv : Value} {at_ fr : Three.Pl} {A3 : Option Addr} {c3 : Nat} {qs : List Three.Pl} {xs : List PV}
/-- Memory is made, and read. -/
theorem Mem.made (h : Mem B w0 V0 V1 V2 lv at_ fr A3 c3 qs xs w) (hb : Below w.heap.size w w') : Mem B w0 V0 V1 V2 lv at_ fr A3 c3 qs xs w' := by
  obtain ⟨⟨⟨e0, e1, e2⟩, e3, e4, e5⟩, hr, hp, hn, hs, hB⟩ := h
  refine ⟨⟨⟨?_, ?_, ?_⟩, ?_, ?_, ?_⟩, Kd.R_below hr hb, Kd.R_below hp hb, hn, Nat.le_trans hs hb.size, hB.trans (hb.mono (by omega))⟩
  · rw [hb.block _ (by omega)]; exact e0
  · rw [hb.block _ (by omega)]; exact e1
  · rw [hb.block _ (by omega)]; exact e2
  · rw [hb.block _ (by omega)]; exact e3
  · rw [hb.block _ (by omega)]; exact e4
  · rw [hb.block _ (by omega)]; exact e5
theorem block_set {W : World} {b t j : Nat} {cs : Array Value} {v : Value} (h : W.heap[b]? = some (.cells cs t (0, 0))) : (W.setCell ⟨b, j, none⟩ v).heap[b]? = some (.cells (cs.setIfInBounds j v) t (0, 0)) := by
  have hlt := lt_of_block h
  have h' : W.heap[b] = .cells cs t (0, 0) := by simpa [Array.getElem?_eq_getElem hlt] using h
  show (W.heap.modify b _)[b]? = _
  rw [Array.getElem?_eq_getElem (by simpa using hlt), Array.getElem_modify_self, h']
  rfl
/-- A cell of a box of three. -/
theorem three_set {W : World} {b t : Nat} {u0 u1 u2 v0 v1 v2 : Value} (h : W.heap[b]? = some (.cells #[u0, u1, u2] t (0, 0))) :
    (((W.setCell ⟨b, 0, none⟩ v0).setCell ⟨b, 1, none⟩ v1).setCell ⟨b, 2, none⟩ v2).heap[b]? = some (.cells #[v0, v1, v2] t (0, 0)) := block_set (block_set (block_set h))
theorem three_far {W : World} {b k : Nat} {v0 v1 v2 : Value} (h : k ≠ b) : (((W.setCell ⟨b, 0, none⟩ v0).setCell ⟨b, 1, none⟩ v1).setCell ⟨b, 2, none⟩ v2).heap[k]? = W.heap[k]? := by
  rw [Below.heap_setCell _ _ _ _ h, Below.heap_setCell _ _ _ _ h, Below.heap_setCell _ _ _ _ h]
theorem three_below {W : World} {b : Nat} {v0 v1 v2 : Value} : Below b W (((W.setCell ⟨b, 0, none⟩ v0).setCell ⟨b, 1, none⟩ v1).setCell ⟨b, 2, none⟩ v2) :=
  (((Below.refl _ _).setCell (by exact Nat.le_refl _) _).setCell (by exact Nat.le_refl _) _).setCell (by exact Nat.le_refl _) _
/-- A box that is none of the rows is written. -/
theorem R_three {α : Type} {d : Kd α} {e : Nat} {base : Nat} {ok : Nat → Prop} {v : Value} {xs : List α} {W : World} {b : Nat} {v0 v1 v2 : Value} (h : Kd.R d e W base ok v xs) (hb : b < base) :
    Kd.R d e (((W.setCell ⟨b, 0, none⟩ v0).setCell ⟨b, 1, none⟩ v1).setCell ⟨b, 2, none⟩ v2) base ok v xs :=
  Kd.R_mono (Kd.R_move (Kd.R_bound h) (fun k hk => three_far (by have := hk.2.1; omega))) (fun _ hk => hk.1)
theorem Mem.setAt (h : Mem B w0 V0 V1 V2 lv at_ fr A3 c3 qs xs w) (p : Three.Pl) {u0 u1 u2 : Value} (q0 : u0 = .int .i64 (p.1 : Int)) (q1 : u1 = .int .i64 (p.2.1 : Int)) (q2 : u2 = .int .i64 (p.2.2 : Int)) :
    Mem B w0 V0 V1 V2 lv p fr A3 c3 qs xs (((w.setCell ⟨B + 4, 0, none⟩ u0).setCell ⟨B + 4, 1, none⟩ u1).setCell ⟨B + 4, 2, none⟩ u2) := by
  obtain ⟨⟨⟨e0, e1, e2⟩, e3, e4, e5⟩, hr, hp, hn, hs, hB⟩ := h
  subst q0 q1 q2
  refine ⟨⟨⟨?_, ?_, ?_⟩, ?_, ?_, ?_⟩, R_three hr (by omega), R_three hp (by omega), hn, by simpa using hs, hB.trans (three_below.mono (by omega))⟩
  · rw [three_far (by omega)]; exact e0
  · rw [three_far (by omega)]; exact e1
  · rw [three_far (by omega)]; exact e2
  · rw [three_far (by omega)]; exact e3
  · exact three_set e4
  · rw [three_far (by omega)]; exact e5
theorem Mem.setFr (h : Mem B w0 V0 V1 V2 lv at_ fr A3 c3 qs xs w) (p : Three.Pl) {u0 u1 u2 : Value} (q0 : u0 = .int .i64 (p.1 : Int)) (q1 : u1 = .int .i64 (p.2.1 : Int)) (q2 : u2 = .int .i64 (p.2.2 : Int)) :
    Mem B w0 V0 V1 V2 lv at_ p A3 c3 qs xs (((w.setCell ⟨B + 5, 0, none⟩ u0).setCell ⟨B + 5, 1, none⟩ u1).setCell ⟨B + 5, 2, none⟩ u2) := by
  obtain ⟨⟨⟨e0, e1, e2⟩, e3, e4, e5⟩, hr, hp, hn, hs, hB⟩ := h
  subst q0 q1 q2
  refine ⟨⟨⟨?_, ?_, ?_⟩, ?_, ?_, ?_⟩, R_three hr (by omega), R_three hp (by omega), hn, by simpa using hs, hB.trans (three_below.mono (by omega))⟩
  · rw [three_far (by omega)]; exact e0
  · rw [three_far (by omega)]; exact e1
  · rw [three_far (by omega)]; exact e2
  · rw [three_far (by omega)]; exact e3
  · rw [three_far (by omega)]; exact e4
  · exact three_set e5
/-- Behind fast. -/
theorem Mem.fast {l0 l1 l2 : List ByteArray} {e : Ending} (h : Mem B w0 V0 V1 V2 lv at_ fr A3 c3 qs xs w) (hf : FastPost B V0 V1 V2 lv l0 l1 l2 at_ fr (fun k => some k ≠ (Value.slice A3 qs.length c3).ownBlock) xs w e w') :
    ∃ lv' xs' v, e = .returned v ∧ Mem B w0 V0 V1 V2 lv' at_ fr A3 c3 qs xs' w' ∧ xs'.map PV.p = xs.map PV.p ++ Three.fast l0 l1 l2 fr at_ ∧ Keep B lv w w' := by
  obtain ⟨lv', v, xs', rfl, hbx, hr', hx, hn', hK, hKb⟩ := hf
  obtain ⟨⟨⟨e0, e1, e2⟩, e3, e4, e5⟩, hr, hp, hn, hs, hB⟩ := h
  refine ⟨lv', xs', v, rfl, ⟨hbx, hr', ?_, hn', Nat.le_trans hs hK.size, hB.trans (hK.mono (by omega))⟩, hx, hK, hKb⟩
  refine Kd.R_mono (Kd.R_move (Kd.R_bound (?_ : Kd.R k56 56 w (B + 6) (fun k => some k = (Value.slice A3 qs.length c3).ownBlock) _ _)) (fun k hk => ?_)) (fun _ _ => trivial)
  · obtain ⟨h0, inner, ho, hi⟩ := hp
    exact ⟨fun k e => e.symm, inner, ho, hi.imp_ (fun _ _ h => h)⟩
  · refine hKb k hk.2.2.1 (by have := hk.2.1; omega) (fun e => ?_)
    exact hr.1 k e.symm hk.1
/-- Behind the append, and the store of what it gave. -/
theorem Mem.push {W w5 : World} {lv2 : Value} {y : PV} (h : Mem B w0 V0 V1 V2 lv at_ fr A3 c3 qs xs w) (hW : Below w.heap.size w W) (ho : Kd.R kP 42 w5 (B + 6) (fun k => some k ≠ (Value.slice A3 qs.length c3).ownBlock) lv2 (xs ++ [y])) (hb : Below (B + 6) w w5) (hg : W.grownBy w5 lv.ownBlock)
    (hy : (bls (xs ++ [y])).Nodup) : Mem B w0 V0 V1 V2 lv2 at_ fr A3 c3 qs (xs ++ [y]) (w5.setCell ⟨B + 3, 0, none⟩ lv2) := by
  obtain ⟨⟨⟨e0, e1, e2⟩, e3, e4, e5⟩, hr, hp, hn, hs, hB⟩ := h
  have far : ∀ k, k < B + 6 → k ≠ B + 3 → (w5.setCell ⟨B + 3, 0, none⟩ lv2).heap[k]? = w.heap[k]? := fun k hk hne =>
    (Below.heap_setCell w5 ⟨B + 3, 0, none⟩ lv2 k hne).trans (hb.block k hk)
  have h3 : w5.heap[B + 3]? = some (.cells #[lv] 39 (0, 0)) := (hb.block (B + 3) (by omega)).trans e3
  refine ⟨⟨⟨?_, ?_, ?_⟩, ?_, ?_, ?_⟩, ?_, ?_, hy, ?_, ?_⟩
  · rw [far B (by omega) (by omega)]; exact e0
  · rw [far (B + 1) (by omega) (by omega)]; exact e1
  · rw [far (B + 2) (by omega) (by omega)]; exact e2
  · exact one_setCell h3
  · rw [far (B + 4) (by omega) (by omega)]; exact e4
  · rw [far (B + 5) (by omega) (by omega)]; exact e5
  · exact Kd.R_set ho h3 (by decide) 0 lv2
  · refine Kd.R_mono (Kd.R_move (Kd.R_bound (?_ : Kd.R k56 56 w (B + 6) (fun k => some k = (Value.slice A3 qs.length c3).ownBlock) _ _)) (fun k hk => ?_)) (fun _ _ => trivial)
    · obtain ⟨h0, inner, ho, hi⟩ := hp
      exact ⟨fun k e => e.symm, inner, ho, hi.imp_ (fun _ _ h => h)⟩
    · rw [Below.heap_setCell w5 ⟨B + 3, 0, none⟩ lv2 k (by have := hk.2.1; simp; omega), hg.block k (Nat.lt_of_lt_of_le hk.2.2.1 hW.size) (fun e => hr.1 k e.symm hk.1)]
      exact hW.block k hk.2.2.1
  · have := hb.size; simp; omega
  · exact hB.trans ((hb.mono (by omega)).setCell (by simp) _)
end
/-- append of a piece, behind draws. -/
theorem app_P {ops : Array Oper} {rest : List Oper} {o : Oper} {a : Act} {Q : Exit → Act → World → Prop} {w0 W W2 : World} {n : Nat} (B : Nat) (hgd : o.guard = none) (s x : Operand)
    (ho : o.op = .call { callee := .builtin .append, args := #[s, x], argTypes := #[39, 39] }) (cs : List Value) (hW : W2 = (W.drewN n).alloc (.cells cs.toArray 42))
    (lv : Value) (xs : List PV) (y : PV) (ok okp : Nat → Prop) (hs : a.eval s = lv) (hx : a.eval x = .slice (some ⟨W.heap.size, 0, none⟩) 1 1) (hp : kP.M W B okp y cs) (hokp : ∀ k, okp k → ok k ∧ some k ≠ lv.ownBlock) (hfresh : ∀ k, W.heap.size ≤ k → ok k)
    (HO : Kd.R kP 42 W B ok lv xs) (HB : Below B w0 W) (hbase : B ≤ W.heap.size) (hl : xs.length ≤ 1000000)
    (h : ∀ v1 w1, Kd.R kP 42 w1 B ok v1 (xs ++ [y]) → Below B w0 w1 → W.grownBy w1 lv.ownBlock → wpList Try.prog ops Q rest (a.put o.dst v1) w1) :
    wpList Try.prog ops Q (o :: rest) a W2 := by
  subst hW
  refine Kd.R_append kP (w0 := w0) (W := W.drewN n) B hgd s x 39 42 (.agg #[.bool false, .slice none 0 0, .slice none 0 0, .slice none 0 0]) 80 ho Try.underlying39 infoP rfl (by decide) (by omega) lv xs y cs ok okp hs hx
    (Kd.M_drewN hp n) hokp hfresh (Kd.R_drewN HO n) (pw_below_drewN HB n) hbase (by omega) ?_
  intro v1 w1 ho hb hg hat
  exact h v1 w1 ho hb ⟨hg.os, hg.tape, hg.output, hg.size, hg.block⟩
theorem loose_eq {l0 l1 l2 : List ByteArray} {at_ p : Three.Pl} {O P Q : List ByteArray} {t1 t2 t3 : Bool} (hO : O = Three.cut l0 at_.1 p.1) (hP : P = Three.cut l1 at_.2.1 p.2.1) (hQ : Q = Three.cut l2 at_.2.2 p.2.2) (h1 : t1 = decide (P = Q)) (h2 : t2 = decide (P = O)) (h3 : t3 = decide (Q = O)) :
    Three.loose l0 l1 l2 at_ p = ⟨!t1 && !t2 && !t3, O, P, Q⟩ := by
  unfold Three.loose Three.clash
  rw [h1, h2, h3, hO, hP, hQ]
def PartsPost (l0 l1 l2 : List ByteArray) (w : World) (e : Ending) (w' : World) : Prop :=
  ∃ (v : Value) (xs : List PV), e = .returned v ∧ Kd.R kP 42 w' w.heap.size (fun _ => True) v xs ∧ xs.map PV.p = Three.parts l0 l1 l2 ∧ (bls xs).Nodup ∧ Below w.heap.size w w'
set_option maxHeartbeats 8000000 in
set_option maxRecDepth 100000 in
attribute [local go_sem] max3 in
attribute [local go_sem high] eqPl in
attribute [local go_sem] alloc_drewN setCell_drewN' in
theorem parts_calls (k : Nat) (A0 : Option Addr) (c0 : Nat) (l0 : List ByteArray) (A1 : Option Addr) (c1 : Nat) (l1 : List ByteArray) (A2 : Option Addr) (c2 : Nat) (l2 : List ByteArray) (w : World)
    (hr0 : Kd.C Kd.string w A0 l0.length l0) (hc0 : l0.length ≤ c0) (hr1 : Kd.C Kd.string w A1 l1.length l1) (hc1 : l1.length ≤ c1) (hr2 : Kd.C Kd.string w A2 l2.length l2) (hc2 : l2.length ≤ c2) (k0 : l0.length ≤ 400) (k1 : l1.length ≤ 400) (k2 : l2.length ≤ 400)
    (qs : List Three.Pl) (hqs : qs = Three.stand l0 l1 l2 ++ [(l0.length, l1.length, l2.length)]) (hst : three_standing_string.f k l0 l1 l2 = some (qs.map pl)) :
    Calls Try.prog 21 #[.slice A0 l0.length c0, .slice A1 l1.length c1, .slice A2 l2.length c2] w (PartsPost l0 l1 l2 w) := by
  have HR0 := Lib.hid hr0
  have HR1 := Lib.hid hr1
  have HR2 := Lib.hid hr2
  have HST := Lib.hid hst
  have hm : decide ((400 : Int) < mx3 (l0.length : Int) (l1.length : Int) (l2.length : Int)) = false := by
    unfold mx3
    rw [decide_eq_false_iff_not]
    split <;> split <;> omega
  have hAh : Ahead l0 l1 l2 (0, 0, 0) qs := .inr ⟨_, hqs, Three.stand_good l0 l1 l2, Nat.zero_le _, Nat.zero_le _, Nat.zero_le _⟩
  have hQl : qs.length ≤ 401 := by rw [hqs]; have := Three.stand_length l0 l1 l2; simp; omega
  have hPt : Three.partsGo l0 l1 l2 qs (0, 0, 0) (0, 0, 0) = Three.parts l0 l1 l2 := by rw [hqs]; rfl
  have HAh := Lib.hid hAh
  have HPt := Lib.hid hPt
  have HQ := Lib.hid hqs
  clear hr0 hr1 hr2 hst hAh hPt hqs
  go_enter Try.func21, Try.ntmps21
  go_wp2_with (first
    | (go_at_call 36; (with_reducible refine (three_standing_string.calls k _ _ l0 _ _ l1 _ _ l2 (qs.map pl) _ ?s1 ?s2 ?s3 ?s4 ?s5 ?s6 HST.out).mono ?_); (case s1 => exact Kd.C_below HR0.out (by repeat (first | exact Below.refl _ _ | apply below_alloc))); (case s2 => exact hc0); (case s3 => exact Kd.C_below HR1.out (by repeat (first | exact Below.refl _ _ | apply below_alloc))); (case s4 => exact hc1); (case s5 => exact Kd.C_below HR2.out (by repeat (first | exact Below.refl _ _ | apply below_alloc))); (case s6 => exact hc2); rintro e w1 ⟨v1, rfl, ho1, hb1⟩; have HO1 := Lib.hid ho1; have HB1 := Lib.hid hb1; clear ho1 hb1; obtain ⟨A3, c3, e3⟩ := Kd.R_slice HO1.out; rw [List.length_map] at e3; subst e3))
  have hM := mem_start rfl HB1.out HO1.out
  have HM := Lib.hid hM
  clear hM HO1 HB1
  obtain ⟨B, hB⟩ : ∃ B, B = w.heap.size := ⟨_, rfl⟩
  rw [← hB] at HM ⊢
  have HBe := Lib.hid hB
  clear hB
  go_loopg [28] qs.length (fun g v28 w' => ∃ (i : Nat) (at_ fr : Three.Pl) (lv : Value) (xs : List PV), v28 = .int .i64 (i : Int) ∧ Hid (i + g = qs.length) ∧ Hid (Mem B w (.slice A0 l0.length c0) (.slice A1 l1.length c1) (.slice A2 l2.length c2) lv at_ fr A3 c3 qs xs w') ∧ Hid (Ahead l0 l1 l2 at_ (qs.drop i)) ∧ Hid (Le3 fr at_ ∧ Le3 fr (l0.length, l1.length, l2.length)) ∧ Hid (xs.map PV.p ++ Three.partsGo l0 l1 l2 (qs.drop i) at_ fr = Three.parts l0 l1 l2))
  case atStart => exact ⟨0, _, _, _, _, rfl, Lib.hid (by simp), HM, HAh, Lib.hid ⟨⟨Nat.le_refl _, Nat.le_refl _, Nat.le_refl _⟩, Nat.zero_le _, Nat.zero_le _, Nat.zero_le _⟩, HPt⟩
  case round =>
    clear HM HAh HPt
    obtain ⟨i, at_, fr, lv, xs, rfl, HI, HM, HAh, HLe, HPt⟩ := hrel
    by_cases hlt : i < qs.length
    · obtain ⟨p, hpq⟩ : ∃ p, qs[i] = p := ⟨_, rfl⟩
      have hdr : qs.drop i = p :: qs.drop (i + 1) := by rw [List.drop_eq_getElem_cons hlt, hpq]
      rw [hdr] at HAh HPt
      obtain ⟨hle1, hle2, hah'⟩ := HAh.out.next
      obtain ⟨ad, ead, hx0, hx1, hx2⟩ := at_T56 (Kd.R_reads' HM.out.pls).2.2 (i : Int) (by omega) (by simp; omega)
      subst ead
      have hz : rd_T56 (qs.map pl) (i : Int) = pl p := by unfold rd_T56; simp [hlt, hpq]
      have hx0 : wr.cell? (ad.add (i * 3)) = some (.int .i64 (p.1 : Int)) := by rw [hz] at hx0; simpa [pl] using hx0
      have hx1 : wr.cell? ⟨(ad.add (i * 3)).block, (ad.add (i * 3)).off + 1, none⟩ = some (.int .i64 (p.2.1 : Int)) := by rw [hz] at hx1; simpa [pl] using hx1
      have hx2 : wr.cell? ⟨(ad.add (i * 3)).block, (ad.add (i * 3)).off + 2, none⟩ = some (.int .i64 (p.2.2 : Int)) := by rw [hz] at hx2; simpa [pl] using hx2
      obtain ⟨⟨⟨b0, b1, b2⟩, b3, b4, b5⟩, -, -, -, -, -⟩ := HM.out
      have k40 : wr.cell? ⟨B + 1 + 1 + 1 + 1, 0, none⟩ = some (.int .i64 (at_.1 : Int)) := by simp [World.cell?, b4]
      have k41 : wr.cell? ⟨B + 1 + 1 + 1 + 1, 1, none⟩ = some (.int .i64 (at_.2.1 : Int)) := by simp [World.cell?, b4]
      have k42 : wr.cell? ⟨B + 1 + 1 + 1 + 1, 2, none⟩ = some (.int .i64 (at_.2.2 : Int)) := by simp [World.cell?, b4]
      have f40 : wr.frozen? ⟨B + 1 + 1 + 1 + 1, 0, none⟩ = false := by simp [World.frozen?, b4]
      have f41 : wr.frozen? ⟨B + 1 + 1 + 1 + 1, 1, none⟩ = false := by simp [World.frozen?, b4]
      have f42 : wr.frozen? ⟨B + 1 + 1 + 1 + 1, 2, none⟩ = false := by simp [World.frozen?, b4]
      have hsz : B + 6 ≤ wr.heap.size := HM.out.sz
      have z0 : B < wr.heap.size := by omega
      have z1 : B + 1 < wr.heap.size := by omega
      have z2 : B + 1 + 1 < wr.heap.size := by omega
      have z3 : B + 1 + 1 + 1 < wr.heap.size := by omega
      have z4 : B + 1 + 1 + 1 + 1 < wr.heap.size := by omega
      have z5 : B + 1 + 1 + 1 + 1 + 1 < wr.heap.size := by omega
      have q0 : (p.1 : Int) ≤ 400 := by have := hle2.1; simp at this; omega
      have q1 : (p.2.1 : Int) ≤ 400 := by have := hle2.2.1; simp at this; omega
      have q2 : (p.2.2 : Int) ≤ 400 := by have := hle2.2.2; simp at this; omega
      have HL1 := Lib.hid hle1
      have HL2 := Lib.hid hle2
      have HA' := Lib.hid hah'
      clear hle1 hle2 hah'
      clear b0 b1 b2 b3 b4 b5
      by_cases hp : p = at_
      · subst hp
        go_wp2_with fail
        go_roundg (qs.length - (i + 1))
        case measure => have := HI.out; omega
        case rel =>
          refine ⟨i + 1, Three.nx p, fr, lv, xs, by go_num, Lib.hid (by omega), Lib.hid ((HM.out.setAt (Three.nx p) rfl rfl rfl).made (below_alloc (Below.refl _ _) _)), HA', Lib.hid ⟨?_, HLe.out.2⟩, Lib.hid ?_⟩
          · obtain ⟨⟨h1, h2, h3⟩, _⟩ := HLe.out
            exact ⟨Nat.le_succ_of_le h1, Nat.le_succ_of_le h2, Nat.le_succ_of_le h3⟩
          · rw [← HPt.out, Three.partsGo, if_pos rfl]
      · have hne : ((p.1 : Int) == (at_.1 : Int) && ((p.2.1 : Int) == (at_.2.1 : Int) && ((p.2.2 : Int) == (at_.2.2 : Int)))) = false := by
          rw [Bool.eq_false_iff]
          intro h
          simp only [Bool.and_eq_true, beq_iff_eq] at h
          exact hp (Prod.ext (by omega) (Prod.ext (by omega) (by omega)))
        have HP := Lib.hid hp
        clear hp
        go_wp2_with fail
        have hM1 := HM.out.made (below_alloc (Below.refl _ _) (.cells #[.int .i64 (p.1 : Int), .int .i64 (p.2.1 : Int), .int .i64 (p.2.2 : Int)] 56))
        have hC : ∀ {A : Option Addr} {l : List ByteArray}, Kd.C Kd.string w A l.length l → Kd.C Kd.string (wr.alloc (.cells #[.int .i64 (p.1 : Int), .int .i64 (p.2.1 : Int), .int .i64 (p.2.2 : Int)] 56)) A l.length l := fun h => Kd.C_below h (HBe.out ▸ hM1.below)
        have hxl : xs.length ≤ 1000000 := by
          have h1 := congrArg List.length HPt.out
          have h2 := parts_len l0 l1 l2
          rw [List.length_append, List.length_map] at h1
          omega
        have hfr : ∀ k, (wr.alloc (.cells #[.int .i64 (p.1 : Int), .int .i64 (p.2.1 : Int), .int .i64 (p.2.2 : Int)] 56)).heap.size ≤ k → some k ≠ (Value.slice (some ad) qs.length c3).ownBlock := fun k hk e => by
          have := Kd.R_lt hM1.pls k e.symm
          omega
        obtain ⟨⟨hf1, hf2, hf3⟩, _⟩ := HLe.out
        obtain ⟨ha1, ha2, ha3⟩ := HL1.out
        obtain ⟨hp1, hp2, hp3⟩ := HL2.out
        refine (fast_calls B A0 c0 l0 A1 c1 l1 A2 c2 l2 at_ fr lv xs (fun k => some k ≠ (Value.slice (some ad) qs.length c3).ownBlock) _ (hC HR0.out) hc0 (hC HR1.out) hc1 (hC HR2.out) hc2 (by omega) (by omega) (by omega) hM1.bx hM1.row hxl hM1.sz hM1.bl hfr hf1 hf2 hf3 (Nat.le_trans ha1 hp1) (Nat.le_trans ha2 hp2) (Nat.le_trans ha3 hp3)).mono ?_
        rintro e w2 hf
        obtain ⟨lv', xs', v, rfl, hM2, hmx, hK⟩ := hM1.fast hf
        have hlvlt : ∀ g, lv.ownBlock = some g → g < wr.heap.size := fun g e => own_lt' HM.out.row g e
        have hpb : w2.heap[wr.heap.size]? = some (.cells #[.int .i64 (p.1 : Int), .int .i64 (p.2.1 : Int), .int .i64 (p.2.2 : Int)] 56 (0, 0)) := by
          rw [hK.2 wr.heap.size (by simp) (by omega) (fun e => by have := hlvlt _ e.symm; omega), heap_alloc, if_pos rfl]
        have hz2 : wr.heap.size < w2.heap.size := by have := hK.1.size; simp at this; omega
        obtain ⟨q, hq⟩ : ∃ q, q = wr.heap.size := ⟨_, rfl⟩
        rw [← hq] at hpb hz2 ⊢
        have hqB : B + 6 ≤ q := by omega
        have HQ2 := Lib.hid hq
        have HM2 := Lib.hid hM2
        have HX2 := Lib.hid hmx
        clear hf hM1 hC hfr hlvlt hK hM2 hmx hq k40 k41 k42 f40 f41 f42 hx0 hx1 hx2 hz z0 z1 z2 z3 z4 z5 hsz hne
        obtain ⟨⟨⟨b0, b1, b2⟩, b3, b4, b5⟩, -, -, -, hs2, -⟩ := HM2.out
        have k0' : w2.cell? ⟨B, 0, none⟩ = some (.slice A0 l0.length c0) := cell_of_one b0
        have k1' : w2.cell? ⟨B + 1, 0, none⟩ = some (.slice A1 l1.length c1) := cell_of_one b1
        have k2' : w2.cell? ⟨B + 1 + 1, 0, none⟩ = some (.slice A2 l2.length c2) := cell_of_one b2
        have k40 : w2.cell? ⟨B + 1 + 1 + 1 + 1, 0, none⟩ = some (.int .i64 (at_.1 : Int)) := by simp [World.cell?, b4]
        have k41 : w2.cell? ⟨B + 1 + 1 + 1 + 1, 1, none⟩ = some (.int .i64 (at_.2.1 : Int)) := by simp [World.cell?, b4]
        have k42 : w2.cell? ⟨B + 1 + 1 + 1 + 1, 2, none⟩ = some (.int .i64 (at_.2.2 : Int)) := by simp [World.cell?, b4]
        have kp0 : w2.cell? ⟨q, 0, none⟩ = some (.int .i64 (p.1 : Int)) := by simp [World.cell?, hpb]
        have kp1 : w2.cell? ⟨q, 1, none⟩ = some (.int .i64 (p.2.1 : Int)) := by simp [World.cell?, hpb]
        have kp2 : w2.cell? ⟨q, 2, none⟩ = some (.int .i64 (p.2.2 : Int)) := by simp [World.cell?, hpb]
        have HPb := Lib.hid hpb
        clear b0 b1 b2 b3 b4 b5 hpb
        go_wp2_with fail
        have hC : ∀ {A : Option Addr} {l : List ByteArray}, Kd.C Kd.string w A l.length l → Kd.C Kd.string w2 A l.length l := fun h => Kd.C_below h (HBe.out ▸ HM2.out.below)
        refine (part_calls A0 c0 l0 A1 c1 l1 A2 c2 l2 at_ p _ (hC HR0.out) hc0 (hC HR1.out) hc1 (hC HR2.out) hc2 ha1 ha2 ha3 hp1 hp2 hp3 (by omega) (by omega) (by omega)).mono ?_
        clear hC
        rintro e w3 ⟨⟨pc, v1, v2, v3⟩, rfl, hxp, hxM, hxN, hb3⟩
        simp only at hxp hxM
        obtain ⟨O, hO⟩ : ∃ O, O = Three.cut l0 at_.1 p.1 := ⟨_, rfl⟩
        obtain ⟨P, hPp⟩ : ∃ O, O = Three.cut l1 at_.2.1 p.2.1 := ⟨_, rfl⟩
        obtain ⟨Q, hQq⟩ : ∃ O, O = Three.cut l2 at_.2.2 p.2.2 := ⟨_, rfl⟩
        have lO : O.length ≤ 1000000 := by rw [hO]; unfold Three.cut; simp; omega
        have lP : P.length ≤ 1000000 := by rw [hPp]; unfold Three.cut; simp; omega
        have lQ : Q.length ≤ 1000000 := by rw [hQq]; unfold Three.cut; simp; omega
        rw [← hO, ← hPp, ← hQq] at hxp
        subst hxp
        obtain ⟨-, r1, r2, r3⟩ := kP_openM hxM
        simp only at r1 r2 r3
        obtain ⟨D1, d1, e1⟩ := Kd.R_slice r1
        obtain ⟨D2, d2, e2⟩ := Kd.R_slice r2
        obtain ⟨D3, d3, e3⟩ := Kd.R_slice r3
        subst e1 e2 e3
        have HXN := Lib.hid hxN
        have HR1' := Lib.hid r1
        have HR2' := Lib.hid r2
        have HR3' := Lib.hid r3
        have HM3 := Lib.hid (HM2.out.made hb3)
        have HO := Lib.hid hO
        have HPp := Lib.hid hPp
        have HQq := Lib.hid hQq
        have HPb3 : Hid (w3.heap[q]? = _) := Lib.hid ((hb3.block q hz2).trans HPb.out)
        have hz3 : q < w3.heap.size := Nat.lt_of_lt_of_le hz2 hb3.size
        have HS3 := Lib.hid hb3.size
        clear hxN hxM r1 r2 r3 hb3 hO hPp hQq k0' k1' k2' k40 k41 k42 kp0 kp1 kp2
        obtain ⟨⟨⟨b0, b1, b2⟩, b3, b4, b5⟩, -, -, -, hs3, -⟩ := HM3.out
        have k3 : w3.cell? ⟨B + 1 + 1 + 1, 0, none⟩ = some lv' := cell_of_one b3
        have f3 : w3.frozen? ⟨B + 1 + 1 + 1, 0, none⟩ = false := free_of_one b3
        have z3 : B + 1 + 1 + 1 < w3.heap.size := by omega
        have z4 : B + 1 + 1 + 1 + 1 < w3.heap.size := by omega
        have z5 : B + 1 + 1 + 1 + 1 + 1 < w3.heap.size := by omega
        clear b0 b1 b2 b3 b4 b5
        have heq : ∀ {a b : List ByteArray} {A A' : Option Addr} {c d : Nat} {r : Bool} {W : World}, r = decide (a = b) → a.length ≤ 1000000 → b.length ≤ 1000000 → (∃ bs ok, Kd.R Kd.string 9 w3 bs ok (.slice A a.length c) a) → (∃ bs ok, Kd.R Kd.string 9 w3 bs ok (.slice A' b.length d) b) → Below w3.heap.size w3 W →
            Calls Try.prog 37 #[.slice A a.length c, .slice A' b.length d] W fun e w' => e = .returned (.bool r) ∧ ∃ n, w' = W.drewN n := by
          intro a b A A' c d r W hr la lb ⟨_, _, ra⟩ ⟨_, _, rb⟩ hW
          exact equal_calls A A' c d a b W (Kd.C_below (Kd.R_reads' ra).2.2 hW) (Kd.R_reads' ra).2.1 (Kd.C_below (Kd.R_reads' rb).2.2 hW) (Kd.R_reads' rb).2.1 la lb r hr
        have HEQ : Hid (∀ {a b : List ByteArray} {A A' : Option Addr} {c d : Nat} {r : Bool} {W : World}, r = decide (a = b) → a.length ≤ 1000000 → b.length ≤ 1000000 → (∃ bs ok, Kd.R Kd.string 9 w3 bs ok (.slice A a.length c) a) → (∃ bs ok, Kd.R Kd.string 9 w3 bs ok (.slice A' b.length d) b) → Below w3.heap.size w3 W →
            Calls Try.prog 37 #[.slice A a.length c, .slice A' b.length d] W fun e w' => e = .returned (.bool r) ∧ ∃ n, w' = W.drewN n) := Lib.hid heq
        clear heq
        obtain ⟨t1, ht1⟩ : ∃ r, r = decide (P = Q) := ⟨_, rfl⟩
        obtain ⟨t2, ht2⟩ : ∃ r, r = decide (P = O) := ⟨_, rfl⟩
        obtain ⟨t3, ht3⟩ : ∃ r, r = decide (Q = O) := ⟨_, rfl⟩
        have HT1 := Lib.hid ht1
        have HT2 := Lib.hid ht2
        have HT3 := Lib.hid ht3
        clear ht1 ht2 ht3
        have hxl' : xs'.length ≤ 1000000 := by
          have h1 := congrArg List.length HPt.out
          have h2 := parts_len l0 l1 l2
          have h3 := congrArg List.length HX2.out
          rw [Three.partsGo, if_neg HP.out] at h1
          simp only [List.length_append, List.length_map, List.length_cons] at h1 h3
          omega
        have HY : Hid (∀ c : Bool, kP.M (w3.alloc (.cells #[.bool c, .slice D1 O.length d1, .slice D2 P.length d2, .slice D3 Q.length d3] 42)) (B + 6) (fun k => k ∈ PV.bl (⟨⟨false, O, P, Q⟩, .slice D1 O.length d1, .slice D2 P.length d2, .slice D3 Q.length d3⟩ : PV)) (⟨⟨c, O, P, Q⟩, .slice D1 O.length d1, .slice D2 P.length d2, .slice D3 Q.length d3⟩ : PV) [.bool c, .slice D1 O.length d1, .slice D2 P.length d2, .slice D3 Q.length d3]) :=
          Lib.hid fun c => kP_mkM (⟨⟨c, O, P, Q⟩, .slice D1 O.length d1, .slice D2 P.length d2, .slice D3 Q.length d3⟩ : PV) (Kd.R_alloc (Kd.R_lower HR1'.out (by omega)) _) (Kd.R_alloc (Kd.R_lower HR2'.out (by omega)) _) (Kd.R_alloc (Kd.R_lower HR3'.out (by omega)) _)
        have HYo : Hid (∀ k, k ∈ PV.bl (⟨⟨false, O, P, Q⟩, .slice D1 O.length d1, .slice D2 P.length d2, .slice D3 Q.length d3⟩ : PV) → some k ≠ (Value.slice (some ad) qs.length c3).ownBlock ∧ some k ≠ lv'.ownBlock) :=
          Lib.hid fun k hk => ⟨fun e => by have h1 := Kd.R_lt HM2.out.pls k e.symm; have h2 := (HXN.out.2 k hk).1; omega, fun e => by have h1 := own_lt' HM2.out.row k e.symm; have h2 := (HXN.out.2 k hk).1; omega⟩
        have HYf : Hid (∀ k, (w3.heap.size : Nat) + 1 ≤ k → some k ≠ (Value.slice (some ad) qs.length c3).ownBlock) := Lib.hid fun k hk e => by have h1 := Kd.R_lt HM3.out.pls k e.symm; omega
        have HNE : Hid (some q ≠ lv'.ownBlock) := Lib.hid (Kd.R_ne HM3.out.row HPb3.out (by decide))
        have HND : Hid (∀ c : Bool, (bls (xs' ++ [(⟨⟨c, O, P, Q⟩, .slice D1 O.length d1, .slice D2 P.length d2, .slice D3 Q.length d3⟩ : PV)])).Nodup) := Lib.hid fun c => by
          rw [bls_snoc]
          refine List.nodup_append.2 ⟨HM2.out.bl, HXN.out.1, fun a ha b hb e => ?_⟩
          subst e
          have q1 := (bls_of_R HM2.out.row a ha).2.1
          have q2 := (HXN.out.2 a hb).1
          omega
        cases t1 with
        | true =>
          go_wp2_with (first
            | (go_at_call 37; (with_reducible refine Calls.mono (HEQ.out HT1.out lP lQ ⟨_, _, HR2'.out⟩ ⟨_, _, HR3'.out⟩ (by repeat (first | exact Below.refl _ _ | apply below_alloc))) ?_); rintro e w4 ⟨rfl, n4, rfl⟩)
            | (at_builtin; refine Hold.of ?_))
          refine Hold.mk ?_
          refine app_P (w0 := w3) (W := w3.alloc (.cells #[.bool false, .slice D1 O.length d1, .slice D2 P.length d2, .slice D3 Q.length d3] 42)) (B + 6) rfl (.tmp 66) (.tmp 68) rfl [.bool false, .slice D1 O.length d1, .slice D2 P.length d2, .slice D3 Q.length d3] rfl lv' xs' (⟨⟨false, O, P, Q⟩, .slice D1 O.length d1, .slice D2 P.length d2, .slice D3 Q.length d3⟩ : PV) (fun k => some k ≠ (Value.slice (some ad) qs.length c3).ownBlock) (fun k => k ∈ PV.bl (⟨⟨false, O, P, Q⟩, .slice D1 O.length d1, .slice D2 P.length d2, .slice D3 Q.length d3⟩ : PV)) rfl (Eq.trans (b := .slice (some ⟨w3.heap.size + 1, 0, none⟩) 1 1) rfl (by simp)) (HY.out _) HYo.out (fun k hk => HYf.out k (by simpa using hk)) (Kd.R_alloc HM3.out.row _) (Below.mono (below_alloc (Below.refl _ _) _) hs3) (by simp; omega) hxl' ?_
          intro v5 w5 ho hb hg
          obtain ⟨A9, c9, e9⟩ := Kd.R_slice ho
          subst e9
          have hnd := HND.out false
          have hM5 := HM3.out.push (below_alloc (Below.refl _ _) _) ho hb hg hnd
          have k35 : w5.cell? ⟨B + 1 + 1 + 1, 0, none⟩ = some lv' := by rw [hb.cell (by simp)]; exact k3
          have f35 : w5.frozen? ⟨B + 1 + 1 + 1, 0, none⟩ = false := by rw [hb.frozen (by simp)]; exact f3
          have z55 : w3.heap.size + 1 ≤ w5.heap.size := by have := hg.size; simpa using this
          have hpb5 : w5.heap[q]? = some (.cells #[.int .i64 (p.1 : Int), .int .i64 (p.2.1 : Int), .int .i64 (p.2.2 : Int)] 56 (0, 0)) := by
            rw [hg.block q (by simp; omega) HNE.out, heap_alloc, if_neg (by omega)]; exact HPb3.out
          have hzq : q < w5.heap.size := by omega
          obtain ⟨⟨⟨c0', c1', c2'⟩, c3', c4', c5'⟩, -, -, -, -, -⟩ := HM3.out
          have c45 := (hb.block (B + 4) (by omega)).trans c4'
          have c55 := (hb.block (B + 5) (by omega)).trans c5'
          have x40 : w5.cell? ⟨B + 1 + 1 + 1 + 1, 0, none⟩ = some (.int .i64 (at_.1 : Int)) := by simp [World.cell?, c45]
          have x41 : w5.cell? ⟨B + 1 + 1 + 1 + 1, 1, none⟩ = some (.int .i64 (at_.2.1 : Int)) := by simp [World.cell?, c45]
          have x42 : w5.cell? ⟨B + 1 + 1 + 1 + 1, 2, none⟩ = some (.int .i64 (at_.2.2 : Int)) := by simp [World.cell?, c45]
          have x50 : w5.cell? ⟨B + 1 + 1 + 1 + 1 + 1, 0, none⟩ = some (.int .i64 (fr.1 : Int)) := by simp [World.cell?, c55]
          have x51 : w5.cell? ⟨B + 1 + 1 + 1 + 1 + 1, 1, none⟩ = some (.int .i64 (fr.2.1 : Int)) := by simp [World.cell?, c55]
          have x52 : w5.cell? ⟨B + 1 + 1 + 1 + 1 + 1, 2, none⟩ = some (.int .i64 (fr.2.2 : Int)) := by simp [World.cell?, c55]
          have g40 : w5.frozen? ⟨B + 1 + 1 + 1 + 1, 0, none⟩ = false := by simp [World.frozen?, c45]
          have g41 : w5.frozen? ⟨B + 1 + 1 + 1 + 1, 1, none⟩ = false := by simp [World.frozen?, c45]
          have g42 : w5.frozen? ⟨B + 1 + 1 + 1 + 1, 2, none⟩ = false := by simp [World.frozen?, c45]
          have g50 : w5.frozen? ⟨B + 1 + 1 + 1 + 1 + 1, 0, none⟩ = false := by simp [World.frozen?, c55]
          have g51 : w5.frozen? ⟨B + 1 + 1 + 1 + 1 + 1, 1, none⟩ = false := by simp [World.frozen?, c55]
          have g52 : w5.frozen? ⟨B + 1 + 1 + 1 + 1 + 1, 2, none⟩ = false := by simp [World.frozen?, c55]
          have y0 : w5.cell? ⟨q, 0, none⟩ = some (.int .i64 (p.1 : Int)) := by simp [World.cell?, hpb5]
          have y1 : w5.cell? ⟨q, 1, none⟩ = some (.int .i64 (p.2.1 : Int)) := by simp [World.cell?, hpb5]
          have y2 : w5.cell? ⟨q, 2, none⟩ = some (.int .i64 (p.2.2 : Int)) := by simp [World.cell?, hpb5]
          have e3 : q ≠ B + 1 + 1 + 1 := by omega
          have e4 : q ≠ B + 1 + 1 + 1 + 1 := by omega
          have e5 : q ≠ B + 1 + 1 + 1 + 1 + 1 := by omega
          clear c0' c1' c2' c3' c4' c5' c45 c55
          have HM5 := Lib.hid hM5
          have HPb5 := Lib.hid hpb5
          clear ho hb hg hnd hM5 hpb5
          go_wp2_with fail
          go_roundg (qs.length - (i + 1))
          case measure => have := HI.out; omega
          case rel =>
            have hM6 := (HM5.out.setFr p rfl rfl rfl).setAt (Three.nx p) rfl rfl rfl
            rw [List.length_append, List.length_singleton] at hM6
            refine ⟨i + 1, Three.nx p, p, _, _, by go_num, Lib.hid (by omega), Lib.hid hM6, HA', Lib.hid ⟨⟨Nat.le_succ _, Nat.le_succ _, Nat.le_succ _⟩, hp1, hp2, hp3⟩, Lib.hid ?_⟩
            rw [← HPt.out, Three.partsGo, if_neg HP.out, loose_eq HO.out HPp.out HQq.out HT1.out HT2.out HT3.out, List.map_append, HX2.out]
            simp
        | false =>
          cases t2 with
          | true =>
            go_wp2_with (first
              | (go_at_call 37; (with_reducible refine Calls.mono (HEQ.out HT1.out lP lQ ⟨_, _, HR2'.out⟩ ⟨_, _, HR3'.out⟩ (by repeat (first | exact Below.refl _ _ | apply below_alloc))) ?_); rintro e w4 ⟨rfl, n4, rfl⟩)
              | (go_at_call 37; (with_reducible refine Calls.mono (HEQ.out HT2.out lP lO ⟨_, _, HR2'.out⟩ ⟨_, _, HR1'.out⟩ (pw_below_drewN (by repeat (first | exact Below.refl _ _ | apply below_alloc)) _)) ?_); rintro e w4 ⟨rfl, n5, rfl⟩)
              | (at_builtin; refine Hold.of ?_))
            refine Hold.mk ?_
            refine app_P (w0 := w3) (W := w3.alloc (.cells #[.bool false, .slice D1 O.length d1, .slice D2 P.length d2, .slice D3 Q.length d3] 42)) (B + 6) rfl (.tmp 66) (.tmp 68) rfl [.bool false, .slice D1 O.length d1, .slice D2 P.length d2, .slice D3 Q.length d3] rfl lv' xs' (⟨⟨false, O, P, Q⟩, .slice D1 O.length d1, .slice D2 P.length d2, .slice D3 Q.length d3⟩ : PV) (fun k => some k ≠ (Value.slice (some ad) qs.length c3).ownBlock) (fun k => k ∈ PV.bl (⟨⟨false, O, P, Q⟩, .slice D1 O.length d1, .slice D2 P.length d2, .slice D3 Q.length d3⟩ : PV)) rfl (Eq.trans (b := .slice (some ⟨w3.heap.size + 1, 0, none⟩) 1 1) rfl (by simp)) (HY.out _) HYo.out (fun k hk => HYf.out k (by simpa using hk)) (Kd.R_alloc HM3.out.row _) (Below.mono (below_alloc (Below.refl _ _) _) hs3) (by simp; omega) hxl' ?_
            intro v5 w5 ho hb hg
            obtain ⟨A9, c9, e9⟩ := Kd.R_slice ho
            subst e9
            have hnd := HND.out false
            have hM5 := HM3.out.push (below_alloc (Below.refl _ _) _) ho hb hg hnd
            have k35 : w5.cell? ⟨B + 1 + 1 + 1, 0, none⟩ = some lv' := by rw [hb.cell (by simp)]; exact k3
            have f35 : w5.frozen? ⟨B + 1 + 1 + 1, 0, none⟩ = false := by rw [hb.frozen (by simp)]; exact f3
            have z55 : w3.heap.size + 1 ≤ w5.heap.size := by have := hg.size; simpa using this
            have hpb5 : w5.heap[q]? = some (.cells #[.int .i64 (p.1 : Int), .int .i64 (p.2.1 : Int), .int .i64 (p.2.2 : Int)] 56 (0, 0)) := by
              rw [hg.block q (by simp; omega) HNE.out, heap_alloc, if_neg (by omega)]; exact HPb3.out
            have hzq : q < w5.heap.size := by omega
            obtain ⟨⟨⟨c0', c1', c2'⟩, c3', c4', c5'⟩, -, -, -, -, -⟩ := HM3.out
            have c45 := (hb.block (B + 4) (by omega)).trans c4'
            have c55 := (hb.block (B + 5) (by omega)).trans c5'
            have x40 : w5.cell? ⟨B + 1 + 1 + 1 + 1, 0, none⟩ = some (.int .i64 (at_.1 : Int)) := by simp [World.cell?, c45]
            have x41 : w5.cell? ⟨B + 1 + 1 + 1 + 1, 1, none⟩ = some (.int .i64 (at_.2.1 : Int)) := by simp [World.cell?, c45]
            have x42 : w5.cell? ⟨B + 1 + 1 + 1 + 1, 2, none⟩ = some (.int .i64 (at_.2.2 : Int)) := by simp [World.cell?, c45]
            have x50 : w5.cell? ⟨B + 1 + 1 + 1 + 1 + 1, 0, none⟩ = some (.int .i64 (fr.1 : Int)) := by simp [World.cell?, c55]
            have x51 : w5.cell? ⟨B + 1 + 1 + 1 + 1 + 1, 1, none⟩ = some (.int .i64 (fr.2.1 : Int)) := by simp [World.cell?, c55]
            have x52 : w5.cell? ⟨B + 1 + 1 + 1 + 1 + 1, 2, none⟩ = some (.int .i64 (fr.2.2 : Int)) := by simp [World.cell?, c55]
            have g40 : w5.frozen? ⟨B + 1 + 1 + 1 + 1, 0, none⟩ = false := by simp [World.frozen?, c45]
            have g41 : w5.frozen? ⟨B + 1 + 1 + 1 + 1, 1, none⟩ = false := by simp [World.frozen?, c45]
            have g42 : w5.frozen? ⟨B + 1 + 1 + 1 + 1, 2, none⟩ = false := by simp [World.frozen?, c45]
            have g50 : w5.frozen? ⟨B + 1 + 1 + 1 + 1 + 1, 0, none⟩ = false := by simp [World.frozen?, c55]
            have g51 : w5.frozen? ⟨B + 1 + 1 + 1 + 1 + 1, 1, none⟩ = false := by simp [World.frozen?, c55]
            have g52 : w5.frozen? ⟨B + 1 + 1 + 1 + 1 + 1, 2, none⟩ = false := by simp [World.frozen?, c55]
            have y0 : w5.cell? ⟨q, 0, none⟩ = some (.int .i64 (p.1 : Int)) := by simp [World.cell?, hpb5]
            have y1 : w5.cell? ⟨q, 1, none⟩ = some (.int .i64 (p.2.1 : Int)) := by simp [World.cell?, hpb5]
            have y2 : w5.cell? ⟨q, 2, none⟩ = some (.int .i64 (p.2.2 : Int)) := by simp [World.cell?, hpb5]
            have e3 : q ≠ B + 1 + 1 + 1 := by omega
            have e4 : q ≠ B + 1 + 1 + 1 + 1 := by omega
            have e5 : q ≠ B + 1 + 1 + 1 + 1 + 1 := by omega
            clear c0' c1' c2' c3' c4' c5' c45 c55
            have HM5 := Lib.hid hM5
            have HPb5 := Lib.hid hpb5
            clear ho hb hg hnd hM5 hpb5
            go_wp2_with fail
            go_roundg (qs.length - (i + 1))
            case measure => have := HI.out; omega
            case rel =>
              have hM6 := (HM5.out.setFr p rfl rfl rfl).setAt (Three.nx p) rfl rfl rfl
              rw [List.length_append, List.length_singleton] at hM6
              refine ⟨i + 1, Three.nx p, p, _, _, by go_num, Lib.hid (by omega), Lib.hid hM6, HA', Lib.hid ⟨⟨Nat.le_succ _, Nat.le_succ _, Nat.le_succ _⟩, hp1, hp2, hp3⟩, Lib.hid ?_⟩
              rw [← HPt.out, Three.partsGo, if_neg HP.out, loose_eq HO.out HPp.out HQq.out HT1.out HT2.out HT3.out, List.map_append, HX2.out]
              simp
          | false =>
            cases t3 with
            | true =>
              go_wp2_with (first
                | (go_at_call 37; (with_reducible refine Calls.mono (HEQ.out HT1.out lP lQ ⟨_, _, HR2'.out⟩ ⟨_, _, HR3'.out⟩ (by repeat (first | exact Below.refl _ _ | apply below_alloc))) ?_); rintro e w4 ⟨rfl, n4, rfl⟩)
                | (go_at_call 37; (with_reducible refine Calls.mono (HEQ.out HT2.out lP lO ⟨_, _, HR2'.out⟩ ⟨_, _, HR1'.out⟩ (pw_below_drewN (by repeat (first | exact Below.refl _ _ | apply below_alloc)) _)) ?_); rintro e w4 ⟨rfl, n5, rfl⟩)
                | (go_at_call 37; (with_reducible refine Calls.mono (HEQ.out HT3.out lQ lO ⟨_, _, HR3'.out⟩ ⟨_, _, HR1'.out⟩ (pw_below_drewN (by repeat (first | exact Below.refl _ _ | apply below_alloc)) _)) ?_); rintro e w4 ⟨rfl, n6, rfl⟩)
                | (at_builtin; refine Hold.of ?_))
              refine Hold.mk ?_
              refine app_P (w0 := w3) (W := w3.alloc (.cells #[.bool false, .slice D1 O.length d1, .slice D2 P.length d2, .slice D3 Q.length d3] 42)) (B + 6) rfl (.tmp 66) (.tmp 68) rfl [.bool false, .slice D1 O.length d1, .slice D2 P.length d2, .slice D3 Q.length d3] rfl lv' xs' (⟨⟨false, O, P, Q⟩, .slice D1 O.length d1, .slice D2 P.length d2, .slice D3 Q.length d3⟩ : PV) (fun k => some k ≠ (Value.slice (some ad) qs.length c3).ownBlock) (fun k => k ∈ PV.bl (⟨⟨false, O, P, Q⟩, .slice D1 O.length d1, .slice D2 P.length d2, .slice D3 Q.length d3⟩ : PV)) rfl (Eq.trans (b := .slice (some ⟨w3.heap.size + 1, 0, none⟩) 1 1) rfl (by simp)) (HY.out _) HYo.out (fun k hk => HYf.out k (by simpa using hk)) (Kd.R_alloc HM3.out.row _) (Below.mono (below_alloc (Below.refl _ _) _) hs3) (by simp; omega) hxl' ?_
              intro v5 w5 ho hb hg
              obtain ⟨A9, c9, e9⟩ := Kd.R_slice ho
              subst e9
              have hnd := HND.out false
              have hM5 := HM3.out.push (below_alloc (Below.refl _ _) _) ho hb hg hnd
              have k35 : w5.cell? ⟨B + 1 + 1 + 1, 0, none⟩ = some lv' := by rw [hb.cell (by simp)]; exact k3
              have f35 : w5.frozen? ⟨B + 1 + 1 + 1, 0, none⟩ = false := by rw [hb.frozen (by simp)]; exact f3
              have z55 : w3.heap.size + 1 ≤ w5.heap.size := by have := hg.size; simpa using this
              have hpb5 : w5.heap[q]? = some (.cells #[.int .i64 (p.1 : Int), .int .i64 (p.2.1 : Int), .int .i64 (p.2.2 : Int)] 56 (0, 0)) := by
                rw [hg.block q (by simp; omega) HNE.out, heap_alloc, if_neg (by omega)]; exact HPb3.out
              have hzq : q < w5.heap.size := by omega
              obtain ⟨⟨⟨c0', c1', c2'⟩, c3', c4', c5'⟩, -, -, -, -, -⟩ := HM3.out
              have c45 := (hb.block (B + 4) (by omega)).trans c4'
              have c55 := (hb.block (B + 5) (by omega)).trans c5'
              have x40 : w5.cell? ⟨B + 1 + 1 + 1 + 1, 0, none⟩ = some (.int .i64 (at_.1 : Int)) := by simp [World.cell?, c45]
              have x41 : w5.cell? ⟨B + 1 + 1 + 1 + 1, 1, none⟩ = some (.int .i64 (at_.2.1 : Int)) := by simp [World.cell?, c45]
              have x42 : w5.cell? ⟨B + 1 + 1 + 1 + 1, 2, none⟩ = some (.int .i64 (at_.2.2 : Int)) := by simp [World.cell?, c45]
              have x50 : w5.cell? ⟨B + 1 + 1 + 1 + 1 + 1, 0, none⟩ = some (.int .i64 (fr.1 : Int)) := by simp [World.cell?, c55]
              have x51 : w5.cell? ⟨B + 1 + 1 + 1 + 1 + 1, 1, none⟩ = some (.int .i64 (fr.2.1 : Int)) := by simp [World.cell?, c55]
              have x52 : w5.cell? ⟨B + 1 + 1 + 1 + 1 + 1, 2, none⟩ = some (.int .i64 (fr.2.2 : Int)) := by simp [World.cell?, c55]
              have g40 : w5.frozen? ⟨B + 1 + 1 + 1 + 1, 0, none⟩ = false := by simp [World.frozen?, c45]
              have g41 : w5.frozen? ⟨B + 1 + 1 + 1 + 1, 1, none⟩ = false := by simp [World.frozen?, c45]
              have g42 : w5.frozen? ⟨B + 1 + 1 + 1 + 1, 2, none⟩ = false := by simp [World.frozen?, c45]
              have g50 : w5.frozen? ⟨B + 1 + 1 + 1 + 1 + 1, 0, none⟩ = false := by simp [World.frozen?, c55]
              have g51 : w5.frozen? ⟨B + 1 + 1 + 1 + 1 + 1, 1, none⟩ = false := by simp [World.frozen?, c55]
              have g52 : w5.frozen? ⟨B + 1 + 1 + 1 + 1 + 1, 2, none⟩ = false := by simp [World.frozen?, c55]
              have y0 : w5.cell? ⟨q, 0, none⟩ = some (.int .i64 (p.1 : Int)) := by simp [World.cell?, hpb5]
              have y1 : w5.cell? ⟨q, 1, none⟩ = some (.int .i64 (p.2.1 : Int)) := by simp [World.cell?, hpb5]
              have y2 : w5.cell? ⟨q, 2, none⟩ = some (.int .i64 (p.2.2 : Int)) := by simp [World.cell?, hpb5]
              have e3 : q ≠ B + 1 + 1 + 1 := by omega
              have e4 : q ≠ B + 1 + 1 + 1 + 1 := by omega
              have e5 : q ≠ B + 1 + 1 + 1 + 1 + 1 := by omega
              clear c0' c1' c2' c3' c4' c5' c45 c55
              have HM5 := Lib.hid hM5
              have HPb5 := Lib.hid hpb5
              clear ho hb hg hnd hM5 hpb5
              go_wp2_with fail
              go_roundg (qs.length - (i + 1))
              case measure => have := HI.out; omega
              case rel =>
                have hM6 := (HM5.out.setFr p rfl rfl rfl).setAt (Three.nx p) rfl rfl rfl
                rw [List.length_append, List.length_singleton] at hM6
                refine ⟨i + 1, Three.nx p, p, _, _, by go_num, Lib.hid (by omega), Lib.hid hM6, HA', Lib.hid ⟨⟨Nat.le_succ _, Nat.le_succ _, Nat.le_succ _⟩, hp1, hp2, hp3⟩, Lib.hid ?_⟩
                rw [← HPt.out, Three.partsGo, if_neg HP.out, loose_eq HO.out HPp.out HQq.out HT1.out HT2.out HT3.out, List.map_append, HX2.out]
                simp
            | false =>
              go_wp2_with (first
                | (go_at_call 37; (with_reducible refine Calls.mono (HEQ.out HT1.out lP lQ ⟨_, _, HR2'.out⟩ ⟨_, _, HR3'.out⟩ (by repeat (first | exact Below.refl _ _ | apply below_alloc))) ?_); rintro e w4 ⟨rfl, n4, rfl⟩)
                | (go_at_call 37; (with_reducible refine Calls.mono (HEQ.out HT2.out lP lO ⟨_, _, HR2'.out⟩ ⟨_, _, HR1'.out⟩ (pw_below_drewN (by repeat (first | exact Below.refl _ _ | apply below_alloc)) _)) ?_); rintro e w4 ⟨rfl, n5, rfl⟩)
                | (go_at_call 37; (with_reducible refine Calls.mono (HEQ.out HT3.out lQ lO ⟨_, _, HR3'.out⟩ ⟨_, _, HR1'.out⟩ (pw_below_drewN (by repeat (first | exact Below.refl _ _ | apply below_alloc)) _)) ?_); rintro e w4 ⟨rfl, n6, rfl⟩)
                | (at_builtin; refine Hold.of ?_))
              refine Hold.mk ?_
              refine app_P (w0 := w3) (W := w3.alloc (.cells #[.bool true, .slice D1 O.length d1, .slice D2 P.length d2, .slice D3 Q.length d3] 42)) (B + 6) rfl (.tmp 66) (.tmp 68) rfl [.bool true, .slice D1 O.length d1, .slice D2 P.length d2, .slice D3 Q.length d3] rfl lv' xs' (⟨⟨true, O, P, Q⟩, .slice D1 O.length d1, .slice D2 P.length d2, .slice D3 Q.length d3⟩ : PV) (fun k => some k ≠ (Value.slice (some ad) qs.length c3).ownBlock) (fun k => k ∈ PV.bl (⟨⟨false, O, P, Q⟩, .slice D1 O.length d1, .slice D2 P.length d2, .slice D3 Q.length d3⟩ : PV)) rfl (Eq.trans (b := .slice (some ⟨w3.heap.size + 1, 0, none⟩) 1 1) rfl (by simp)) (HY.out _) HYo.out (fun k hk => HYf.out k (by simpa using hk)) (Kd.R_alloc HM3.out.row _) (Below.mono (below_alloc (Below.refl _ _) _) hs3) (by simp; omega) hxl' ?_
              intro v5 w5 ho hb hg
              obtain ⟨A9, c9, e9⟩ := Kd.R_slice ho
              subst e9
              have hnd := HND.out true
              have hM5 := HM3.out.push (below_alloc (Below.refl _ _) _) ho hb hg hnd
              have k35 : w5.cell? ⟨B + 1 + 1 + 1, 0, none⟩ = some lv' := by rw [hb.cell (by simp)]; exact k3
              have f35 : w5.frozen? ⟨B + 1 + 1 + 1, 0, none⟩ = false := by rw [hb.frozen (by simp)]; exact f3
              have z55 : w3.heap.size + 1 ≤ w5.heap.size := by have := hg.size; simpa using this
              have hpb5 : w5.heap[q]? = some (.cells #[.int .i64 (p.1 : Int), .int .i64 (p.2.1 : Int), .int .i64 (p.2.2 : Int)] 56 (0, 0)) := by
                rw [hg.block q (by simp; omega) HNE.out, heap_alloc, if_neg (by omega)]; exact HPb3.out
              have hzq : q < w5.heap.size := by omega
              obtain ⟨⟨⟨c0', c1', c2'⟩, c3', c4', c5'⟩, -, -, -, -, -⟩ := HM3.out
              have c45 := (hb.block (B + 4) (by omega)).trans c4'
              have c55 := (hb.block (B + 5) (by omega)).trans c5'
              have x40 : w5.cell? ⟨B + 1 + 1 + 1 + 1, 0, none⟩ = some (.int .i64 (at_.1 : Int)) := by simp [World.cell?, c45]
              have x41 : w5.cell? ⟨B + 1 + 1 + 1 + 1, 1, none⟩ = some (.int .i64 (at_.2.1 : Int)) := by simp [World.cell?, c45]
              have x42 : w5.cell? ⟨B + 1 + 1 + 1 + 1, 2, none⟩ = some (.int .i64 (at_.2.2 : Int)) := by simp [World.cell?, c45]
              have x50 : w5.cell? ⟨B + 1 + 1 + 1 + 1 + 1, 0, none⟩ = some (.int .i64 (fr.1 : Int)) := by simp [World.cell?, c55]
              have x51 : w5.cell? ⟨B + 1 + 1 + 1 + 1 + 1, 1, none⟩ = some (.int .i64 (fr.2.1 : Int)) := by simp [World.cell?, c55]
              have x52 : w5.cell? ⟨B + 1 + 1 + 1 + 1 + 1, 2, none⟩ = some (.int .i64 (fr.2.2 : Int)) := by simp [World.cell?, c55]
              have g40 : w5.frozen? ⟨B + 1 + 1 + 1 + 1, 0, none⟩ = false := by simp [World.frozen?, c45]
              have g41 : w5.frozen? ⟨B + 1 + 1 + 1 + 1, 1, none⟩ = false := by simp [World.frozen?, c45]
              have g42 : w5.frozen? ⟨B + 1 + 1 + 1 + 1, 2, none⟩ = false := by simp [World.frozen?, c45]
              have g50 : w5.frozen? ⟨B + 1 + 1 + 1 + 1 + 1, 0, none⟩ = false := by simp [World.frozen?, c55]
              have g51 : w5.frozen? ⟨B + 1 + 1 + 1 + 1 + 1, 1, none⟩ = false := by simp [World.frozen?, c55]
              have g52 : w5.frozen? ⟨B + 1 + 1 + 1 + 1 + 1, 2, none⟩ = false := by simp [World.frozen?, c55]
              have y0 : w5.cell? ⟨q, 0, none⟩ = some (.int .i64 (p.1 : Int)) := by simp [World.cell?, hpb5]
              have y1 : w5.cell? ⟨q, 1, none⟩ = some (.int .i64 (p.2.1 : Int)) := by simp [World.cell?, hpb5]
              have y2 : w5.cell? ⟨q, 2, none⟩ = some (.int .i64 (p.2.2 : Int)) := by simp [World.cell?, hpb5]
              have e3 : q ≠ B + 1 + 1 + 1 := by omega
              have e4 : q ≠ B + 1 + 1 + 1 + 1 := by omega
              have e5 : q ≠ B + 1 + 1 + 1 + 1 + 1 := by omega
              clear c0' c1' c2' c3' c4' c5' c45 c55
              have HM5 := Lib.hid hM5
              have HPb5 := Lib.hid hpb5
              clear ho hb hg hnd hM5 hpb5
              go_wp2_with fail
              go_roundg (qs.length - (i + 1))
              case measure => have := HI.out; omega
              case rel =>
                have hM6 := (HM5.out.setFr p rfl rfl rfl).setAt (Three.nx p) rfl rfl rfl
                rw [List.length_append, List.length_singleton] at hM6
                refine ⟨i + 1, Three.nx p, p, _, _, by go_num, Lib.hid (by omega), Lib.hid hM6, HA', Lib.hid ⟨⟨Nat.le_succ _, Nat.le_succ _, Nat.le_succ _⟩, hp1, hp2, hp3⟩, Lib.hid ?_⟩
                rw [← HPt.out, Three.partsGo, if_neg HP.out, loose_eq HO.out HPp.out HQq.out HT1.out HT2.out HT3.out, List.map_append, HX2.out]
                simp
    · have hi : i = qs.length := by have := HI.out; omega
      subst hi
      rw [List.drop_length] at HPt
      obtain ⟨⟨⟨b0, b1, b2⟩, b3, b4, b5⟩, -, -, -, hsz, -⟩ := HM.out
      have k0' : wr.cell? ⟨B, 0, none⟩ = some (.slice A0 l0.length c0) := cell_of_one b0
      have k1' : wr.cell? ⟨B + 1, 0, none⟩ = some (.slice A1 l1.length c1) := cell_of_one b1
      have k2' : wr.cell? ⟨B + 1 + 1, 0, none⟩ = some (.slice A2 l2.length c2) := cell_of_one b2
      have k40 : wr.cell? ⟨B + 1 + 1 + 1 + 1, 0, none⟩ = some (.int .i64 (at_.1 : Int)) := by simp [World.cell?, b4]
      have k41 : wr.cell? ⟨B + 1 + 1 + 1 + 1, 1, none⟩ = some (.int .i64 (at_.2.1 : Int)) := by simp [World.cell?, b4]
      have k42 : wr.cell? ⟨B + 1 + 1 + 1 + 1, 2, none⟩ = some (.int .i64 (at_.2.2 : Int)) := by simp [World.cell?, b4]
      have f40 : wr.frozen? ⟨B + 1 + 1 + 1 + 1, 0, none⟩ = false := by simp [World.frozen?, b4]
      have f41 : wr.frozen? ⟨B + 1 + 1 + 1 + 1, 1, none⟩ = false := by simp [World.frozen?, b4]
      have f42 : wr.frozen? ⟨B + 1 + 1 + 1 + 1, 2, none⟩ = false := by simp [World.frozen?, b4]
      clear b0 b1 b2 b3 b4 b5
      go_wp2_with fail
      have hM1 := HM.out.setAt (l0.length, l1.length, l2.length) rfl rfl rfl
      have hC : ∀ {A : Option Addr} {l : List ByteArray}, Kd.C Kd.string w A l.length l → Kd.C Kd.string (((wr.setCell ⟨B + 4, 0, none⟩ (.int .i64 (l0.length : Int))).setCell ⟨B + 4, 1, none⟩ (.int .i64 (l1.length : Int))).setCell ⟨B + 4, 2, none⟩ (.int .i64 (l2.length : Int))) A l.length l := fun h => Kd.C_below h (HBe.out ▸ hM1.below)
      have hxl : xs.length ≤ 1000000 := by
        have h1 := congrArg List.length HPt.out
        have h2 := parts_len l0 l1 l2
        rw [List.length_append, List.length_map] at h1
        omega
      have hfr : ∀ k, (((wr.setCell ⟨B + 4, 0, none⟩ (.int .i64 (l0.length : Int))).setCell ⟨B + 4, 1, none⟩ (.int .i64 (l1.length : Int))).setCell ⟨B + 4, 2, none⟩ (.int .i64 (l2.length : Int))).heap.size ≤ k → some k ≠ (Value.slice A3 qs.length c3).ownBlock := fun k hk e => by
        have := Kd.R_lt hM1.pls k e.symm
        simp at this hk
        omega
      obtain ⟨_, hf1, hf2, hf3⟩ := HLe.out
      refine (fast_calls B A0 c0 l0 A1 c1 l1 A2 c2 l2 (l0.length, l1.length, l2.length) fr lv xs (fun k => some k ≠ (Value.slice A3 qs.length c3).ownBlock) _ (hC HR0.out) hc0 (hC HR1.out) hc1 (hC HR2.out) hc2 (by omega) (by omega) (by omega) hM1.bx hM1.row hxl hM1.sz hM1.bl hfr hf1 hf2 hf3 (Nat.le_refl _) (Nat.le_refl _) (Nat.le_refl _)).mono ?_
      rintro e w2 hf
      obtain ⟨lv', xs', v, rfl, hM2, hmx, hK⟩ := hM1.fast hf
      have k3 : w2.cell? ⟨B + 1 + 1 + 1, 0, none⟩ = some lv' := cell_of_one hM2.bx.2.1
      have HM2 := Lib.hid hM2
      have HX2 := Lib.hid hmx
      clear hf hM1 hC hfr hK hM2 hmx
      go_wp2_with fail
      go_ret
      have hb := HM2.out.below
      rw [HBe.out] at hb
      refine ⟨_, xs', rfl, Kd.R_mono (Kd.R_lower HM2.out.row (by have := HBe.out; omega)) (fun _ _ => trivial), ?_, HM2.out.bl, hb⟩
      rw [HX2.out, ← HPt.out, Three.partsGo]
end Go.Proofs.Ythghpmnbnfbheaa.ThreeString
end

section
namespace Go.Proofs.Ythghpmnbnfbheaa.ThreeString
open Go.RowKit Go.Proofs.Ythghpmnbnfbheaa.PRef Go.Proofs.YthghpmnbnfbheaaW.PrintWords Go.Proofs.YthghpmnbnfbheaaW.PrintLast Go.Proofs.YthghpmnbnfbheaaW.PrintMore
set_option linter.unusedSimpArgs false
set_option linter.unusedVariables false
attribute [local go_sem] Oper.semAt_some

theorem infoE : (Try.prog.info? 9).map (fun i => (i.zero, i.size, i.bytes)) = some (some (.string ⟨#[]⟩), 1, 16) := by kernel_rfl
def ChosenPost (o a b : List ByteArray) (w : World) (e : Ending) (w' : World) : Prop := ∃ v, e = .returned v ∧ Rd w' v (Three.chosen o a b) ∧ Below w.heap.size w w'
set_option maxHeartbeats 8000000 in
set_option maxRecDepth 100000 in
attribute [local go_sem] alloc_drewN setCell_drewN' in
theorem chosen_calls (c : Bool) (O P Q : List ByteArray) (v1 v2 v3 : Value) (w : World) (h1 : Rd w v1 O) (h2 : Rd w v2 P) (h3 : Rd w v3 Q) (lO : O.length ≤ 1000000) (lP : P.length ≤ 1000000) (lQ : Q.length ≤ 1000000) :
    Calls Try.prog 27 #[.agg #[.bool c, v1, v2, v3]] w (ChosenPost O P Q w) := by
  obtain ⟨D1, d1, rfl, l1, r1⟩ := h1
  obtain ⟨D2, d2, rfl, l2, r2⟩ := h2
  obtain ⟨D3, d3, rfl, l3, r3⟩ := h3
  have HR1 := Lib.hid r1
  have HR2 := Lib.hid r2
  have HR3 := Lib.hid r3
  obtain ⟨t1, ht1⟩ : ∃ r, r = decide (P = Q) := ⟨_, rfl⟩
  obtain ⟨t2, ht2⟩ : ∃ r, r = decide (Q = O) := ⟨_, rfl⟩
  have HT1 := Lib.hid ht1
  have HT2 := Lib.hid ht2
  clear ht1 ht2 r1 r2 r3
  cases t1 with
  | true =>
    go_enter Try.func27, Try.ntmps27
    go_wp2_with (first
      | (go_at_call 37; (with_reducible refine Calls.mono (equal_calls D2 D3 d2 d3 P Q _ (Kd.C_below HR2.out (below_alloc (Below.refl _ _) _)) l2 (Kd.C_below HR3.out (below_alloc (Below.refl _ _) _)) l3 lP lQ _ HT1.out) ?_); rintro e w4 ⟨rfl, n4, rfl⟩))
    go_ret
    refine ⟨_, rfl, ?_, pw_below_drewN (below_alloc (Below.refl _ _) _) _⟩
    unfold Three.chosen
    rw [if_pos (.inl (of_decide_eq_true HT1.out.symm))]
    exact ⟨D2, d2, rfl, l2, Kd.C_below HR2.out (pw_below_drewN (below_alloc (Below.refl _ _) _) _)⟩
  | false =>
    cases t2 with
    | true =>
      go_enter Try.func27, Try.ntmps27
      go_wp2_with (first
        | (go_at_call 37; (with_reducible refine Calls.mono (equal_calls D2 D3 d2 d3 P Q _ (Kd.C_below HR2.out (below_alloc (Below.refl _ _) _)) l2 (Kd.C_below HR3.out (below_alloc (Below.refl _ _) _)) l3 lP lQ _ HT1.out) ?_); rintro e w4 ⟨rfl, n4, rfl⟩)
        | (go_at_call 37; (with_reducible refine Calls.mono (equal_calls D3 D1 d3 d1 Q O _ (Kd.C_below HR3.out (pw_below_drewN (below_alloc (Below.refl _ _) _) _)) l3 (Kd.C_below HR1.out (pw_below_drewN (below_alloc (Below.refl _ _) _) _)) l1 lQ lO _ HT2.out) ?_); rintro e w4 ⟨rfl, n5, rfl⟩))
      go_ret
      refine ⟨_, rfl, ?_, pw_below_drewN (below_alloc (Below.refl _ _) _) _⟩
      unfold Three.chosen
      rw [if_pos (.inr (of_decide_eq_true HT2.out.symm))]
      exact ⟨D2, d2, rfl, l2, Kd.C_below HR2.out (pw_below_drewN (below_alloc (Below.refl _ _) _) _)⟩
    | false =>
      go_enter Try.func27, Try.ntmps27
      go_wp2_with (first
        | (go_at_call 37; (with_reducible refine Calls.mono (equal_calls D2 D3 d2 d3 P Q _ (Kd.C_below HR2.out (below_alloc (Below.refl _ _) _)) l2 (Kd.C_below HR3.out (below_alloc (Below.refl _ _) _)) l3 lP lQ _ HT1.out) ?_); rintro e w4 ⟨rfl, n4, rfl⟩)
        | (go_at_call 37; (with_reducible refine Calls.mono (equal_calls D3 D1 d3 d1 Q O _ (Kd.C_below HR3.out (pw_below_drewN (below_alloc (Below.refl _ _) _) _)) l3 (Kd.C_below HR1.out (pw_below_drewN (below_alloc (Below.refl _ _) _) _)) l1 lQ lO _ HT2.out) ?_); rintro e w4 ⟨rfl, n5, rfl⟩))
      go_ret
      refine ⟨_, rfl, ?_, pw_below_drewN (below_alloc (Below.refl _ _) _) _⟩
      unfold Three.chosen
      rw [if_neg (by rintro (h | h); exact of_decide_eq_false HT1.out.symm h; exact of_decide_eq_false HT2.out.symm h)]
      exact ⟨D3, d3, rfl, l3, Kd.C_below HR3.out (pw_below_drewN (below_alloc (Below.refl _ _) _) _)⟩
def MergePost (m : Option (List ByteArray)) (w : World) (e : Ending) (w' : World) : Prop :=
  ∃ v, e = .returned (.tuple #[v, .bool m.isSome]) ∧ Kd.R Kd.string 9 w' w.heap.size (fun _ => True) v (m.getD []) ∧ Below w.heap.size w w'
theorem piece_len {α : Type} : ∀ (L : List (List α)) (x : List α), x ∈ L → x.length ≤ L.flatten.length
  | [], _, h => by cases h
  | y :: L, x, h => by
    rw [List.flatten_cons, List.length_append]
    rcases List.mem_cons.1 h with rfl | h
    · omega
    · have := piece_len L x h; omega
theorem parts_small (l0 l1 l2 : List ByteArray) (x : Three.Pc ByteArray) (h : x ∈ Three.parts l0 l1 l2) : x.o.length ≤ l0.length ∧ x.a.length ≤ l1.length ∧ x.b.length ≤ l2.length := by
  obtain ⟨h1, h2, h3, _⟩ := Three.parts_whole l0 l1 l2
  have g1 := piece_len _ _ (List.mem_map.2 ⟨x, h, rfl⟩ : x.o ∈ (Three.parts l0 l1 l2).map (·.o))
  have g2 := piece_len _ _ (List.mem_map.2 ⟨x, h, rfl⟩ : x.a ∈ (Three.parts l0 l1 l2).map (·.a))
  have g3 := piece_len _ _ (List.mem_map.2 ⟨x, h, rfl⟩ : x.b ∈ (Three.parts l0 l1 l2).map (·.b))
  rw [h1] at g1
  rw [h2] at g2
  rw [h3] at g3
  exact ⟨g1, g2, g3⟩
set_option maxHeartbeats 8000000 in
set_option maxRecDepth 100000 in
attribute [local go_sem] max3 in
attribute [local go_sem] alloc_drewN setCell_drewN' in
theorem merge_calls (k : Nat) (A0 : Option Addr) (c0 : Nat) (l0 : List ByteArray) (A1 : Option Addr) (c1 : Nat) (l1 : List ByteArray) (A2 : Option Addr) (c2 : Nat) (l2 : List ByteArray) (w : World)
    (hr0 : Kd.C Kd.string w A0 l0.length l0) (hc0 : l0.length ≤ c0) (hr1 : Kd.C Kd.string w A1 l1.length l1) (hc1 : l1.length ≤ c1) (hr2 : Kd.C Kd.string w A2 l2.length l2) (hc2 : l2.length ≤ c2) (k0 : l0.length ≤ 400) (k1 : l1.length ≤ 400) (k2 : l2.length ≤ 400)
    (hst : three_standing_string.f k l0 l1 l2 = some ((Three.stand l0 l1 l2 ++ [(l0.length, l1.length, l2.length)]).map pl)) :
    Calls Try.prog 14 #[.slice A0 l0.length c0, .slice A1 l1.length c1, .slice A2 l2.length c2] w (MergePost (Three.merge l0 l1 l2) w) := by
  have HR0 := Lib.hid hr0
  have HR1 := Lib.hid hr1
  have HR2 := Lib.hid hr2
  have HST := Lib.hid hst
  have hm : decide ((400 : Int) < mx3 (l0.length : Int) (l1.length : Int) (l2.length : Int)) = false := by
    unfold mx3
    rw [decide_eq_false_iff_not]
    split <;> split <;> omega
  clear hr0 hr1 hr2 hst
  go_enter Try.func14, Try.ntmps14
  go_wp2_with fail
  refine (parts_calls k A0 c0 l0 A1 c1 l1 A2 c2 l2 _ HR0.out hc0 HR1.out hc1 HR2.out hc2 k0 k1 k2 _ rfl HST.out).mono ?_
  rintro e w1 ⟨v, xs, rfl, hR, hxs, -, hB⟩
  have hxl : xs.length ≤ 803 := by
    have h1 := congrArg List.length hxs
    have h2 := parts_len l0 l1 l2
    rw [List.length_map] at h1
    omega
  obtain ⟨A3, c3, e3⟩ := Kd.R_slice hR
  subst e3
  have HP := Lib.hid hR
  have HX := Lib.hid hxs
  have HB := Lib.hid hB
  clear hR hxs hB
  go_wp2_with fail
  go_loopg [8, 24] xs.length (fun g v8 v24 w' => ∃ (i : Nat) (out : List ByteArray), v24 = .int .i64 (i : Int) ∧ Hid (i + g = xs.length) ∧ Hid (Kd.R Kd.string 9 w' w1.heap.size (fun _ => True) v8 out) ∧ Hid (out.length ≤ i * 400) ∧ Hid (Below w1.heap.size w1 w') ∧ Hid ((Three.merged ((xs.drop i).map PV.p)).map (fun l => out ++ l) = Three.merge l0 l1 l2))
  case atStart => exact ⟨0, [], rfl, Lib.hid (by simp), Lib.hid (Kd.R_nil _ _ _ _ _), Lib.hid (by simp), Lib.hid (Below.refl _ _), Lib.hid (by rw [List.drop_zero, HX.out]; simp [Three.merge])⟩
  case round =>
    obtain ⟨i, out, rfl, HI, HO, HL, HBw, HE⟩ := hrel
    by_cases hlt : i < xs.length
    · obtain ⟨ad, ead, x0, x1, x2, x3, rd1, rd2, rd3⟩ := at_P (Kd.R_reads' (Kd.R_below HP.out HBw.out)).2.2 i hlt rfl
      subst ead
      have hmem : xs[i].p ∈ Three.parts l0 l1 l2 := by rw [← HX.out]; exact List.mem_map.2 ⟨_, List.getElem_mem hlt, rfl⟩
      obtain ⟨s1, s2, s3⟩ := parts_small l0 l1 l2 _ hmem
      have hdr : xs.drop i = xs[i] :: xs.drop (i + 1) := List.drop_eq_getElem_cons hlt
      rw [hdr, List.map_cons, Three.merged] at HE
      generalize xs[i] = x at x0 x1 x2 x3 rd1 rd2 rd3 s1 s2 s3 HE
      obtain ⟨⟨cf, O, P, Q⟩, v1, v2, v3⟩ := x
      simp only at x0 x1 x2 x3 rd1 rd2 rd3 s1 s2 s3 HE
      obtain ⟨D1, d1, rfl, y1, r1⟩ := rd1
      obtain ⟨D2, d2, rfl, y2, r2⟩ := rd2
      obtain ⟨D3, d3, rfl, y3, r3⟩ := rd3
      have RD1 : Hid (Rd wr (.slice D1 O.length d1) O) := Lib.hid ⟨D1, d1, rfl, y1, r1⟩
      have RD2 : Hid (Rd wr (.slice D2 P.length d2) P) := Lib.hid ⟨D2, d2, rfl, y2, r2⟩
      have RD3 : Hid (Rd wr (.slice D3 Q.length d3) Q) := Lib.hid ⟨D3, d3, rfl, y3, r3⟩
      clear y1 y2 y3 r1 r2 r3 hdr hmem
      cases cf with
      | true =>
        go_wp2_with fail
        go_ret2
        have hn : Three.merge l0 l1 l2 = none := by rw [← HE.out]; rfl
        rw [hn]
        exact ⟨_, rfl, Kd.R_nil _ _ _ _ _, HB.out.trans (Below.mono (HBw.out.trans (Below.mono (below_alloc (Below.refl _ _) _) HBw.out.size)) HB.out.size)⟩
      | false =>
        go_wp2_with fail
        refine (chosen_calls false O P Q _ _ _ _ (RD1.out.below (below_alloc (Below.refl _ _) _)) (RD2.out.below (below_alloc (Below.refl _ _) _)) (RD3.out.below (below_alloc (Below.refl _ _) _)) (by omega) (by omega) (by omega)).mono ?_
        rintro e w2 ⟨v, rfl, ⟨A4, c4, rfl, hc4, hC⟩, hb⟩
        have hch : (Three.chosen O P Q).length ≤ 400 := by unfold Three.chosen; split <;> omega
        obtain ⟨ch, hchn⟩ : ∃ ch, ch = Three.chosen O P Q := ⟨_, rfl⟩
        rw [← hchn] at hc4 hC hch ⊢
        have HCN := Lib.hid hchn
        have HC := Lib.hid hC
        have HBc : Hid (Below wr.heap.size wr w2) := Lib.hid ((below_alloc (Below.refl _ _) _).trans (hb.mono (by simp)))
        have hs1 : w1.heap.size ≤ wr.heap.size := HBw.out.size
        have hs2 : wr.heap.size ≤ w2.heap.size := HBc.out.size
        clear hchn hC hb
        go_wp2_with (first | (at_builtin; refine Hold.of ?_))
        refine Hold.mk ?_
        refine Kd.R_append_rows Kd.string (w0 := w1) (W := w2) w1.heap.size rfl (.tmp 30) (.tmp 32) 29 9 (.string ⟨#[]⟩) 16 rfl Try.underlying29 infoE rfl (by decide) (by omega) u8 out ch A4 ch.length c4 (fun _ => True) (fun _ => False) rfl rfl (Kd.R_below HO.out HBc.out) HC.out (fun _ _ h => h) (fun _ h => h.elim) (fun _ _ => trivial) (HBw.out.trans (HBc.out.mono hs1)) (by omega) (by have := HL.out; omega) ?_
        intro v9 w3 ho hb9 hg9 hn9
        have HO9 := Lib.hid ho
        have HB9 := Lib.hid hb9
        clear ho hb9 hg9 hn9
        go_wp2_with fail
        go_roundg (xs.length - (i + 1))
        case measure => have := HI.out; omega
        case rel =>
          refine ⟨i + 1, out ++ ch, by go_num, Lib.hid (by omega), HO9, Lib.hid (by have := HL.out; rw [List.length_append]; omega), HB9, Lib.hid ?_⟩
          rw [← HE.out, if_neg Bool.false_ne_true, HCN.out]
          cases Three.merged ((xs.drop (i + 1)).map PV.p) <;> simp
    · have hi : i = xs.length := by have := HI.out; omega
      subst hi
      have hn : Three.merge l0 l1 l2 = some out := by rw [← HE.out, List.drop_length]; simp [Three.merged]
      have HN := Lib.hid hn
      clear hn
      go_wp2_with fail
      go_ret2
      rw [HN.out]
      exact ⟨_, rfl, Kd.R_mono (Kd.R_lower HO.out HB.out.size) (fun _ _ => trivial), HB.out.trans (Below.mono HBw.out HB.out.size)⟩
end Go.Proofs.Ythghpmnbnfbheaa.ThreeString
end

section
namespace Go.Proofs.Ythghpmnbnfbheaa.ThreeString
open Go.RowKit Go.IntWalk Go.Proofs.Ythghpmnbnfbheaa.PRef Go.Proofs.YthghpmnbnfbheaaW.PrintWords Go.Proofs.Ythghpmnbnfbheaa.Lcs
set_option linter.unusedVariables false
set_option linter.unusedSimpArgs false

def cst (p : Nat × Nat) : Int × Int := ((p.1 : Int), (p.2 : Int))
theorem lookup_snoc (l : List (Nat × Nat)) (p : Nat × Nat) (x : Nat) : (l ++ [p]).lookup x = (l.lookup x).or (if p.1 = x then some p.2 else none) := by
  rw [Three.lookup_append]
  congr 1
  by_cases h : p.1 = x
  · rw [if_pos h]
    obtain ⟨u, v⟩ := p
    simp only at h
    subst h
    exact Three.lookup_eq
  · rw [if_neg h, Three.lookup_ne h]
    rfl
theorem lastOf_lookup (l : List (Nat × Nat)) (hl : Three.Rising l) (x : Nat) : XMap.lastOf (l.map cst) (x : Int) = (l.lookup x).map fun v => (v : Int) := by
  have key : ∀ (r l : List (Nat × Nat)), l = r.reverse → Three.Rising l → XMap.lastOf (l.map cst) (x : Int) = (l.lookup x).map fun v => (v : Int) := by
    intro r
    induction r with
    | nil => intro l e _; subst e; rfl
    | cons p r ih =>
      intro l e hl
      rw [List.reverse_cons] at e
      subst e
      have hr : Three.Rising r.reverse := (List.pairwise_append.1 hl).1
      have hlt := (List.pairwise_append.1 hl).2.2
      rw [List.map_append, List.map_singleton, XMap.lastOf_snoc, lookup_snoc, ih _ rfl hr]
      by_cases h : p.1 = x
      · rw [if_pos h, if_pos (by rw [← h]; rfl)]
        have hn : r.reverse.lookup x = none := Three.lookup_none fun y hy => by
          have := hlt y hy p (List.mem_singleton.2 rfl)
          omega
        rw [hn]
        rfl
      · rw [if_neg h, if_neg (fun e => h (by simp only [cst] at e; omega))]
        simp
  exact key l.reverse l (by simp) hl
theorem pairs_plain (l0 l1 : List ByteArray) : Runstring.pairsOf l0 l1 = (pr l0 l1 0 0).map fun p => (⟨(p.1 : Int), (p.2 : Int)⟩ : S81) := by
  unfold Runstring.pairsOf
  rw [pr_map Runstring.key (fun x y h => bytes_inj h)]
theorem ok_pairs (l0 l1 : List ByteArray) (hn : l0.length ≤ 400) (hm : l1.length ≤ 400) : three_standing_string.ok (Runstring.pairsOf l0 l1) = true := by
  have hl : (Runstring.pairsOf l0 l1).length ≤ 1000000 := by
    rw [pairs_plain, List.length_map, pr_length]
    have := L_le_left l0 l1
    omega
  unfold three_standing_string.ok
  rw [Bool.and_eq_true, List.all_eq_true]
  refine ⟨decide_eq_true hl, fun e he => ?_⟩
  rw [pairs_plain] at he
  obtain ⟨p, hp, rfl⟩ := List.mem_map.1 he
  obtain ⟨_, _, y, h1, h2⟩ := Three.good_mem (Three.pr_ok l0 l1) p hp
  have g1 := (List.getElem?_eq_some_iff.1 h1).1
  have g2 := (List.getElem?_eq_some_iff.1 h2).1
  have key : ∀ n : Nat, n ≤ 400 → (Lit.int .i64 (n : Int)).wf = true := by
    intro n hn
    simp only [Lit.wf]
    have hmin : IntKind.i64.min = -9223372036854775808 := rfl
    simp [hmin]
    omega
  rw [Bool.and_eq_true]
  exact ⟨key p.1 (by omega), key p.2 (by omega)⟩
/-- three.standing. -/
theorem standing_ev (l0 l1 l2 : List ByteArray) (h0 : l0.length ≤ 400) (h1 : l1.length ≤ 400) (h2 : l2.length ≤ 400) :
    ∃ k, three_standing_string.f k l0 l1 l2 = some ((Three.stand l0 l1 l2 ++ [(l0.length, l1.length, l2.length)]).map pl) := by
  have hA : At (fun k => three_standing_string.f k l0 l1 l2) (three_standing_string.g (Runstring.pairsOf l0 l2) (Runstring.pairsOf l0 l1) (l0.length : Int) (l1.length : Int) (l2.length : Int)) := by
    unfold three_standing_string.f
    refine (Runstring.pairs l0 l2 h0 h2).bind_at (F := fun k p => (diff_Pairs_string.f k l0 l1).bind fun q => if three_standing_string.ok p = true then (if three_standing_string.ok q = true then some (three_standing_string.g p q (l0.length : Int) (l1.length : Int) (l2.length : Int)) else none) else none) ?_
    refine (Runstring.pairs l0 l1 h0 h1).bind_at (F := fun k q => if three_standing_string.ok (Runstring.pairsOf l0 l2) = true then (if three_standing_string.ok q = true then some (three_standing_string.g (Runstring.pairsOf l0 l2) q (l0.length : Int) (l1.length : Int) (l2.length : Int)) else none) else none) ?_
    exact To.eq fun k => by rw [if_pos (ok_pairs l0 l2 h0 h2), if_pos (ok_pairs l0 l1 h0 h1)]
  obtain ⟨k, hk⟩ := hA.rounds
  refine ⟨k, hk.trans (congrArg some ?_)⟩
  unfold three_standing_string.g
  rw [List.map_append, List.map_singleton]
  congr 1
  rw [pairs_plain, pairs_plain, List.filterMap_map]
  unfold Three.stand
  rw [List.map_filterMap]
  apply Three.filterMap_congr'
  intro p _
  simp only [Function.comp, List.map_map]
  have e : (fun d : S81 => (d.f0, d.f1)) ∘ (fun p : Nat × Nat => (⟨(p.1 : Int), (p.2 : Int)⟩ : S81)) = cst := rfl
  rw [e, lastOf_lookup _ (Three.good_rising (Three.pr_ok l0 l2)) p.1]
  cases List.lookup p.1 (pr l0 l2 0 0) <;> rfl
end Go.Proofs.Ythghpmnbnfbheaa.ThreeString
end
