/- The document's own Parts, as it is called. -/
import Derived.Test.YthghpmnbnfbheaaThreeDoc
namespace Go.Proofs.Ythghpmnbnfbheaa.SeqS
open Go.RowKit Go.Shelf Go.Proofs.Ythghpmnbnfbheaa.SeqM Go.Proofs.Ythghpmnbnfbheaa.PRef Go.Proofs.YthghpmnbnfbheaaW.PrintWords Go.Proofs.YthghpmnbnfbheaaW.PrintLast Go.Proofs.YthghpmnbnfbheaaW.PrintMore Go.Proofs.Ythghpmnbnfbheaa.Lcs
attribute [local go_sem] Oper.semAt_some
set_option linter.unusedVariables false
set_option linter.unusedSimpArgs false
open ThreeString (PV Rd)
/-- Pieces whose rows are parts of what was handed in. -/
def Sl (x : PV) : Prop := (∃ A c, x.v1 = .slice A x.p.o.length c) ∧ (∃ A c, x.v2 = .slice A x.p.a.length c) ∧ ∃ A c, x.v3 = .slice A x.p.b.length c
def kD : Kd PV where
  sz := 4
  E := []
  K := fun _ x cs => cs = [.bool x.p.c, x.v1, x.v2, x.v3] ∧ Sl x
  M := fun _ _ _ x cs => cs = [.bool x.p.c, x.v1, x.v2, x.v3] ∧ Sl x
  K_len := by rintro w x cs ⟨rfl, _⟩; rfl
  K_one := by
    rintro w x cs ⟨rfl, ⟨A1, c1, e1⟩, ⟨A2, c2, e2⟩, ⟨A3, c3, e3⟩⟩ u hu
    rw [e1, e2, e3] at hu
    simp only [List.mem_cons, List.not_mem_nil, or_false] at hu
    rcases hu with rfl | rfl | rfl | rfl <;> rfl
  K_below := by rintro w w1 x cs _ h; exact h
  K_of_M := by rintro w base ok x cs h; exact h
  M_mono := by rintro w base ok ok' x cs _ h; exact h
  M_bound := by rintro w base ok x cs h; exact h
  M_move := by rintro w w1 base ok x cs _ h; exact h
  M_lower := by rintro w base base' ok x cs _ h; exact h
/-- All rows are read. -/
def AllRd (w : World) (xs : List PV) : Prop := ∀ x ∈ xs, Rd w x.v1 x.p.o ∧ Rd w x.v2 x.p.a ∧ Rd w x.v3 x.p.b
theorem AllRd.below {w w' : World} {xs : List PV} (h : AllRd w xs) (hb : Below w.heap.size w w') : AllRd w' xs := fun x hx => ⟨(h x hx).1.below hb, (h x hx).2.1.below hb, (h x hx).2.2.below hb⟩
theorem AllRd.snoc {w : World} {xs : List PV} {x : PV} (h : AllRd w xs) (hx : Rd w x.v1 x.p.o ∧ Rd w x.v2 x.p.a ∧ Rd w x.v3 x.p.b) : AllRd w (xs ++ [x]) := fun y hy => by
  rcases List.mem_append.1 hy with hy | hy
  · exact h y hy
  · rw [List.mem_singleton.1 hy]; exact hx
theorem infoD : (Try.prog.info? 45).map (fun i => (i.zero, i.size, i.bytes)) = some (some (.agg #[.bool false, .slice none 0 0, .slice none 0 0, .slice none 0 0]), 4, 80) := by kernel_rfl
/-- The i-th piece's cells. -/
theorem at_D {w : World} {A : Option Addr} {n : Nat} {xs : List PV} (h : Kd.C kD w A n xs) (i : Nat) (hi : i < xs.length) (hn : n = xs.length) : ∃ ad, A = some ad ∧
    w.cell? (ad.add (i * 4)) = some (.bool xs[i].p.c) ∧ w.cell? ⟨(ad.add (i * 4)).block, (ad.add (i * 4)).off + 1, none⟩ = some xs[i].v1 ∧ w.cell? ⟨(ad.add (i * 4)).block, (ad.add (i * 4)).off + 2, none⟩ = some xs[i].v2 ∧ w.cell? ⟨(ad.add (i * 4)).block, (ad.add (i * 4)).off + 3, none⟩ = some xs[i].v3 := by
  subst hn
  obtain ⟨ad, c, e, hc, hk, hg⟩ := Kd.C_get h ThreeString.zP (i : Int) (by omega) (by omega)
  have hx : xs.getD (i : Int).toNat ThreeString.zP = xs[i] := by simp [List.getD_eq_getElem?_getD, hi]
  rw [hx] at hk
  obtain ⟨rfl, _⟩ := hk
  have hs : kD.sz = 4 := rfl
  rw [hs] at hg
  refine ⟨ad, e, ?_, ?_, ?_, ?_⟩
  · have := hg 0 _ rfl; simpa using this
  · rw [← add_field _ _ 1 (by omega)]; have := hg 1 _ rfl; simpa using this
  · rw [← add_field _ _ 2 (by omega)]; have := hg 2 _ rfl; simpa using this
  · rw [← add_field _ _ 3 (by omega)]; have := hg 3 _ rfl; simpa using this
/-- append of a piece. -/
theorem app_D {ops : Array Oper} {rest : List Oper} {o : Oper} {a : Act} {Q : Exit → Act → World → Prop} {w0 W W2 : World} {n : Nat} (B : Nat) (hgd : o.guard = none) (s x : Operand)
    (ho : o.op = .call { callee := .builtin .append, args := #[s, x], argTypes := #[43, 43] }) (y : PV) (hW : W2 = (W.drewN n).alloc (.cells #[.bool y.p.c, y.v1, y.v2, y.v3] 45))
    (lv : Value) (xs : List PV) (hs : a.eval s = lv) (hx : a.eval x = .slice (some ⟨W.heap.size, 0, none⟩) 1 1) (hy : Sl y)
    (HO : Kd.R kD 45 W B (fun _ => True) lv xs) (HB : Below B w0 W) (hbase : B ≤ W.heap.size) (hl : xs.length ≤ 1000000)
    (h : ∀ v1 w1, Kd.R kD 45 w1 B (fun _ => True) v1 (xs ++ [y]) → Below B w0 w1 → wpList Try.prog ops Q rest (a.put o.dst v1) w1) :
    wpList Try.prog ops Q (o :: rest) a W2 := by
  subst hW
  refine Kd.R_append kD (w0 := w0) (W := W.drewN n) B hgd s x 43 45 (.agg #[.bool false, .slice none 0 0, .slice none 0 0, .slice none 0 0]) 80 ho Try.underlying43 infoD rfl (by decide) (by omega) lv xs y [.bool y.p.c, y.v1, y.v2, y.v3] (fun _ => True) (fun _ => False) hs hx
    ⟨rfl, hy⟩ (fun _ h => h.elim) (fun _ _ => trivial) (Kd.R_drewN HO n) (pw_below_drewN HB n) hbase (by omega) ?_
  intro v1 w1 ho hb hg hat
  exact h v1 w1 ho hb
/-- A number in a row that is read. -/
theorem ints_at {W : World} {A : Option Addr} {l : List Int} (h : Kd.C (Kd.int .i64) W A l.length l) (k : Nat) (hk : k < l.length) (x : Int) (hx : l.getD k 0 = x) : ∃ ad, A = some ad ∧ (ad.add k).block < W.heap.size ∧ W.cell? (ad.add k) = some (.int .i64 x) := by
  obtain ⟨ad, e, hc⟩ := ReadsOf.at_ (Kd.reads_of_C (d := (0 : Int)) h) (k : Int) (by omega) (by omega)
  have hc' : W.cell? (ad.add k) = some (.int .i64 x) := by
    rw [Int.toNat_natCast] at hc
    rw [hc, ← hx]
    simp [rdOf, List.getD_eq_getElem?_getD]
  exact ⟨ad, e, World.block_lt_of_cell? W _ hc', hc'⟩
theorem wrapS {a b : Nat} (h : a + b ≤ 1000000) : IntKind.i64.wrap ((a : Int) + (b : Int)) = ((a + b : Nat) : Int) := by
  simp [IntKind.wrap, IntKind.signed, IntKind.bits]
  omega
/-- A part of a row. -/
theorem cut_tx (A : Option Addr) (c : Nat) (mm : List ByteArray) (i j : Nat) (hij : i ≤ j) (hj : j ≤ mm.length) (hc : mm.length ≤ c) (x y : Int) (hx : x = (i : Int)) (hy : y = (j : Int)) : ∃ (A' : Option Addr) (c' : Nat),
    (∀ W : World, (Instr.slice 29 (.slice A mm.length c) (some (.int .i64 x)) (some (.int .i64 y)) none).run Try.prog W = .ok (.slice A' (Three.cut mm i j).length c') W) ∧ ∀ w, TX w A c mm → TX w A' c' (Three.cut mm i j) := by
  subst hx hy
  obtain ⟨i0, hi, hz0, hz1, hz2⟩ := info_parts ThreeString.infoE
  obtain ⟨A', h1, h2, h3⟩ := print_mid_of (P := Try.prog) Value.string (⟨#[]⟩ : ByteArray) 29 9 .i64 .i64 Try.underlying29 hi hz1 A c mm (i : Int) (j : Int) (by omega) (by omega) (by omega) hc
  rw [Int.toNat_natCast, Int.toNat_natCast] at h1 h2 h3
  exact ⟨A', c - i, h1, fun w hT => ⟨Kd.C_of_reads (d := (⟨#[]⟩ : ByteArray)) (h1 := fun _ => rfl) (h2 w (Kd.reads_of_C hT.1)), h3⟩⟩
theorem TX.rd {W : World} {A : Option Addr} {c : Nat} {l : List ByteArray} (h : TX W A c l) : Rd W (.slice A l.length c) l := ⟨A, c, rfl, h.2, h.1⟩
/-- Behind the loose piece, if there is one. -/
def Met (o a b : List ByteArray) (at_ p : Three.Pl) (w w2 : World) (xs : List PV) (v : Value) (W : World) : Prop :=
  ∃ xs' : List PV, Hid (Kd.R kD 45 W w2.heap.size (fun _ => True) v xs') ∧ Hid (xs'.map PV.p = xs.map PV.p ++ (if p = at_ then [] else [Three.loose o a b at_ p])) ∧ Hid (AllRd w xs') ∧ Hid (xs'.length ≤ xs.length + 1) ∧ Hid (Below w2.heap.size w2 W)
theorem none_met {o a b : List ByteArray} {at_ p : Three.Pl} {w w2 : World} {xs : List PV} {v : Value} {W : World} (h1 : Hid (Kd.R kD 45 W w2.heap.size (fun _ => True) v xs)) (h2 : Hid (AllRd w xs)) (h3 : Hid (Below w2.heap.size w2 W)) (h : p = at_) : Met o a b at_ p w w2 xs v W :=
  ⟨xs, h1, Lib.hid (by rw [if_pos h, List.append_nil]), h2, Lib.hid (Nat.le_succ _), h3⟩
theorem piece_met {o a b : List ByteArray} {at_ p : Three.Pl} {w w2 w5 : World} {xs : List PV} {v v' : Value} {A1 B1 D1 : Option Addr} {c1 d1 f1 : Nat} {O1 P1 Q1 : List ByteArray}
    (h1 : Hid (Kd.R kD 45 w5 w2.heap.size (fun _ => True) v (xs ++ [⟨⟨Three.clash O1 P1 Q1, O1, P1, Q1⟩, .slice A1 O1.length c1, .slice B1 P1.length d1, .slice D1 Q1.length f1⟩]))) (h2 : Hid (Below w2.heap.size w2 w5))
    (h3 : Hid (AllRd w xs)) (t1 : Hid (TX w A1 c1 O1)) (t2 : Hid (TX w B1 d1 P1)) (t3 : Hid (TX w D1 f1 Q1)) (hv : v' = v)
    (e1 : Hid (O1 = Three.cut o at_.1 p.1)) (e2 : Hid (P1 = Three.cut a at_.2.1 p.2.1)) (e3 : Hid (Q1 = Three.cut b at_.2.2 p.2.2)) (hne : p ≠ at_) : Met o a b at_ p w w2 xs v' w5 := by
  subst hv
  refine ⟨_, h1, Lib.hid ?_, Lib.hid (h3.out.snoc ⟨t1.out.rd, t2.out.rd, t3.out.rd⟩), Lib.hid (by simp), h2⟩
  rw [if_neg hne, List.map_append, List.map_singleton, e1.out, e2.out, e3.out]
  rfl
/-- What the document's Parts come to. -/
def DocPost (o a b : List ByteArray) (wz w : World) (e : Ending) (w' : World) : Prop :=
  ∃ (v : Value) (xs : List PV), e = .returned v ∧ Kd.R kD 45 w' w.heap.size (fun _ => True) v xs ∧ xs.map PV.p = Three.parts o a b ∧ AllRd wz xs ∧ Below w.heap.size w w'
set_option maxHeartbeats 8000000 in
set_option maxRecDepth 100000 in
theorem doc_parts (A B D : Option Addr) (c d f : Nat) (o a b : List ByteArray) (wz w : World) (ho : TX wz A c o) (ha : TX wz B d a) (hb : TX wz D f b) (hz : Below wz.heap.size wz w) (l0 : o.length ≤ 400) (l1 : a.length ≤ 400) (l2 : b.length ≤ 400) :
    Calls Try.prog 22 #[.slice A o.length c, .slice B a.length d, .slice D b.length f] w (DocPost o a b wz w) := by
  have HOz := Lib.hid ho
  have HAz := Lib.hid ha
  have HBz := Lib.hid hb
  have HZ := Lib.hid hz
  have HO := Lib.hid (ho.below hz)
  have HA := Lib.hid (ha.below hz)
  have HBb := Lib.hid (hb.below hz)
  have g0 : decide ((400 : Int) < (o.length : Int)) = false := by simp; omega
  have g1 : decide ((400 : Int) < (a.length : Int)) = false := by simp; omega
  have g2 : decide ((400 : Int) < (b.length : Int)) = false := by simp; omega
  clear ho ha hb hz
  go_enter Try.func22, Try.ntmps22
  go_wp2_with fail
  refine (places_calls A B c d o a _ HO.out HA.out l0 l1).mono ?_
  rintro e w1 ⟨A7, c7, rfl, hC7, hc7, hb1⟩
  have HC7 := Lib.hid hC7
  have HB1 := Lib.hid hb1
  clear hC7 hb1
  go_wp2_with fail
  refine (places_calls A D c f o b _ (HO.out.below HB1.out) (HBb.out.below HB1.out) l0 l2).mono ?_
  rintro e w2 ⟨A8, c8, rfl, hC8, hc8, hb2⟩
  replace HC7 := Lib.hid (Kd.C_below HC7.out hb2)
  have HB2 := Lib.hid (HB1.out.trans (hb2.mono HB1.out.size))
  have HC8 := Lib.hid hC8
  clear hC8 hb2 HB1
  obtain ⟨X, hX⟩ : ∃ X, X = RefRun.plList o a := ⟨_, rfl⟩
  obtain ⟨Y, hY⟩ : ∃ Y, Y = RefRun.plList o b := ⟨_, rfl⟩
  rw [← hX] at HC7 hc7 ⊢
  rw [← hY] at HC8 hc8 ⊢
  have lX : X.length = o.length := by rw [hX, RefRun.plList_length]
  have lY : Y.length = o.length := by rw [hY, RefRun.plList_length]
  have HX := Lib.hid hX
  have HY := Lib.hid hY
  clear hX hY
  go_wp2_with fail
  go_loopg [9, 10, 11, 12, 13, 14, 15, 16] (o.length + 1) (fun g v9 v10 v11 v12 v13 v14 v15 v16 w' => ∃ (at_ : Three.Pl) (xs : List PV), v10 = .int .i64 (at_.1 : Int) ∧ v11 = .int .i64 (at_.2.1 : Int) ∧ v12 = .int .i64 (at_.2.2 : Int) ∧ Hid (at_.1 + g = o.length + 1) ∧
      Hid (Kd.R kD 45 w' w2.heap.size (fun _ => True) v9 xs) ∧ Hid (xs.length ≤ 2 * at_.1) ∧ Hid (AllRd wz xs) ∧ Hid (Three.GoodAt o a b at_) ∧ Hid (xs.map PV.p ++ Three.refR o a b (Three.stFrom o a b at_.1) at_ = Three.parts o a b) ∧ Hid (Below w2.heap.size w2 w'))
  case atStart =>
    refine ⟨(0, 0, 0), [], rfl, rfl, rfl, Lib.hid (by simp), Lib.hid (Kd.R_nil _ _ _ _ _), Lib.hid (by simp), Lib.hid (fun x hx => by cases hx), Lib.hid (Three.goodAt_start o a b), Lib.hid ?_, Lib.hid (Below.refl _ _)⟩
    show [] ++ Three.refR o a b (Three.stFrom o a b 0) (0, 0, 0) = _
    rw [Three.stFrom_zero]
    rfl
  case round =>
    obtain ⟨at_, xs, rfl, rfl, rfl, HI, HR, HL, HRd, HG, HE, HB⟩ := hrel
    obtain ⟨p0, p1, p2⟩ := at_
    obtain ⟨z0, z1, z2⟩ := HG.out.2
    simp only [Three.endP] at z0 z1 z2
    obtain ⟨wo, rfl⟩ : ∃ W : World, W = wr := ⟨wr, rfl⟩
    go_wp2_with fail
    go_loopg [13] (o.length - p0) (fun g v13 w' => ∃ k : Nat, v13 = .int .i64 (k : Int) ∧ Hid (k + g = o.length) ∧ Hid (p0 ≤ k) ∧ Hid (∀ j, p0 ≤ j → j < k → Three.gAt o a b j = none) ∧ Hid (Below wo.heap.size wo w'))
    case atStart => exact ⟨p0, rfl, Lib.hid (by omega), Lib.hid (Nat.le_refl _), Lib.hid (fun j h1 h2 => by omega), Lib.hid (Below.refl _ _)⟩
    case round =>
      obtain ⟨k, rfl, HK, HP, HN, HBk⟩ := hrel
      by_cases hk : k < o.length
      · obtain ⟨ad7, rfl, hb7, hx7⟩ := ints_at HC7.out k (by rw [lX]; exact hk) (Three.plOf o a k) (by rw [HX.out]; exact RefRun.plList_getD o a k hk)
        obtain ⟨ad8, rfl, hb8, hy8⟩ := ints_at HC8.out k (by rw [lY]; exact hk) (Three.plOf o b k) (by rw [HY.out]; exact RefRun.plList_getD o b k hk)
        have BW : Below w2.heap.size w2 wr := HB.out.trans (HBk.out.mono HB.out.size)
        have hx := (BW.cell hb7).trans hx7
        have hy := (BW.cell hb8).trans hy8
        have BW' := Lib.hid BW
        have hgn := Three.gAt_none o a b k
        have hgs := Three.gAt_of o a b k
        obtain ⟨xk, hxk⟩ : ∃ x, x = Three.plOf o a k := ⟨_, rfl⟩
        obtain ⟨yk, hyk⟩ : ∃ y, y = Three.plOf o b k := ⟨_, rfl⟩
        rw [← hxk] at hx hgn hgs
        rw [← hyk] at hy hgn hgs
        have HGN := Lib.hid hgn
        have HGS := Lib.hid hgs
        have HXK := Lib.hid hxk
        have HYK := Lib.hid hyk
        clear BW hx7 hy8 hgn hgs hxk hyk
        by_cases h1 : xk < 0
        · have d1 : decide (xk < 0) = true := decide_eq_true h1
          go_wp2_with fail
          go_roundg (o.length - (k + 1))
          case measure => have := HK.out; omega
          case rel => exact ⟨k + 1, by go_num, Lib.hid (by have := HK.out; omega), Lib.hid (by have := HP.out; omega), Lib.hid (fun j j1 j2 => by
            by_cases e : j = k
            · rw [e]; exact HGN.out.2 (.inl h1)
            · exact HN.out j j1 (by omega)), HBk⟩
        · have d1 : decide (xk < 0) = false := decide_eq_false h1
          by_cases h2 : yk < 0
          · have d2 : decide (yk < 0) = true := decide_eq_true h2
            go_wp2_with fail
            go_roundg (o.length - (k + 1))
            case measure => have := HK.out; omega
            case rel => exact ⟨k + 1, by go_num, Lib.hid (by have := HK.out; omega), Lib.hid (by have := HP.out; omega), Lib.hid (fun j j1 j2 => by
              by_cases e : j = k
              · rw [e]; exact HGN.out.2 (.inr h2)
              · exact HN.out j j1 (by omega)), HBk⟩
          · have d2 : decide (yk < 0) = false := decide_eq_false h2
            obtain ⟨u, v, e1, e2, hg⟩ := HGS.out (by omega) (by omega)
            subst e1 e2
            obtain ⟨⟨q0, q1, q2⟩, ⟨r0, r1, r2⟩, hf, hGn⟩ := Three.good_next HG.out HP.out hk HN.out hg
            simp only [Three.addP, Three.endP] at q0 q1 q2 r0 r1 r2
            have HGn := Lib.hid hGn
            have HGk := Lib.hid hg
            clear hf hg hGn HGN HGS
            have HRk : Hid (Kd.R kD 45 wr w2.heap.size (fun _ => True) u9 xs) := Lib.hid (Kd.R_below HR.out HBk.out)
            go_upto_region 11 with fail
            go_quiet (fail)
            obtain ⟨W0, hW0, HR0, HB0⟩ : ∃ W0, wr.drewN nq = W0 ∧ Hid (Kd.R kD 45 W0 w2.heap.size (fun _ => True) u9 xs) ∧ Hid (Below w2.heap.size w2 W0) := ⟨_, rfl, Lib.hid (Kd.R_drewN HRk.out nq), Lib.hid (pw_below_drewN BW'.out nq)⟩
            rw [hW0]
            clear hW0
            go_upto_region 12 with fail
            obtain ⟨tt, htt⟩ : ∃ t, t = !decide (((k, u, v) : Three.Pl) = (p0, p1, p2)) := ⟨_, rfl⟩
            go_cut [85] (fun v85 W => v85 = .bool tt ∧ W = W0)
            case first =>
              by_cases e0 : p0 < k
              · have b0 : decide ((p0 : Int) < (k : Int)) = true := decide_eq_true (by omega)
                have b0' : decide (p0 < k) = true := decide_eq_true (by omega)
                have ht : tt = true := by rw [htt]; simp only [Bool.not_eq_true', decide_eq_false_iff_not, Prod.mk.injEq]; omega
                go_wp2_with fail
                go_meet
                exact ⟨by rw [ht], rfl⟩
              · have b0 : decide ((p0 : Int) < (k : Int)) = false := decide_eq_false (by omega)
                have b0' : decide (p0 < k) = false := decide_eq_false (by omega)
                by_cases e1 : p1 < u
                · have b1 : decide ((p1 : Int) < (u : Int)) = true := decide_eq_true (by omega)
                  have b1' : decide (p1 < u) = true := decide_eq_true (by omega)
                  have ht : tt = true := by rw [htt]; simp only [Bool.not_eq_true', decide_eq_false_iff_not, Prod.mk.injEq]; omega
                  go_wp2_with fail
                  go_meet
                  exact ⟨by rw [ht], rfl⟩
                · have b1 : decide ((p1 : Int) < (u : Int)) = false := decide_eq_false (by omega)
                  have b1' : decide (p1 < u) = false := decide_eq_false (by omega)
                  by_cases e2 : p2 < v
                  · have b2 : decide ((p2 : Int) < (v : Int)) = true := decide_eq_true (by omega)
                    have b2' : decide (p2 < v) = true := decide_eq_true (by omega)
                    have ht : tt = true := by rw [htt]; simp only [Bool.not_eq_true', decide_eq_false_iff_not, Prod.mk.injEq]; omega
                    go_wp2_with fail
                    go_meet
                    exact ⟨by rw [ht], rfl⟩
                  · have b2 : decide ((p2 : Int) < (v : Int)) = false := decide_eq_false (by omega)
                    have b2' : decide (p2 < v) = false := decide_eq_false (by omega)
                    have ht : tt = false := by rw [htt]; simp only [Bool.not_eq_false', decide_eq_true_eq, Prod.mk.injEq]; omega
                    go_wp2_with fail
                    go_meet
                    exact ⟨by rw [ht], rfl⟩
            case rest =>
              obtain ⟨rfl, hwc⟩ := hcut
              obtain rfl := hwc.symm
              have HTT := Lib.hid htt
              clear htt
              go_upto_if 85 with fail
              go_cut [9] (fun v9 W => Met o a b (p0, p1, p2) (k, u, v) wz w2 xs v9 W)
              case first =>
                cases tt with
                | true =>
                  obtain ⟨A1, c1, sl1, tx1⟩ := cut_tx A c o p0 k (by omega) (by omega) HO.out.2 _ _ rfl rfl
                  have ln1 := Three.cut_length o p0 k (by omega)
                  have HT1 := Lib.hid (tx1 _ HOz.out)
                  obtain ⟨O1, hO1⟩ : ∃ X, X = Three.cut o p0 k := ⟨_, rfl⟩
                  rw [← hO1] at sl1 ln1 HT1
                  have HO1 := Lib.hid hO1
                  have HLn1 := Lib.hid ln1
                  clear tx1 hO1 ln1
                  obtain ⟨B1, d1, sl2, tx2⟩ := cut_tx B d a p1 u (by omega) (by omega) HA.out.2 _ _ rfl rfl
                  have ln2 := Three.cut_length a p1 u (by omega)
                  have HT2 := Lib.hid (tx2 _ HAz.out)
                  obtain ⟨P1, hP1⟩ : ∃ X, X = Three.cut a p1 u := ⟨_, rfl⟩
                  rw [← hP1] at sl2 ln2 HT2
                  have HP1 := Lib.hid hP1
                  have HLn2 := Lib.hid ln2
                  clear tx2 hP1 ln2
                  obtain ⟨D1, f1, sl3, tx3⟩ := cut_tx D f b p2 v (by omega) (by omega) HBb.out.2 _ _ rfl rfl
                  have ln3 := Three.cut_length b p2 v (by omega)
                  have HT3 := Lib.hid (tx3 _ HBz.out)
                  obtain ⟨Q1, hQ1⟩ : ∃ X, X = Three.cut b p2 v := ⟨_, rfl⟩
                  rw [← hQ1] at sl3 ln3 HT3
                  have HQ1 := Lib.hid hQ1
                  have HLn3 := Lib.hid ln3
                  clear tx3 hQ1 ln3
                  have hne : ¬ ((k, u, v) : Three.Pl) = (p0, p1, p2) := by intro h; have h2 := HTT.out; rw [h] at h2; simp at h2
                  have HNE := Lib.hid hne
                  clear hne
                  go_wp2_with fail
                  refine wp_region_noPanic ?_
                  refine start_ (n := 17) (S := fun _ => True) (ds := []) #[false, false, false, false, false, false, false, false, false, false, false, false, false, false, false, false, false] (by rfl) (by rfl) (by rfl) trivial (fun hHeld => ?_)
                  refine take_ (i := 0) (N := some 86) (v := ?_) (a' := ?_) #[true, false, false, false, false, false, false, false, false, false, false, false, false, false, false, false, false] rfl rfl (by kernel_rfl) (fun _ _ _ h => h) (Or.inl ⟨by rfl, ?_⟩) hHeld ?_ ?_
                  rotate_left
                  · intro w' _
                    go_simp
                    try with_reducible rfl
                  rotate_left
                  · simp only [Act.put, List.setIfInBounds_toArray, List.set_cons_zero, List.set_cons_succ]
                    rfl
                  refine take_ (i := 1) (N := some 87) (v := ?_) (a' := ?_) #[true, true, false, false, false, false, false, false, false, false, false, false, false, false, false, false, false] rfl rfl (by kernel_rfl) (fun _ _ _ h => h) (Or.inl ⟨by rfl, ?_⟩) hHeld ?_ ?_
                  rotate_left
                  · intro w' _
                    go_simp
                    try with_reducible rfl
                  rotate_left
                  · simp only [Act.put, List.setIfInBounds_toArray, List.set_cons_zero, List.set_cons_succ]
                    rfl
                  refine take_ (i := 2) (N := some 88) (v := ?_) (a' := ?_) #[true, true, true, false, false, false, false, false, false, false, false, false, false, false, false, false, false] rfl rfl (by kernel_rfl) (fun _ _ _ h => h) (Or.inl ⟨by rfl, ?_⟩) hHeld ?_ ?_
                  rotate_left
                  · intro w' _
                    go_simp
                    try with_reducible rfl
                  rotate_left
                  · simp only [Act.put, List.setIfInBounds_toArray, List.set_cons_zero, List.set_cons_succ]
                    rfl
                  refine take_ (i := 3) (N := some 89) (v := ?_) (a' := ?_) #[true, true, true, true, false, false, false, false, false, false, false, false, false, false, false, false, false] rfl rfl (by kernel_rfl) (fun _ _ _ h => h) (Or.inl ⟨by rfl, ?_⟩) hHeld ?_ ?_
                  rotate_left
                  · intro w' _
                    go_simp
                    try with_reducible rfl
                  rotate_left
                  · simp only [Act.put, List.setIfInBounds_toArray, List.set_cons_zero, List.set_cons_succ]
                    rfl
                  refine take_ (i := 4) (N := some 90) (v := ?_) (a' := ?_) #[true, true, true, true, true, false, false, false, false, false, false, false, false, false, false, false, false] rfl rfl (by kernel_rfl) (fun _ _ _ h => h) (Or.inl ⟨by rfl, ?_⟩) hHeld ?_ ?_
                  rotate_left
                  · intro w' _
                    go_simp
                    try with_reducible rfl
                  rotate_left
                  · simp only [Act.put, List.setIfInBounds_toArray, List.set_cons_zero, List.set_cons_succ]
                    rfl
                  refine take_ (i := 5) (N := some 91) (v := ?_) (a' := ?_) #[true, true, true, true, true, true, false, false, false, false, false, false, false, false, false, false, false] rfl rfl (by kernel_rfl) (fun _ _ _ h => h) (Or.inl ⟨by rfl, ?_⟩) hHeld ?_ ?_
                  rotate_left
                  · intro w' _
                    go_simp
                    try with_reducible rfl
                  rotate_left
                  · simp only [Act.put, List.setIfInBounds_toArray, List.set_cons_zero, List.set_cons_succ]
                    rfl
                  refine take_ (i := 6) (N := some 92) (v := ?_) (a' := ?_) #[true, true, true, true, true, true, true, false, false, false, false, false, false, false, false, false, false] rfl rfl (by kernel_rfl) (fun _ _ _ h => h) (Or.inl ⟨by rfl, ?_⟩) hHeld ?_ ?_
                  rotate_left
                  · intro w' _
                    go_simp
                    try with_reducible rfl
                  rotate_left
                  · simp only [Act.put, List.setIfInBounds_toArray, List.set_cons_zero, List.set_cons_succ]
                    rfl
                  refine take_ (i := 7) (N := some 93) (v := ?_) (a' := ?_) #[true, true, true, true, true, true, true, true, false, false, false, false, false, false, false, false, false] rfl rfl (by kernel_rfl) (fun _ _ _ h => h) (Or.inl ⟨by rfl, ?_⟩) hHeld ?_ ?_
                  rotate_left
                  · intro w' _
                    go_simp
                    try with_reducible rfl
                  rotate_left
                  · simp only [Act.put, List.setIfInBounds_toArray, List.set_cons_zero, List.set_cons_succ]
                    rfl
                  refine take_ (i := 8) (N := some 94) (v := ?_) (a' := ?_) #[true, true, true, true, true, true, true, true, true, false, false, false, false, false, false, false, false] rfl rfl (by kernel_rfl) (fun _ _ _ h => h) (Or.inl ⟨by rfl, ?_⟩) hHeld ?_ ?_
                  rotate_left
                  · intro w' _
                    go_simp
                    try with_reducible rfl
                  rotate_left
                  · simp only [Act.put, List.setIfInBounds_toArray, List.set_cons_zero, List.set_cons_succ]
                    rfl
                  refine take_ (i := 9) (N := some 95) (v := ?_) (a' := ?_) #[true, true, true, true, true, true, true, true, true, true, false, false, false, false, false, false, false] rfl rfl (by kernel_rfl) (fun _ _ _ h => h) (Or.inl ⟨by rfl, ?_⟩) hHeld ?_ ?_
                  rotate_left
                  · intro w' _
                    go_simp
                    try with_reducible rfl
                  rotate_left
                  · simp only [Act.put, List.setIfInBounds_toArray, List.set_cons_zero, List.set_cons_succ]
                    rfl
                  refine take_ (i := 10) (N := some 96) (v := ?_) (a' := ?_) #[true, true, true, true, true, true, true, true, true, true, true, false, false, false, false, false, false] rfl rfl (by kernel_rfl) (fun _ _ _ h => h) (Or.inl ⟨by rfl, ?_⟩) hHeld ?_ ?_
                  rotate_left
                  · intro w' _
                    go_simp
                    try with_reducible rfl
                  rotate_left
                  · simp only [Act.put, List.setIfInBounds_toArray, List.set_cons_zero, List.set_cons_succ]
                    rfl
                  refine take_ (i := 11) (N := some 97) (v := ?_) (a' := ?_) #[true, true, true, true, true, true, true, true, true, true, true, true, false, false, false, false, false] rfl rfl (by kernel_rfl) (fun _ _ _ h => h) (Or.inl ⟨by rfl, ?_⟩) hHeld ?_ ?_
                  rotate_left
                  · intro w' _
                    go_simp
                    try with_reducible rfl
                  rotate_left
                  · simp only [Act.put, List.setIfInBounds_toArray, List.set_cons_zero, List.set_cons_succ]
                    rfl
                  refine take_ (i := 12) (N := some 98) (v := ?_) (a' := ?_) #[true, true, true, true, true, true, true, true, true, true, true, true, true, false, false, false, false] rfl rfl (by kernel_rfl) (fun _ _ _ h => h) (Or.inl ⟨by rfl, ?_⟩) hHeld ?_ ?_
                  rotate_left
                  · intro w' _
                    go_simp
                    try with_reducible rfl
                  rotate_left
                  · simp only [Act.put, List.setIfInBounds_toArray, List.set_cons_zero, List.set_cons_succ]
                    rfl
                  refine one_ (i := 13) (N := some 99) #[true, true, true, true, true, true, true, true, true, true, true, true, true, true, false, false, false] rfl rfl (by kernel_rfl) (by decide) (fun K hK => ?_)
                  go_simp
                  have HD0 := Lib.hid (HZ.out.trans ((HB2.out.trans ((HB0.out.trans ((ThreeString.drewn W0).mono HB0.out.size)).mono HB2.out.size)).mono HZ.out.size))
                  with_reducible refine Calls.mono (loose_calls A1 B1 D1 c1 d1 f1 O1 P1 Q1 W0.drew (HT1.out.below HD0.out) (HT2.out.below HD0.out) (HT3.out.below HD0.out) (by have := HLn1.out; omega) (by have := HLn2.out; omega) (by have := HLn3.out; omega)) ?_
                  rintro e w4 ⟨rfl, hb4⟩
                  have HB4 := Lib.hid ((ThreeString.drewn W0).trans hb4)
                  clear hb4
                  refine hK.out _ _ trivial (fun hHeld => ?_)
                  clear hK K
                  try simp only [Act.put, List.setIfInBounds_toArray, List.set_cons_zero, List.set_cons_succ]
                  refine one_ (i := 14) (N := some 100) #[true, true, true, true, true, true, true, true, true, true, true, true, true, true, true, false, false] rfl rfl (by kernel_rfl) (by decide) (fun K hK => ?_)
                  go_simp
                  refine hK.out _ _ trivial (fun hHeld => ?_)
                  clear hK K
                  try simp only [Act.put, List.setIfInBounds_toArray, List.set_cons_zero, List.set_cons_succ]
                  refine one_ (i := 15) (N := some 101) #[true, true, true, true, true, true, true, true, true, true, true, true, true, true, true, true, false] rfl rfl (by kernel_rfl) (by decide) (fun K hK => ?_)
                  refine Kd.R_append_step kD (w0 := w2) w2.heap.size (by rfl) (.tmp 86) (.tmp 100) 43 45 (.agg #[.bool false, .slice none 0 0, .slice none 0 0, .slice none 0 0]) 80 (by rfl) Try.underlying43 infoD rfl (by decide) (by omega) _ xs ⟨⟨Three.clash O1 P1 Q1, O1, P1, Q1⟩, .slice A1 O1.length c1, .slice B1 P1.length d1, .slice D1 Q1.length f1⟩ _ (fun _ => True) (fun _ => False) (by rfl) (by rfl) ⟨rfl, ⟨⟨_, _, rfl⟩, ⟨_, _, rfl⟩, ⟨_, _, rfl⟩⟩⟩ (fun _ h => h.elim) (fun _ _ => trivial) (Kd.R_below HR0.out HB4.out) (HB0.out.trans (HB4.out.mono HB0.out.size)) (HB0.out.trans (HB4.out.mono HB0.out.size)).size (by have := HL.out; omega) ?_
                  intro lv' w5 ho hb5 hg hat
                  have HO5 := Lib.hid ho
                  have HB5 := Lib.hid hb5
                  clear ho hb5 hg hat
                  refine hK.out _ _ trivial (fun hHeld => ?_)
                  clear hK K
                  try simp only [Act.put, List.setIfInBounds_toArray, List.set_cons_zero, List.set_cons_succ]
                  refine one_ (i := 16) (N := some 9) #[true, true, true, true, true, true, true, true, true, true, true, true, true, true, true, true, true] rfl rfl (by kernel_rfl) (by decide) (fun K hK => ?_)
                  go_simp
                  refine hK.out _ _ trivial (fun hHeld => ?_)
                  clear hK K
                  try simp only [Act.put, List.setIfInBounds_toArray, List.set_cons_zero, List.set_cons_succ]
                  refine done_ (by kernel_rfl) ?_
                  refine NoPanic.normal ?_
                  go_wp2_with fail
                  go_meet
                  exact piece_met HO5 HB5 HRd HT1 HT2 HT3 (by first | rfl | simp) HO1 HP1 HQ1 HNE.out
                | false =>
                  go_wp2_with fail
                  go_meet
                  exact none_met HR0 HRd HB0 (by have h2 := HTT.out; simpa using h2)
              case rest =>
                obtain ⟨xs1, HR1, HE1, HRd1, HL1, HB1⟩ := hcut
                clear HRk hx hy
                go_wp2_with fail
                go_loopg [16] (o.length - (k + 1)) (fun g v16 w' => ∃ n : Nat, v16 = .int .i64 (n : Int) ∧ Hid (k + n + g = o.length) ∧ Hid (1 ≤ n) ∧ Hid (∀ i, 1 ≤ i → i < n → Three.gAt o a b (k + i) = some (Three.addP (k, u, v) i)) ∧ Hid (Below wc.heap.size wc w'))
                case atStart => exact ⟨1, rfl, Lib.hid (by omega), Lib.hid (Nat.le_refl _), Lib.hid (fun i h1 h2 => by omega), Lib.hid (Below.refl _ _)⟩
                case round =>
                  obtain ⟨n, rfl, HK2, HP2, HN2, HBn⟩ := hrel
                  obtain ⟨⟨_, s0, s1, s2⟩⟩ : Nonempty (Three.GoodAt o a b (Three.addP (k, u, v) n)) := ⟨HGn.out n HP2.out (by have := HK2.out; omega) HN2.out⟩
                  simp only [Three.addP, Three.endP] at s0 s1 s2
                  have hn1 := HP2.out
                  obtain ⟨t2, ht2⟩ : ∃ t, t = decide (k + n < o.length ∧ Three.gAt o a b (k + n) = some (k + n, u + n, v + n)) := ⟨_, rfl⟩
                  go_upto_region 17 with fail
                  go_cut [136] (fun v136 W => v136 = .bool t2 ∧ W = wr)
                  case first =>
                    by_cases hk2 : k + n < o.length
                    · have c0 : decide ((k : Int) + (n : Int) < (o.length : Int)) = true := decide_eq_true (by omega)
                      obtain ⟨ad7', ea7, hb7', hx7⟩ := ints_at HC7.out (k + n) (by rw [lX]; exact hk2) (Three.plOf o a (k + n)) (by rw [HX.out]; exact RefRun.plList_getD o a (k + n) hk2)
                      obtain ⟨ad8', ea8, hb8', hy8⟩ := ints_at HC8.out (k + n) (by rw [lY]; exact hk2) (Three.plOf o b (k + n)) (by rw [HY.out]; exact RefRun.plList_getD o b (k + n) hk2)
                      obtain rfl := Option.some.inj ea7
                      obtain rfl := Option.some.inj ea8
                      have BW2 : Below w2.heap.size w2 wr := HB1.out.trans (HBn.out.mono HB1.out.size)
                      have hx := (BW2.cell hb7').trans hx7
                      have hy := (BW2.cell hb8').trans hy8
                      have hgs := Three.gAt_some o a b (k + n) (u + n) (v + n)
                      obtain ⟨xk, hxk⟩ : ∃ x, x = Three.plOf o a (k + n) := ⟨_, rfl⟩
                      obtain ⟨yk, hyk⟩ : ∃ y, y = Three.plOf o b (k + n) := ⟨_, rfl⟩
                      rw [← hxk] at hx hgs
                      rw [← hyk] at hy hgs
                      replace ht2 : t2 = decide (k + n < o.length ∧ (xk = ((u + n : Nat) : Int) ∧ yk = ((v + n : Nat) : Int))) := ht2.trans (decide_eq_decide.2 (by rw [hgs]))
                      clear BW2 hx7 hy8 hgs hxk hyk ea7 ea8
                      by_cases h1 : xk = (u : Int) + (n : Int)
                      · have d1 : decide (xk = (u : Int) + (n : Int)) = true := decide_eq_true h1
                        by_cases h2 : yk = (v : Int) + (n : Int)
                        · have d2 : decide (yk = (v : Int) + (n : Int)) = true := decide_eq_true h2
                          have ht : t2 = true := by rw [ht2]; exact decide_eq_true ⟨hk2, by rw [h1]; omega, by rw [h2]; omega⟩
                          clear ht2
                          go_wp2_with fail
                          go_meet
                          exact ⟨by rw [ht], rfl⟩
                        · have d2 : decide (yk = (v : Int) + (n : Int)) = false := decide_eq_false h2
                          have d2' : (yk == (v : Int) + (n : Int)) = false := beq_false_of_ne h2
                          have ht : t2 = false := by rw [ht2]; exact decide_eq_false (fun h => h2 (by rw [h.2.2]; omega))
                          clear ht2
                          go_wp2_with fail
                          go_meet
                          exact ⟨by rw [ht], rfl⟩
                      · have d1 : decide (xk = (u : Int) + (n : Int)) = false := decide_eq_false h1
                        have d1' : (xk == (u : Int) + (n : Int)) = false := beq_false_of_ne h1
                        have ht : t2 = false := by rw [ht2]; exact decide_eq_false (fun h => h1 (by rw [h.2.1]; omega))
                        clear ht2
                        go_wp2_with fail
                        go_meet
                        exact ⟨by rw [ht], rfl⟩
                    · have c0 : decide ((k : Int) + (n : Int) < (o.length : Int)) = false := decide_eq_false (by omega)
                      have ht : t2 = false := by rw [ht2]; exact decide_eq_false (fun h => hk2 h.1)
                      clear ht2
                      go_wp2_with fail
                      go_meet
                      exact ⟨by rw [ht], rfl⟩
                  case rest =>
                    obtain ⟨rfl, hwc⟩ := hcut
                    obtain rfl := hwc.symm
                    have HT2' := Lib.hid ht2
                    clear ht2 hwc
                    cases t2 with
                    | true =>
                      have hh := of_decide_eq_true HT2'.out.symm
                      have HH := Lib.hid hh
                      clear hh
                      go_wp2_with fail
                      go_roundg (o.length - (k + n + 1))
                      case measure => have := HK2.out; have := HH.out.1; omega
                      case rel => exact ⟨n + 1, by go_num, Lib.hid (by have := HK2.out; have := HH.out.1; omega), Lib.hid (by omega), Lib.hid (fun j j1 j2 => by
                        by_cases e : j = n
                        · subst e; exact HH.out.2
                        · exact HN2.out j j1 (by omega)), HBn⟩
                    | false =>
                      have hh := of_decide_eq_false HT2'.out.symm
                      have hE := Three.ref_next o a b (at_ := (p0, p1, p2)) (p := (k, u, v)) (k := k) (n := n) HP.out hk HN.out HGk.out HP2.out s0 HN2.out (fun h e => hh ⟨h, e⟩)
                      have HE2 := Lib.hid hE
                      clear hh hE
                      obtain ⟨A1, c1, sl1, tx1⟩ := cut_tx A c o k (k + n) (by omega) (by omega) HO.out.2 _ (IntKind.i64.wrap ((k : Int) + (n : Int))) rfl (wrapS (by omega))
                      have HT1 := Lib.hid (tx1 _ HOz.out)
                      obtain ⟨O1, hO1⟩ : ∃ X, X = Three.cut o k (k + n) := ⟨_, rfl⟩
                      rw [← hO1] at sl1 HT1
                      have HO1 := Lib.hid hO1
                      clear tx1 hO1
                      obtain ⟨B1, d1, sl2, tx2⟩ := cut_tx B d a u (u + n) (by omega) (by omega) HA.out.2 _ (IntKind.i64.wrap ((u : Int) + (n : Int))) rfl (wrapS (by omega))
                      have HT2 := Lib.hid (tx2 _ HAz.out)
                      obtain ⟨P1, hP1⟩ : ∃ X, X = Three.cut a u (u + n) := ⟨_, rfl⟩
                      rw [← hP1] at sl2 HT2
                      have HP1 := Lib.hid hP1
                      clear tx2 hP1
                      obtain ⟨D1, f1, sl3, tx3⟩ := cut_tx D f b v (v + n) (by omega) (by omega) HBb.out.2 _ (IntKind.i64.wrap ((v : Int) + (n : Int))) rfl (wrapS (by omega))
                      have HT3 := Lib.hid (tx3 _ HBz.out)
                      obtain ⟨Q1, hQ1⟩ : ∃ X, X = Three.cut b v (v + n) := ⟨_, rfl⟩
                      rw [← hQ1] at sl3 HT3
                      have HQ1 := Lib.hid hQ1
                      clear tx3 hQ1
                      have hbn := HB1.out.trans (HBn.out.mono HB1.out.size)
                      have HBN := Lib.hid hbn
                      have HRn : Hid (Kd.R kD 45 wr w2.heap.size (fun _ => True) u9 xs1) := Lib.hid (Kd.R_below HR1.out HBn.out)
                      clear hbn
                      go_wp2_with fail
                      refine wp_region_noPanic ?_
                      refine start_ (n := 23) (S := fun _ => True) (ds := []) #[false, false, false, false, false, false, false, false, false, false, false, false, false, false, false, false, false, false, false, false, false, false, false] (by rfl) (by rfl) (by rfl) trivial (fun hHeld => ?_)
                      refine take_ (i := 0) (N := some 139) (v := ?_) (a' := ?_) #[true, false, false, false, false, false, false, false, false, false, false, false, false, false, false, false, false, false, false, false, false, false, false] rfl rfl (by kernel_rfl) (fun _ _ _ h => h) (Or.inl ⟨by rfl, ?_⟩) hHeld ?_ ?_
                      rotate_left
                      · intro w' _
                        go_simp
                        try with_reducible rfl
                      rotate_left
                      · simp only [Act.put, List.setIfInBounds_toArray, List.set_cons_zero, List.set_cons_succ]
                        rfl
                      refine take_ (i := 1) (N := some 140) (v := ?_) (a' := ?_) #[true, true, false, false, false, false, false, false, false, false, false, false, false, false, false, false, false, false, false, false, false, false, false] rfl rfl (by kernel_rfl) (fun _ _ _ h => h) (Or.inl ⟨by rfl, ?_⟩) hHeld ?_ ?_
                      rotate_left
                      · intro w' _
                        go_simp
                        try with_reducible rfl
                      rotate_left
                      · simp only [Act.put, List.setIfInBounds_toArray, List.set_cons_zero, List.set_cons_succ]
                        rfl
                      refine take_ (i := 2) (N := some 141) (v := ?_) (a' := ?_) #[true, true, true, false, false, false, false, false, false, false, false, false, false, false, false, false, false, false, false, false, false, false, false] rfl rfl (by kernel_rfl) (fun _ _ _ h => h) (Or.inl ⟨by rfl, ?_⟩) hHeld ?_ ?_
                      rotate_left
                      · intro w' _
                        go_simp
                        try with_reducible rfl
                      rotate_left
                      · simp only [Act.put, List.setIfInBounds_toArray, List.set_cons_zero, List.set_cons_succ]
                        rfl
                      refine take_ (i := 3) (N := some 142) (v := ?_) (a' := ?_) #[true, true, true, true, false, false, false, false, false, false, false, false, false, false, false, false, false, false, false, false, false, false, false] rfl rfl (by kernel_rfl) (fun _ _ _ h => h) (Or.inl ⟨by rfl, ?_⟩) hHeld ?_ ?_
                      rotate_left
                      · intro w' _
                        go_simp
                        try with_reducible rfl
                      rotate_left
                      · simp only [Act.put, List.setIfInBounds_toArray, List.set_cons_zero, List.set_cons_succ]
                        rfl
                      refine take_ (i := 4) (N := some 143) (v := ?_) (a' := ?_) #[true, true, true, true, true, false, false, false, false, false, false, false, false, false, false, false, false, false, false, false, false, false, false] rfl rfl (by kernel_rfl) (fun _ _ _ h => h) (Or.inl ⟨by rfl, ?_⟩) hHeld ?_ ?_
                      rotate_left
                      · intro w' _
                        go_simp
                        try with_reducible rfl
                      rotate_left
                      · simp only [Act.put, List.setIfInBounds_toArray, List.set_cons_zero, List.set_cons_succ]
                        rfl
                      refine take_ (i := 5) (N := some 144) (v := ?_) (a' := ?_) #[true, true, true, true, true, true, false, false, false, false, false, false, false, false, false, false, false, false, false, false, false, false, false] rfl rfl (by kernel_rfl) (fun _ _ _ h => h) (Or.inl ⟨by rfl, ?_⟩) hHeld ?_ ?_
                      rotate_left
                      · intro w' _
                        go_simp
                        try with_reducible rfl
                      rotate_left
                      · simp only [Act.put, List.setIfInBounds_toArray, List.set_cons_zero, List.set_cons_succ]
                        rfl
                      refine take_ (i := 6) (N := some 145) (v := ?_) (a' := ?_) #[true, true, true, true, true, true, true, false, false, false, false, false, false, false, false, false, false, false, false, false, false, false, false] rfl rfl (by kernel_rfl) (fun _ _ _ h => h) (Or.inl ⟨by rfl, ?_⟩) hHeld ?_ ?_
                      rotate_left
                      · intro w' _
                        go_simp
                        try with_reducible rfl
                      rotate_left
                      · simp only [Act.put, List.setIfInBounds_toArray, List.set_cons_zero, List.set_cons_succ]
                        rfl
                      refine take_ (i := 7) (N := some 146) (v := ?_) (a' := ?_) #[true, true, true, true, true, true, true, true, false, false, false, false, false, false, false, false, false, false, false, false, false, false, false] rfl rfl (by kernel_rfl) (fun _ _ _ h => h) (Or.inl ⟨by rfl, ?_⟩) hHeld ?_ ?_
                      rotate_left
                      · intro w' _
                        go_simp
                        try with_reducible rfl
                      rotate_left
                      · simp only [Act.put, List.setIfInBounds_toArray, List.set_cons_zero, List.set_cons_succ]
                        rfl
                      refine take_ (i := 8) (N := some 147) (v := ?_) (a' := ?_) #[true, true, true, true, true, true, true, true, true, false, false, false, false, false, false, false, false, false, false, false, false, false, false] rfl rfl (by kernel_rfl) (fun _ _ _ h => h) (Or.inl ⟨by rfl, ?_⟩) hHeld ?_ ?_
                      rotate_left
                      · intro w' _
                        go_simp
                        try with_reducible rfl
                      rotate_left
                      · simp only [Act.put, List.setIfInBounds_toArray, List.set_cons_zero, List.set_cons_succ]
                        rfl
                      refine take_ (i := 9) (N := some 148) (v := ?_) (a' := ?_) #[true, true, true, true, true, true, true, true, true, true, false, false, false, false, false, false, false, false, false, false, false, false, false] rfl rfl (by kernel_rfl) (fun _ _ _ h => h) (Or.inl ⟨by rfl, ?_⟩) hHeld ?_ ?_
                      rotate_left
                      · intro w' _
                        go_simp
                        try with_reducible rfl
                      rotate_left
                      · simp only [Act.put, List.setIfInBounds_toArray, List.set_cons_zero, List.set_cons_succ]
                        rfl
                      refine take_ (i := 10) (N := some 149) (v := ?_) (a' := ?_) #[true, true, true, true, true, true, true, true, true, true, true, false, false, false, false, false, false, false, false, false, false, false, false] rfl rfl (by kernel_rfl) (fun _ _ _ h => h) (Or.inl ⟨by rfl, ?_⟩) hHeld ?_ ?_
                      rotate_left
                      · intro w' _
                        go_simp
                        try with_reducible rfl
                      rotate_left
                      · simp only [Act.put, List.setIfInBounds_toArray, List.set_cons_zero, List.set_cons_succ]
                        rfl
                      refine take_ (i := 11) (N := some 150) (v := ?_) (a' := ?_) #[true, true, true, true, true, true, true, true, true, true, true, true, false, false, false, false, false, false, false, false, false, false, false] rfl rfl (by kernel_rfl) (fun _ _ _ h => h) (Or.inl ⟨by rfl, ?_⟩) hHeld ?_ ?_
                      rotate_left
                      · intro w' _
                        go_simp
                        try with_reducible rfl
                      rotate_left
                      · simp only [Act.put, List.setIfInBounds_toArray, List.set_cons_zero, List.set_cons_succ]
                        rfl
                      refine take_ (i := 12) (N := some 151) (v := ?_) (a' := ?_) #[true, true, true, true, true, true, true, true, true, true, true, true, true, false, false, false, false, false, false, false, false, false, false] rfl rfl (by kernel_rfl) (fun _ _ _ h => h) (Or.inl ⟨by rfl, ?_⟩) hHeld ?_ ?_
                      rotate_left
                      · intro w' _
                        go_simp
                        try with_reducible rfl
                      rotate_left
                      · simp only [Act.put, List.setIfInBounds_toArray, List.set_cons_zero, List.set_cons_succ]
                        rfl
                      refine take_ (i := 13) (N := some 152) (v := ?_) (a' := ?_) #[true, true, true, true, true, true, true, true, true, true, true, true, true, true, false, false, false, false, false, false, false, false, false] rfl rfl (by kernel_rfl) (fun _ _ _ h => h) (Or.inl ⟨by rfl, ?_⟩) hHeld ?_ ?_
                      rotate_left
                      · intro w' _
                        go_simp
                        try with_reducible rfl
                      rotate_left
                      · simp only [Act.put, List.setIfInBounds_toArray, List.set_cons_zero, List.set_cons_succ]
                        rfl
                      refine take_ (i := 14) (N := some 153) (v := ?_) (a' := ?_) #[true, true, true, true, true, true, true, true, true, true, true, true, true, true, true, false, false, false, false, false, false, false, false] rfl rfl (by kernel_rfl) (fun _ _ _ h => h) (Or.inl ⟨by rfl, ?_⟩) hHeld ?_ ?_
                      rotate_left
                      · intro w' _
                        go_simp
                        try with_reducible rfl
                      rotate_left
                      · simp only [Act.put, List.setIfInBounds_toArray, List.set_cons_zero, List.set_cons_succ]
                        rfl
                      refine take_ (i := 15) (N := some 154) (v := ?_) (a' := ?_) #[true, true, true, true, true, true, true, true, true, true, true, true, true, true, true, true, false, false, false, false, false, false, false] rfl rfl (by kernel_rfl) (fun _ _ _ h => h) (Or.inl ⟨by rfl, ?_⟩) hHeld ?_ ?_
                      rotate_left
                      · intro w' _
                        go_simp
                        try with_reducible rfl
                      rotate_left
                      · simp only [Act.put, List.setIfInBounds_toArray, List.set_cons_zero, List.set_cons_succ]
                        rfl
                      refine take_ (i := 16) (N := some 155) (v := ?_) (a' := ?_) #[true, true, true, true, true, true, true, true, true, true, true, true, true, true, true, true, true, false, false, false, false, false, false] rfl rfl (by kernel_rfl) (fun _ _ _ h => h) (Or.inl ⟨by rfl, ?_⟩) hHeld ?_ ?_
                      rotate_left
                      · intro w' _
                        go_simp
                        try with_reducible rfl
                      rotate_left
                      · simp only [Act.put, List.setIfInBounds_toArray, List.set_cons_zero, List.set_cons_succ]
                        rfl
                      refine take_ (i := 17) (N := some 156) (v := ?_) (a' := ?_) #[true, true, true, true, true, true, true, true, true, true, true, true, true, true, true, true, true, true, false, false, false, false, false] rfl rfl (by kernel_rfl) (fun _ _ _ h => h) (Or.inl ⟨by rfl, ?_⟩) hHeld ?_ ?_
                      rotate_left
                      · intro w' _
                        go_simp
                        try with_reducible rfl
                      rotate_left
                      · simp only [Act.put, List.setIfInBounds_toArray, List.set_cons_zero, List.set_cons_succ]
                        rfl
                      refine take_ (i := 18) (N := some 157) (v := ?_) (a' := ?_) #[true, true, true, true, true, true, true, true, true, true, true, true, true, true, true, true, true, true, true, false, false, false, false] rfl rfl (by kernel_rfl) (fun _ _ _ h => h) (Or.inl ⟨by rfl, ?_⟩) hHeld ?_ ?_
                      rotate_left
                      · intro w' _
                        go_simp
                        try with_reducible rfl
                      rotate_left
                      · simp only [Act.put, List.setIfInBounds_toArray, List.set_cons_zero, List.set_cons_succ]
                        rfl
                      refine take_ (i := 19) (N := some 158) (v := ?_) (a' := ?_) #[true, true, true, true, true, true, true, true, true, true, true, true, true, true, true, true, true, true, true, true, false, false, false] rfl rfl (by kernel_rfl) (fun _ _ _ h => h) (Or.inl ⟨by rfl, ?_⟩) hHeld ?_ ?_
                      rotate_left
                      · intro w' _
                        go_simp
                        try with_reducible rfl
                      rotate_left
                      · simp only [Act.put, List.setIfInBounds_toArray, List.set_cons_zero, List.set_cons_succ]
                        rfl
                      refine one_ (i := 20) (N := some 159) #[true, true, true, true, true, true, true, true, true, true, true, true, true, true, true, true, true, true, true, true, true, false, false] rfl rfl (by kernel_rfl) (by decide) (fun K hK => ?_)
                      go_simp
                      refine hK.out _ _ trivial (fun hHeld => ?_)
                      clear hK K
                      try simp only [Act.put, List.setIfInBounds_toArray, List.set_cons_zero, List.set_cons_succ]
                      refine one_ (i := 21) (N := some 160) #[true, true, true, true, true, true, true, true, true, true, true, true, true, true, true, true, true, true, true, true, true, true, false] rfl rfl (by kernel_rfl) (by decide) (fun K hK => ?_)
                      refine Kd.R_append_step kD (w0 := w2) w2.heap.size (by rfl) (.tmp 139) (.tmp 159) 43 45 (.agg #[.bool false, .slice none 0 0, .slice none 0 0, .slice none 0 0]) 80 (by rfl) Try.underlying43 infoD rfl (by decide) (by omega) _ xs1 ⟨⟨false, O1, P1, Q1⟩, .slice A1 O1.length c1, .slice B1 P1.length d1, .slice D1 Q1.length f1⟩ _ (fun _ => True) (fun _ => False) (by rfl) (by rfl) ⟨rfl, ⟨⟨_, _, rfl⟩, ⟨_, _, rfl⟩, ⟨_, _, rfl⟩⟩⟩ (fun _ h => h.elim) (fun _ _ => trivial) (Kd.R_below HRn.out (ThreeString.drewn wr)) (HBN.out.trans ((ThreeString.drewn wr).mono HBN.out.size)) (HBN.out.trans ((ThreeString.drewn wr).mono HBN.out.size)).size (by have := HL.out; have := HL1.out; omega) ?_
                      intro lv' w5 ho hb5 hg hat
                      have HO5 := Lib.hid ho
                      have HB5 := Lib.hid hb5
                      clear ho hb5 hg hat
                      refine hK.out _ _ trivial (fun hHeld => ?_)
                      clear hK K
                      try simp only [Act.put, List.setIfInBounds_toArray, List.set_cons_zero, List.set_cons_succ]
                      refine one_ (i := 22) (N := some 9) #[true, true, true, true, true, true, true, true, true, true, true, true, true, true, true, true, true, true, true, true, true, true, true] rfl rfl (by kernel_rfl) (by decide) (fun K hK => ?_)
                      go_simp
                      refine hK.out _ _ trivial (fun hHeld => ?_)
                      clear hK K
                      try simp only [Act.put, List.setIfInBounds_toArray, List.set_cons_zero, List.set_cons_succ]
                      refine done_ (by kernel_rfl) ?_
                      refine NoPanic.normal ?_
                      go_wp2_with fail
                      go_roundg (o.length + 1 - (k + n))
                      case measure => have := HI.out; have := HP.out; omega
                      case rel =>
                        refine ⟨(k + n, u + n, v + n), xs1 ++ [⟨⟨false, O1, P1, Q1⟩, .slice A1 O1.length c1, .slice B1 P1.length d1, .slice D1 Q1.length f1⟩], by go_num, by go_num, by go_num, Lib.hid (by show k + n + _ = _; omega), HO5, Lib.hid ?_, Lib.hid (HRd1.out.snoc ⟨HT1.out.rd, HT2.out.rd, HT3.out.rd⟩), Lib.hid (HGn.out n HP2.out s0 HN2.out), Lib.hid ?_, HB5⟩
                        · have := HL.out; have := HL1.out; have := HP.out; rw [List.length_append, List.length_singleton]; show _ ≤ 2 * (k + n); omega
                        · rw [← HE.out, HE2.out, List.map_append, HE1.out, List.map_singleton, HO1.out, HP1.out, HQ1.out, List.append_assoc, List.append_assoc]
                          rfl
      · obtain rfl : k = o.length := by have := HK.out; omega
        have hE := Three.ref_end o a b (at_ := (p0, p1, p2)) z0 HN.out
        have HE2 := Lib.hid hE
        clear hE
        have BW' := Lib.hid (HB.out.trans (HBk.out.mono HB.out.size))
        have HRk : Hid (Kd.R kD 45 wr w2.heap.size (fun _ => True) u9 xs) := Lib.hid (Kd.R_below HR.out HBk.out)
        obtain ⟨W0, hW0, HR0, HB0⟩ : ∃ W0, wr = W0 ∧ Hid (Kd.R kD 45 W0 w2.heap.size (fun _ => True) u9 xs) ∧ Hid (Below w2.heap.size w2 W0) := ⟨_, rfl, HRk, BW'⟩
        rw [hW0]
        clear hW0
        go_upto_region 12 with fail
        obtain ⟨tt, htt⟩ : ∃ t, t = !decide (((o.length, a.length, b.length) : Three.Pl) = (p0, p1, p2)) := ⟨_, rfl⟩
        go_cut [85] (fun v85 W => v85 = .bool tt ∧ W = W0)
        case first =>
          by_cases e0 : p0 < o.length
          · have b0 : decide ((p0 : Int) < (o.length : Int)) = true := decide_eq_true (by omega)
            have b0' : decide (p0 < o.length) = true := decide_eq_true (by omega)
            have ht : tt = true := by rw [htt]; simp only [Bool.not_eq_true', decide_eq_false_iff_not, Prod.mk.injEq]; omega
            go_wp2_with fail
            go_meet
            exact ⟨by rw [ht], rfl⟩
          · have b0 : decide ((p0 : Int) < (o.length : Int)) = false := decide_eq_false (by omega)
            have b0' : decide (p0 < o.length) = false := decide_eq_false (by omega)
            by_cases e1 : p1 < a.length
            · have b1 : decide ((p1 : Int) < (a.length : Int)) = true := decide_eq_true (by omega)
              have b1' : decide (p1 < a.length) = true := decide_eq_true (by omega)
              have ht : tt = true := by rw [htt]; simp only [Bool.not_eq_true', decide_eq_false_iff_not, Prod.mk.injEq]; omega
              go_wp2_with fail
              go_meet
              exact ⟨by rw [ht], rfl⟩
            · have b1 : decide ((p1 : Int) < (a.length : Int)) = false := decide_eq_false (by omega)
              have b1' : decide (p1 < a.length) = false := decide_eq_false (by omega)
              by_cases e2 : p2 < b.length
              · have b2 : decide ((p2 : Int) < (b.length : Int)) = true := decide_eq_true (by omega)
                have b2' : decide (p2 < b.length) = true := decide_eq_true (by omega)
                have ht : tt = true := by rw [htt]; simp only [Bool.not_eq_true', decide_eq_false_iff_not, Prod.mk.injEq]; omega
                go_wp2_with fail
                go_meet
                exact ⟨by rw [ht], rfl⟩
              · have b2 : decide ((p2 : Int) < (b.length : Int)) = false := decide_eq_false (by omega)
                have b2' : decide (p2 < b.length) = false := decide_eq_false (by omega)
                have ht : tt = false := by rw [htt]; simp only [Bool.not_eq_false', decide_eq_true_eq, Prod.mk.injEq]; omega
                go_wp2_with fail
                go_meet
                exact ⟨by rw [ht], rfl⟩
        case rest =>
          obtain ⟨rfl, hwc⟩ := hcut
          obtain rfl := hwc.symm
          have HTT := Lib.hid htt
          clear htt
          go_upto_if 85 with fail
          go_cut [9] (fun v9 W => Met o a b (p0, p1, p2) (o.length, a.length, b.length) wz w2 xs v9 W)
          case first =>
            cases tt with
            | true =>
              obtain ⟨A1, c1, sl1, tx1⟩ := cut_tx A c o p0 o.length (by omega) (by omega) HO.out.2 _ _ rfl rfl
              have ln1 := Three.cut_length o p0 o.length (by omega)
              have HT1 := Lib.hid (tx1 _ HOz.out)
              obtain ⟨O1, hO1⟩ : ∃ X, X = Three.cut o p0 o.length := ⟨_, rfl⟩
              rw [← hO1] at sl1 ln1 HT1
              have HO1 := Lib.hid hO1
              have HLn1 := Lib.hid ln1
              clear tx1 hO1 ln1
              obtain ⟨B1, d1, sl2, tx2⟩ := cut_tx B d a p1 a.length (by omega) (by omega) HA.out.2 _ _ rfl rfl
              have ln2 := Three.cut_length a p1 a.length (by omega)
              have HT2 := Lib.hid (tx2 _ HAz.out)
              obtain ⟨P1, hP1⟩ : ∃ X, X = Three.cut a p1 a.length := ⟨_, rfl⟩
              rw [← hP1] at sl2 ln2 HT2
              have HP1 := Lib.hid hP1
              have HLn2 := Lib.hid ln2
              clear tx2 hP1 ln2
              obtain ⟨D1, f1, sl3, tx3⟩ := cut_tx D f b p2 b.length (by omega) (by omega) HBb.out.2 _ _ rfl rfl
              have ln3 := Three.cut_length b p2 b.length (by omega)
              have HT3 := Lib.hid (tx3 _ HBz.out)
              obtain ⟨Q1, hQ1⟩ : ∃ X, X = Three.cut b p2 b.length := ⟨_, rfl⟩
              rw [← hQ1] at sl3 ln3 HT3
              have HQ1 := Lib.hid hQ1
              have HLn3 := Lib.hid ln3
              clear tx3 hQ1 ln3
              have hne : ¬ ((o.length, a.length, b.length) : Three.Pl) = (p0, p1, p2) := by intro h; have h2 := HTT.out; rw [h] at h2; simp at h2
              have HNE := Lib.hid hne
              clear hne
              go_wp2_with fail
              refine wp_region_noPanic ?_
              refine start_ (n := 17) (S := fun _ => True) (ds := []) #[false, false, false, false, false, false, false, false, false, false, false, false, false, false, false, false, false] (by rfl) (by rfl) (by rfl) trivial (fun hHeld => ?_)
              refine take_ (i := 0) (N := some 86) (v := ?_) (a' := ?_) #[true, false, false, false, false, false, false, false, false, false, false, false, false, false, false, false, false] rfl rfl (by kernel_rfl) (fun _ _ _ h => h) (Or.inl ⟨by rfl, ?_⟩) hHeld ?_ ?_
              rotate_left
              · intro w' _
                go_simp
                try with_reducible rfl
              rotate_left
              · simp only [Act.put, List.setIfInBounds_toArray, List.set_cons_zero, List.set_cons_succ]
                rfl
              refine take_ (i := 1) (N := some 87) (v := ?_) (a' := ?_) #[true, true, false, false, false, false, false, false, false, false, false, false, false, false, false, false, false] rfl rfl (by kernel_rfl) (fun _ _ _ h => h) (Or.inl ⟨by rfl, ?_⟩) hHeld ?_ ?_
              rotate_left
              · intro w' _
                go_simp
                try with_reducible rfl
              rotate_left
              · simp only [Act.put, List.setIfInBounds_toArray, List.set_cons_zero, List.set_cons_succ]
                rfl
              refine take_ (i := 2) (N := some 88) (v := ?_) (a' := ?_) #[true, true, true, false, false, false, false, false, false, false, false, false, false, false, false, false, false] rfl rfl (by kernel_rfl) (fun _ _ _ h => h) (Or.inl ⟨by rfl, ?_⟩) hHeld ?_ ?_
              rotate_left
              · intro w' _
                go_simp
                try with_reducible rfl
              rotate_left
              · simp only [Act.put, List.setIfInBounds_toArray, List.set_cons_zero, List.set_cons_succ]
                rfl
              refine take_ (i := 3) (N := some 89) (v := ?_) (a' := ?_) #[true, true, true, true, false, false, false, false, false, false, false, false, false, false, false, false, false] rfl rfl (by kernel_rfl) (fun _ _ _ h => h) (Or.inl ⟨by rfl, ?_⟩) hHeld ?_ ?_
              rotate_left
              · intro w' _
                go_simp
                try with_reducible rfl
              rotate_left
              · simp only [Act.put, List.setIfInBounds_toArray, List.set_cons_zero, List.set_cons_succ]
                rfl
              refine take_ (i := 4) (N := some 90) (v := ?_) (a' := ?_) #[true, true, true, true, true, false, false, false, false, false, false, false, false, false, false, false, false] rfl rfl (by kernel_rfl) (fun _ _ _ h => h) (Or.inl ⟨by rfl, ?_⟩) hHeld ?_ ?_
              rotate_left
              · intro w' _
                go_simp
                try with_reducible rfl
              rotate_left
              · simp only [Act.put, List.setIfInBounds_toArray, List.set_cons_zero, List.set_cons_succ]
                rfl
              refine take_ (i := 5) (N := some 91) (v := ?_) (a' := ?_) #[true, true, true, true, true, true, false, false, false, false, false, false, false, false, false, false, false] rfl rfl (by kernel_rfl) (fun _ _ _ h => h) (Or.inl ⟨by rfl, ?_⟩) hHeld ?_ ?_
              rotate_left
              · intro w' _
                go_simp
                try with_reducible rfl
              rotate_left
              · simp only [Act.put, List.setIfInBounds_toArray, List.set_cons_zero, List.set_cons_succ]
                rfl
              refine take_ (i := 6) (N := some 92) (v := ?_) (a' := ?_) #[true, true, true, true, true, true, true, false, false, false, false, false, false, false, false, false, false] rfl rfl (by kernel_rfl) (fun _ _ _ h => h) (Or.inl ⟨by rfl, ?_⟩) hHeld ?_ ?_
              rotate_left
              · intro w' _
                go_simp
                try with_reducible rfl
              rotate_left
              · simp only [Act.put, List.setIfInBounds_toArray, List.set_cons_zero, List.set_cons_succ]
                rfl
              refine take_ (i := 7) (N := some 93) (v := ?_) (a' := ?_) #[true, true, true, true, true, true, true, true, false, false, false, false, false, false, false, false, false] rfl rfl (by kernel_rfl) (fun _ _ _ h => h) (Or.inl ⟨by rfl, ?_⟩) hHeld ?_ ?_
              rotate_left
              · intro w' _
                go_simp
                try with_reducible rfl
              rotate_left
              · simp only [Act.put, List.setIfInBounds_toArray, List.set_cons_zero, List.set_cons_succ]
                rfl
              refine take_ (i := 8) (N := some 94) (v := ?_) (a' := ?_) #[true, true, true, true, true, true, true, true, true, false, false, false, false, false, false, false, false] rfl rfl (by kernel_rfl) (fun _ _ _ h => h) (Or.inl ⟨by rfl, ?_⟩) hHeld ?_ ?_
              rotate_left
              · intro w' _
                go_simp
                try with_reducible rfl
              rotate_left
              · simp only [Act.put, List.setIfInBounds_toArray, List.set_cons_zero, List.set_cons_succ]
                rfl
              refine take_ (i := 9) (N := some 95) (v := ?_) (a' := ?_) #[true, true, true, true, true, true, true, true, true, true, false, false, false, false, false, false, false] rfl rfl (by kernel_rfl) (fun _ _ _ h => h) (Or.inl ⟨by rfl, ?_⟩) hHeld ?_ ?_
              rotate_left
              · intro w' _
                go_simp
                try with_reducible rfl
              rotate_left
              · simp only [Act.put, List.setIfInBounds_toArray, List.set_cons_zero, List.set_cons_succ]
                rfl
              refine take_ (i := 10) (N := some 96) (v := ?_) (a' := ?_) #[true, true, true, true, true, true, true, true, true, true, true, false, false, false, false, false, false] rfl rfl (by kernel_rfl) (fun _ _ _ h => h) (Or.inl ⟨by rfl, ?_⟩) hHeld ?_ ?_
              rotate_left
              · intro w' _
                go_simp
                try with_reducible rfl
              rotate_left
              · simp only [Act.put, List.setIfInBounds_toArray, List.set_cons_zero, List.set_cons_succ]
                rfl
              refine take_ (i := 11) (N := some 97) (v := ?_) (a' := ?_) #[true, true, true, true, true, true, true, true, true, true, true, true, false, false, false, false, false] rfl rfl (by kernel_rfl) (fun _ _ _ h => h) (Or.inl ⟨by rfl, ?_⟩) hHeld ?_ ?_
              rotate_left
              · intro w' _
                go_simp
                try with_reducible rfl
              rotate_left
              · simp only [Act.put, List.setIfInBounds_toArray, List.set_cons_zero, List.set_cons_succ]
                rfl
              refine take_ (i := 12) (N := some 98) (v := ?_) (a' := ?_) #[true, true, true, true, true, true, true, true, true, true, true, true, true, false, false, false, false] rfl rfl (by kernel_rfl) (fun _ _ _ h => h) (Or.inl ⟨by rfl, ?_⟩) hHeld ?_ ?_
              rotate_left
              · intro w' _
                go_simp
                try with_reducible rfl
              rotate_left
              · simp only [Act.put, List.setIfInBounds_toArray, List.set_cons_zero, List.set_cons_succ]
                rfl
              refine one_ (i := 13) (N := some 99) #[true, true, true, true, true, true, true, true, true, true, true, true, true, true, false, false, false] rfl rfl (by kernel_rfl) (by decide) (fun K hK => ?_)
              go_simp
              have HD0 := Lib.hid (HZ.out.trans ((HB2.out.trans ((HB0.out.trans ((ThreeString.drewn W0).mono HB0.out.size)).mono HB2.out.size)).mono HZ.out.size))
              with_reducible refine Calls.mono (loose_calls A1 B1 D1 c1 d1 f1 O1 P1 Q1 W0.drew (HT1.out.below HD0.out) (HT2.out.below HD0.out) (HT3.out.below HD0.out) (by have := HLn1.out; omega) (by have := HLn2.out; omega) (by have := HLn3.out; omega)) ?_
              rintro e w4 ⟨rfl, hb4⟩
              have HB4 := Lib.hid ((ThreeString.drewn W0).trans hb4)
              clear hb4
              refine hK.out _ _ trivial (fun hHeld => ?_)
              clear hK K
              try simp only [Act.put, List.setIfInBounds_toArray, List.set_cons_zero, List.set_cons_succ]
              refine one_ (i := 14) (N := some 100) #[true, true, true, true, true, true, true, true, true, true, true, true, true, true, true, false, false] rfl rfl (by kernel_rfl) (by decide) (fun K hK => ?_)
              go_simp
              refine hK.out _ _ trivial (fun hHeld => ?_)
              clear hK K
              try simp only [Act.put, List.setIfInBounds_toArray, List.set_cons_zero, List.set_cons_succ]
              refine one_ (i := 15) (N := some 101) #[true, true, true, true, true, true, true, true, true, true, true, true, true, true, true, true, false] rfl rfl (by kernel_rfl) (by decide) (fun K hK => ?_)
              refine Kd.R_append_step kD (w0 := w2) w2.heap.size (by rfl) (.tmp 86) (.tmp 100) 43 45 (.agg #[.bool false, .slice none 0 0, .slice none 0 0, .slice none 0 0]) 80 (by rfl) Try.underlying43 infoD rfl (by decide) (by omega) _ xs ⟨⟨Three.clash O1 P1 Q1, O1, P1, Q1⟩, .slice A1 O1.length c1, .slice B1 P1.length d1, .slice D1 Q1.length f1⟩ _ (fun _ => True) (fun _ => False) (by rfl) (by rfl) ⟨rfl, ⟨⟨_, _, rfl⟩, ⟨_, _, rfl⟩, ⟨_, _, rfl⟩⟩⟩ (fun _ h => h.elim) (fun _ _ => trivial) (Kd.R_below HR0.out HB4.out) (HB0.out.trans (HB4.out.mono HB0.out.size)) (HB0.out.trans (HB4.out.mono HB0.out.size)).size (by have := HL.out; omega) ?_
              intro lv' w5 ho hb5 hg hat
              have HO5 := Lib.hid ho
              have HB5 := Lib.hid hb5
              clear ho hb5 hg hat
              refine hK.out _ _ trivial (fun hHeld => ?_)
              clear hK K
              try simp only [Act.put, List.setIfInBounds_toArray, List.set_cons_zero, List.set_cons_succ]
              refine one_ (i := 16) (N := some 9) #[true, true, true, true, true, true, true, true, true, true, true, true, true, true, true, true, true] rfl rfl (by kernel_rfl) (by decide) (fun K hK => ?_)
              go_simp
              refine hK.out _ _ trivial (fun hHeld => ?_)
              clear hK K
              try simp only [Act.put, List.setIfInBounds_toArray, List.set_cons_zero, List.set_cons_succ]
              refine done_ (by kernel_rfl) ?_
              refine NoPanic.normal ?_
              go_wp2_with fail
              go_meet
              exact piece_met HO5 HB5 HRd HT1 HT2 HT3 (by first | rfl | simp) HO1 HP1 HQ1 HNE.out
            | false =>
              go_wp2_with fail
              go_meet
              exact none_met HR0 HRd HB0 (by have h2 := HTT.out; simpa using h2)
          case rest =>
            obtain ⟨xs1, HR1, HE1, HRd1, HL1, HB1⟩ := hcut
            clear HRk
            go_wp2_with fail
            go_ret
            refine ⟨_, xs1, rfl, Kd.R_mono (Kd.R_lower HR1.out HB2.out.size) (fun _ _ => trivial), ?_, HRd1.out, HB2.out.trans (HB1.out.mono HB2.out.size)⟩
            rw [HE1.out, ← HE.out, HE2.out]
            rfl
end Go.Proofs.Ythghpmnbnfbheaa.SeqS
