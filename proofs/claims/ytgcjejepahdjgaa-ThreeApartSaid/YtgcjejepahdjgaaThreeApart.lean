/- The walk of the law ThreeApart answers true, whatever the lists. -/
import Derived.Test.YtgcjejepahdjgaaThreeSay
namespace Go.Proofs.Ytgcjejepahdjgaa.ThreeInt
open Go.RowKit Go.Proofs.Ytgcjejepahdjgaa.PRef Go.Proofs.YtgcjejepahdjgaaW.PrintWords Go.Proofs.YtgcjejepahdjgaaW.PrintLast Go.Proofs.YtgcjejepahdjgaaW.PrintMore Go.Proofs.Ytgcjejepahdjgaa.Lcs
attribute [local go_sem] Oper.semAt_some
set_option linter.unusedVariables false
set_option linter.unusedSimpArgs false

/-- Numbers that lie in W. -/
def Cells (W : World) (A : Option Addr) (zs : List Int) : Prop :=
  zs = [] ∨ ∃ b off, A = some ⟨b, off, none⟩ ∧ b < W.heap.size ∧ ∀ j (h : j < zs.length), W.cell? ⟨b, off + j, none⟩ = some (.int .i64 zs[j])
theorem Cells.below {W W' : World} {A : Option Addr} {zs : List Int} (h : Cells W A zs) (hb : Below W.heap.size W W') : Cells W' A zs := by
  rcases h with rfl | ⟨b, off, rfl, h1, h2⟩
  · exact .inl rfl
  · exact .inr ⟨b, off, rfl, Nat.lt_of_lt_of_le h1 hb.size, fun j hj => (hb.cell (p := ⟨b, off + j, none⟩) h1).trans (h2 j hj)⟩
def LowPost (w : World) (e : Ending) (w' : World) : Prop := ∃ r : Nat, r < 100 ∧ e = .returned (.int .i64 (r : Int)) ∧ w = w'
theorem low_calls (x : Int) (w : World) : Calls Try.prog 18 #[.int .i64 x, .int .i64 100] w (LowPost w) := by
  have h0 : 0 ≤ IntKind.u64.wrap x := by
    have : 0 ≤ x % 18446744073709551616 := Int.emod_nonneg _ (by omega)
    simpa [IntKind.wrap, IntKind.signed, IntKind.bits] using this
  go_enter Try.func18, Try.ntmps18
  go_wp2
  go_ret
  generalize IntKind.u64.wrap x = z at h0 ⊢
  have h1 := Int.tmod_lt_of_pos z (b := (100 : Int)) (by omega)
  have h2 := Int.tmod_nonneg (100 : Int) h0
  refine ⟨(z % 100).toNat, by omega, ?_, rfl⟩
  show Ending.returned (.int .i64 (z % 100)) = _
  have : z % 100 = (((z % 100).toNat : Nat) : Int) := by omega
  rw [← this]
theorem app_int {ops : Array Oper} {rest : List Oper} {o : Oper} {a : Act} {Q : Exit → Act → World → Prop} {w0 W W2 : World} (B : Nat) (hgd : o.guard = none) (s x : Operand)
    (ho : o.op = .call { callee := .builtin .append, args := #[s, x], argTypes := #[37, 37] }) (y : Int) (hW : W2 = W.alloc (.cells #[.int .i64 y] 3))
    (v : Value) (xs : List Int) (hs : a.eval s = v) (hx : a.eval x = .slice (some ⟨W.heap.size, 0, none⟩) 1 1) (HO : Kd.R (Kd.int .i64) 3 W B (fun _ => True) v xs) (HB : Below B w0 W) (hbase : B ≤ W.heap.size) (hl : xs.length ≤ 1000000)
    (h : ∀ v1 w1, Kd.R (Kd.int .i64) 3 w1 B (fun _ => True) v1 (xs ++ [y]) → Below B w0 w1 → wpList Try.prog ops Q rest (a.put o.dst v1) w1) : wpList Try.prog ops Q (o :: rest) a W2 := by
  subst hW
  refine Kd.R_append (Kd.int .i64) (w0 := w0) (W := W) B hgd s x 37 3 (.int .i64 0) 8 ho Try.underlying37 infoE rfl (by decide) (by omega) v xs y [.int .i64 y] (fun _ => True) (fun _ => False) hs hx rfl (fun _ h => h.elim) (fun _ _ => trivial) HO HB hbase (by omega) ?_
  intro v1 w1 ho hb hg hat
  exact h v1 w1 ho hb
theorem app_ints {ops : Array Oper} {rest : List Oper} {o : Oper} {a : Act} {Q : Exit → Act → World → Prop} {w0 W : World} (B : Nat) (hgd : o.guard = none) (s x : Operand)
    (ho : o.op = .call { callee := .builtin .append, args := #[s, x], argTypes := #[37, 37] }) (v : Value) (xs ys : List Int) (A : Option Addr) (c : Nat) (hs : a.eval s = v) (hx : a.eval x = .slice A ys.length c)
    (HO : Kd.R (Kd.int .i64) 3 W B (fun _ => True) v xs) (HC : Kd.C (Kd.int .i64) W A ys.length ys) (HB : Below B w0 W) (hbase : B ≤ W.heap.size) (hl : xs.length + ys.length ≤ 1000000)
    (h : ∀ v1 w1, Kd.R (Kd.int .i64) 3 w1 B (fun _ => True) v1 (xs ++ ys) → Below B w0 w1 → wpList Try.prog ops Q rest (a.put o.dst v1) w1) : wpList Try.prog ops Q (o :: rest) a W := by
  refine Kd.R_append_rows (Kd.int .i64) (w0 := w0) (W := W) B hgd s x 37 3 (.int .i64 0) 8 ho Try.underlying37 infoE rfl (by decide) (by omega) v xs ys A ys.length c (fun _ => True) (fun _ => False) hs hx HO HC (fun _ _ h => h) (fun _ h => h.elim) (fun _ _ => trivial) HB hbase (by omega) ?_
  intro v1 w1 ho hb hg hat
  exact h v1 w1 ho hb
theorem cells_kd {W : World} {A : Option Addr} {l : List Int} (h : Cells W A l) (hl : l.length ≤ 1000000) : Kd.C (Kd.int .i64) W A l.length l := by
  refine ⟨rfl, by omega, fun h0 => ?_⟩
  rcases h with rfl | ⟨b, off, rfl, hb, hc⟩
  · simp at h0
  · refine ⟨_, rfl, fun j p hp => ⟨[.int .i64 p], rfl, rfl, fun i u hu => ?_⟩⟩
    cases i with
    | succ i => simp at hu
    | zero =>
      simp only [List.getElem?_cons_zero, Option.some.injEq] at hu
      subst hu
      obtain ⟨hj, rfl⟩ := List.getElem?_eq_some_iff.1 hp
      have hs : (Kd.int .i64).sz = 1 := rfl
      rw [hs, Nat.mul_one, Nat.add_zero, Addr.add_lit]
      exact hc j hj
def LawPost (w : World) (e : Ending) (w' : World) : Prop := e = .returned (.bool true) ∧ Below w.heap.size w w'
set_option maxHeartbeats 8000000 in
set_option maxRecDepth 100000 in
theorem apart_long (A B D : Option Addr) (c d f : Nat) (o a b : List Int) (w : World) (h : 20 < o.length ∨ 20 < a.length ∨ 20 < b.length ∨ o.length = 0) :
    Calls Try.prog 6 #[.slice A o.length c, .slice B a.length d, .slice D b.length f] w (LawPost w) := by
  by_cases g1 : 20 < o.length
  · have qo : decide ((20 : Int) < (o.length : Int)) = true := by simp; omega
    clear h
    go_enter Try.func6, Try.ntmps6
    go_wp2_with fail
    refine (awake_calls _).mono ?_
    rintro e w2 ⟨rfl, hb⟩
    go_wp2
    go_ret
    exact ⟨rfl, hb⟩
  · by_cases g2 : 20 < a.length
    · have qo : decide ((20 : Int) < (o.length : Int)) = false := by simp; omega
      have qa : decide ((20 : Int) < (a.length : Int)) = true := by simp; omega
      clear h
      go_enter Try.func6, Try.ntmps6
      go_wp2_with fail
      refine (awake_calls _).mono ?_
      rintro e w2 ⟨rfl, hb⟩
      go_wp2
      go_ret
      exact ⟨rfl, hb⟩
    · by_cases g3 : 20 < b.length
      · have qo : decide ((20 : Int) < (o.length : Int)) = false := by simp; omega
        have qa : decide ((20 : Int) < (a.length : Int)) = false := by simp; omega
        have qb : decide ((20 : Int) < (b.length : Int)) = true := by simp; omega
        clear h
        go_enter Try.func6, Try.ntmps6
        go_wp2_with fail
        refine (awake_calls _).mono ?_
        rintro e w2 ⟨rfl, hb⟩
        go_wp2
        go_ret
        exact ⟨rfl, hb⟩
      · obtain rfl : o = [] := List.eq_nil_of_length_eq_zero (by omega)
        have qa : decide ((20 : Int) < (a.length : Int)) = false := by simp; omega
        have qb : decide ((20 : Int) < (b.length : Int)) = false := by simp; omega
        clear h
        go_enter Try.func6, Try.ntmps6
        go_wp2_with fail
        refine (awake_calls _).mono ?_
        rintro e w2 ⟨rfl, hb⟩
        go_wp2
        go_ret
        exact ⟨rfl, hb⟩
set_option maxHeartbeats 8000000 in
set_option maxRecDepth 100000 in
theorem apart_short (A B D : Option Addr) (c d f : Nat) (o a b : List Int) (w : World) (ho : Kd.C (Kd.int .i64) w A o.length o) (ha : Kd.C (Kd.int .i64) w B a.length a) (hb : Kd.C (Kd.int .i64) w D b.length b) (l0 : o.length ≤ 20) (l1 : a.length ≤ 20) (l2 : b.length ≤ 20) (l3 : 0 < o.length) :
    Calls Try.prog 6 #[.slice A o.length c, .slice B a.length d, .slice D b.length f] w (LawPost w) := by
  have HO := Lib.hid ho
  have HA := Lib.hid ha
  have HBb := Lib.hid hb
  clear ho ha hb
  have t1 : decide ((20 : Int) < (o.length : Int)) = false := by simp; omega
  have t2 : decide ((20 : Int) < (a.length : Int)) = false := by simp; omega
  have t3 : decide ((20 : Int) < (b.length : Int)) = false := by simp; omega
  have t4 : ((o.length : Int) == 0) = false := by
    have : (o.length : Int) ≠ 0 := by omega
    simpa using this
  go_enter Try.func6, Try.ntmps6
  go_wp2_with fail
  go_loopg [7, 10] o.length (fun g vv vi w' => ∃ (i : Nat) (out : List Int), vi = .int .i64 (i : Int) ∧ Hid (i + g = o.length) ∧ Hid (out.length = i) ∧ Hid (out = (List.range i).map fun (k : Nat) => 3 * (k : Int)) ∧ Hid (Kd.R (Kd.int .i64) 3 w' w.heap.size (fun _ => True) vv out) ∧ Hid (Below w.heap.size w w'))
  case atStart => exact ⟨0, [], rfl, Lib.hid (by simp), Lib.hid rfl, Lib.hid (rfl), Lib.hid (Kd.R_nil _ _ _ _ _), Lib.hid (Below.refl _ _)⟩
  case round =>
    obtain ⟨i, out, rfl, HI, HLen, HInv, HR, HBw⟩ := hrel
    by_cases hlt : i < o.length
    · have hl20 : (i : Int) ≤ 20 := by omega
      go_wp2_with (first | (at_builtin; refine Hold.of ?_))
      refine Hold.mk ?_
      refine app_int (w0 := w) (W := wr) w.heap.size rfl (.tmp 43) (.tmp 46) rfl (3 * (i : Int)) rfl u7 out rfl rfl HR.out HBw.out HBw.out.size (by have := HLen.out; omega) ?_
      intro v1 w1 ho1 hb1
      have HO1 := Lib.hid ho1
      have HB1 := Lib.hid hb1
      clear ho1 hb1
      go_wp2_with fail
      go_roundg (o.length - (i + 1))
      case measure => have := HI.out; omega
      case rel => exact ⟨i + 1, _, by go_num, Lib.hid (by omega), Lib.hid (by have := HLen.out; simp; omega), Lib.hid (by rw [List.range_succ, List.map_append, HInv.out]; rfl), HO1, HB1⟩
    · have hi : i = o.length := by have := HI.out; omega
      obtain ⟨bs, rfl⟩ : ∃ bs : List Int, bs = out := ⟨_, rfl⟩
      obtain ⟨wA, rfl⟩ : ∃ wA : World, wA = wr := ⟨_, rfl⟩
      obtain ⟨A7, c7, e7⟩ := Kd.R_slice HR.out
      subst e7
      have HR7 := HR
      have HB7 := HBw
      have HBs := Lib.hid (HInv.out.trans (by rw [hi] : _ = (List.range o.length).map fun (k : Nat) => 3 * (k : Int)))
      have HBL : Hid (bs.length = o.length) := Lib.hid (HLen.out.trans hi)
      have hbl : bs.length ≤ 20 := by have := HLen.out; omega
      subst hi
      clear HR HBw HInv HLen HI hlt
      go_wp2_with fail
      go_loopg [8, 11] a.length (fun g vv vi w' => ∃ (i : Nat) (out : List Int), vi = .int .i64 (i : Int) ∧ Hid (i + g = a.length) ∧ Hid (out.length = i) ∧ Hid (∀ x ∈ out, ∃ r : Nat, r < 100 ∧ x = 3 * (r : Int) + 1) ∧ Hid (Kd.R (Kd.int .i64) 3 w' wA.heap.size (fun _ => True) vv out) ∧ Hid (Below wA.heap.size wA w'))
      case atStart => exact ⟨0, [], rfl, Lib.hid (by simp), Lib.hid rfl, Lib.hid (by simp), Lib.hid (Kd.R_nil _ _ _ _ _), Lib.hid (Below.refl _ _)⟩
      case round =>
        obtain ⟨i, out, rfl, HI, HLen, HInv, HR, HBw⟩ := hrel
        by_cases hlt : i < a.length
        · have hc := Kd.at_int (Kd.C_below HA.out (HB7.out.trans (HBw.out.mono HB7.out.size))) (i : Int) (by omega) (by omega)
          obtain ⟨ad, ead, hx⟩ := hc
          subst ead
          generalize rd a (i : Int) = z at hx
          rw [Int.toNat_natCast] at hx
          go_wp2_with fail
          refine (low_calls z _).mono ?_
          rintro e w' ⟨r, hr, rfl, rfl⟩
          have hr0 : (0 : Int) ≤ (r : Int) := by omega
          have hr1 : (r : Int) < 100 := by omega
          go_wp2_with (first | (at_builtin; refine Hold.of ?_))
          refine Hold.mk ?_
          refine app_int (w0 := wA) (W := wr) wA.heap.size rfl (.tmp 54) (.tmp 62) rfl (3 * (r : Int) + 1) rfl u8 out rfl rfl HR.out HBw.out HBw.out.size (by have := HLen.out; omega) ?_
          intro v1 w1 ho1 hb1
          have HO1 := Lib.hid ho1
          have HB1 := Lib.hid hb1
          clear ho1 hb1
          go_wp2_with fail
          go_roundg (a.length - (i + 1))
          case measure => have := HI.out; omega
          case rel =>
            refine ⟨i + 1, _, by go_num, Lib.hid (by omega), Lib.hid (by have := HLen.out; simp; omega), Lib.hid (fun x hx => ?_), HO1, HB1⟩
            rcases List.mem_append.1 hx with hx | hx
            · exact HInv.out x hx
            · exact ⟨r, hr, List.mem_singleton.1 hx⟩
        · have hi : i = a.length := by have := HI.out; omega
          obtain ⟨ah, rfl⟩ : ∃ ah : List Int, ah = out := ⟨_, rfl⟩
          obtain ⟨wB, rfl⟩ : ∃ wB : World, wB = wr := ⟨_, rfl⟩
          obtain ⟨A8, c8, e8⟩ := Kd.R_slice HR.out
          subst e8
          have HR8 := HR
          have HB8 := HBw
          have HAh := HInv
          have HAL : Hid (ah.length = a.length) := Lib.hid (HLen.out.trans hi)
          have hal : ah.length ≤ 20 := by have := HLen.out; omega
          subst hi
          clear HR HBw HInv HLen HI hlt
          go_wp2_with fail
          go_loopg [9, 12] b.length (fun g vv vi w' => ∃ (i : Nat) (out : List Int), vi = .int .i64 (i : Int) ∧ Hid (i + g = b.length) ∧ Hid (out.length = i) ∧ Hid (∀ x ∈ out, ∃ r : Nat, r < 100 ∧ x = 3 * (r : Int) + 2) ∧ Hid (Kd.R (Kd.int .i64) 3 w' wB.heap.size (fun _ => True) vv out) ∧ Hid (Below wB.heap.size wB w'))
          case atStart => exact ⟨0, [], rfl, Lib.hid (by simp), Lib.hid rfl, Lib.hid (by simp), Lib.hid (Kd.R_nil _ _ _ _ _), Lib.hid (Below.refl _ _)⟩
          case round =>
            obtain ⟨i, out, rfl, HI, HLen, HInv, HR, HBw⟩ := hrel
            by_cases hlt : i < b.length
            · have hc := Kd.at_int (Kd.C_below HBb.out ((HB7.out.trans (HB8.out.mono HB7.out.size)).trans (HBw.out.mono (Nat.le_trans HB7.out.size HB8.out.size)))) (i : Int) (by omega) (by omega)
              obtain ⟨ad, ead, hx⟩ := hc
              subst ead
              generalize rd b (i : Int) = z at hx
              rw [Int.toNat_natCast] at hx
              go_wp2_with fail
              refine (low_calls z _).mono ?_
              rintro e w' ⟨r, hr, rfl, rfl⟩
              have hr0 : (0 : Int) ≤ (r : Int) := by omega
              have hr1 : (r : Int) < 100 := by omega
              go_wp2_with (first | (at_builtin; refine Hold.of ?_))
              refine Hold.mk ?_
              refine app_int (w0 := wB) (W := wr) wB.heap.size rfl (.tmp 70) (.tmp 78) rfl (3 * (r : Int) + 2) rfl u9 out rfl rfl HR.out HBw.out HBw.out.size (by have := HLen.out; omega) ?_
              intro v1 w1 ho1 hb1
              have HO1 := Lib.hid ho1
              have HB1 := Lib.hid hb1
              clear ho1 hb1
              go_wp2_with fail
              go_roundg (b.length - (i + 1))
              case measure => have := HI.out; omega
              case rel =>
                refine ⟨i + 1, _, by go_num, Lib.hid (by omega), Lib.hid (by have := HLen.out; simp; omega), Lib.hid (fun x hx => ?_), HO1, HB1⟩
                rcases List.mem_append.1 hx with hx | hx
                · exact HInv.out x hx
                · exact ⟨r, hr, List.mem_singleton.1 hx⟩
            · have hi : i = b.length := by have := HI.out; omega
              obtain ⟨bh, rfl⟩ : ∃ bh : List Int, bh = out := ⟨_, rfl⟩
              obtain ⟨wC, rfl⟩ : ∃ wC : World, wC = wr := ⟨_, rfl⟩
              obtain ⟨A9, c9, e9⟩ := Kd.R_slice HR.out
              subst e9
              have HBHL : Hid (bh.length = b.length) := Lib.hid (HLen.out.trans hi)
              have hbhl : bh.length ≤ 20 := by have := HLen.out; omega
              have HBC : Hid (Below w.heap.size w wC) := Lib.hid ((HB7.out.trans (HB8.out.mono HB7.out.size)).trans (HBw.out.mono (Nat.le_trans HB7.out.size HB8.out.size)))
              have C7 := Lib.hid (Kd.C_below (Kd.R_reads' HR7.out).2.2 (HB8.out.trans (HBw.out.mono HB8.out.size)))
              have C8 := Lib.hid (Kd.C_below (Kd.R_reads' HR8.out).2.2 HBw.out)
              have C9 := Lib.hid (Kd.R_reads' HR.out).2.2
              have y7 := (Kd.R_reads' HR7.out).2.1
              have y8 := (Kd.R_reads' HR8.out).2.1
              have y9 := (Kd.R_reads' HR.out).2.1
              have hpl : Three.merge bs (ah ++ bs) (bs ++ bh) = some (ah ++ bs ++ bh) := by
                refine Three.merge_apart bs ah bh (fun e => by have := HBL.out; rw [e] at this; simp at this; omega) (fun u hu hv => ?_) (fun u hu hv => ?_)
                · rw [HBs.out] at hu
                  obtain ⟨k, _, rfl⟩ := List.mem_map.1 hu
                  obtain ⟨r, _, e⟩ := HAh.out _ hv
                  omega
                · rw [HBs.out] at hu
                  obtain ⟨k, _, rfl⟩ := List.mem_map.1 hu
                  obtain ⟨r, _, e⟩ := HInv.out _ hv
                  omega
              have HPL := Lib.hid hpl
              subst hi
              clear hpl HR HBw HInv HLen HR7 HR8 HB7 HB8 HAh HBs HI hlt HO HA HBb
              go_wp2_with (first | (at_builtin; refine Hold.of ?_))
              refine Hold.mk ?_
              refine app_ints (w0 := wC) (W := wC) wC.heap.size rfl (.const (.slice none 0 0)) (.tmp 80) (by rfl) (.slice none 0 0) [] ah A8 c8 (by rfl) (by rfl) (Kd.R_nil _ _ _ _ _) C8.out (Below.refl _ _) (Nat.le_refl _) (by simp; omega) ?_
              intro v1 x1 ho1 hb1
              go_wp2_with (first | (at_builtin; refine Hold.of ?_))
              refine Hold.mk ?_
              refine app_ints (w0 := wC) (W := x1) wC.heap.size rfl (.tmp 81) (.tmp 82) (by rfl) v1 ah bs A7 c7 (by rfl) (by rfl) ho1 (Kd.C_below C7.out hb1) hb1 hb1.size (by omega) ?_
              intro v2 x2 ho2 hb2
              obtain ⟨A13, c13, e13⟩ := Kd.R_slice ho2
              subst e13
              have HX := Lib.hid (Kd.R_reads' ho2).2.2
              have HBx := Lib.hid hb2
              have y13 := (Kd.R_reads' ho2).2.1
              clear ho1 hb1 ho2 hb2
              obtain ⟨X, hX⟩ : ∃ X, X = ah ++ bs := ⟨_, rfl⟩
              have hXl : X.length ≤ 40 := by rw [hX]; simp; omega
              rw [← hX] at HX HPL y13 ⊢
              clear hX
              go_wp2_with (first | (at_builtin; refine Hold.of ?_))
              refine Hold.mk ?_
              refine app_ints (w0 := x2) (W := x2) x2.heap.size rfl (.const (.slice none 0 0)) (.tmp 84) (by rfl) (.slice none 0 0) [] bs A7 c7 (by rfl) (by rfl) (Kd.R_nil _ _ _ _ _) (Kd.C_below C7.out HBx.out) (Below.refl _ _) (Nat.le_refl _) (by simp; omega) ?_
              intro v1 x3 ho1 hb1
              go_wp2_with (first | (at_builtin; refine Hold.of ?_))
              refine Hold.mk ?_
              refine app_ints (w0 := x2) (W := x3) x2.heap.size rfl (.tmp 85) (.tmp 86) (by rfl) v1 bs bh A9 c9 (by rfl) (by rfl) ho1 (Kd.C_below C9.out (HBx.out.trans (hb1.mono HBx.out.size))) hb1 hb1.size (by omega) ?_
              intro v2 x4 ho2 hb2
              obtain ⟨A14, c14, e14⟩ := Kd.R_slice ho2
              subst e14
              have HY := Lib.hid (Kd.R_reads' ho2).2.2
              have HBy := Lib.hid hb2
              have y14 := (Kd.R_reads' ho2).2.1
              clear ho1 hb1 ho2 hb2
              obtain ⟨Y, hY⟩ : ∃ Y, Y = bs ++ bh := ⟨_, rfl⟩
              have hYl : Y.length ≤ 40 := by rw [hY]; simp; omega
              rw [← hY] at HY HPL y14 ⊢
              clear hY
              go_wp2_with (first | (at_builtin; refine Hold.of ?_))
              refine Hold.mk ?_
              refine app_ints (w0 := x4) (W := x4) x4.heap.size rfl (.const (.slice none 0 0)) (.tmp 88) (by rfl) (.slice none 0 0) [] X A13 c13 (by rfl) (by rfl) (Kd.R_nil _ _ _ _ _) (Kd.C_below HX.out HBy.out) (Below.refl _ _) (Nat.le_refl _) (by simp; omega) ?_
              intro v1 x5 ho1 hb1
              go_wp2_with (first | (at_builtin; refine Hold.of ?_))
              refine Hold.mk ?_
              refine app_ints (w0 := x4) (W := x5) x4.heap.size rfl (.tmp 89) (.tmp 90) (by rfl) v1 X bh A9 c9 (by rfl) (by rfl) ho1 (Kd.C_below C9.out ((HBx.out.trans (HBy.out.mono HBx.out.size)).trans (hb1.mono (Nat.le_trans HBx.out.size HBy.out.size)))) hb1 hb1.size (by omega) ?_
              intro v2 x6 ho2 hb2
              obtain ⟨A15, c15, e15⟩ := Kd.R_slice ho2
              subst e15
              have HW := Lib.hid (Kd.R_reads' ho2).2.2
              have HBw := Lib.hid hb2
              have y15 := (Kd.R_reads' ho2).2.1
              clear ho1 hb1 ho2 hb2
              obtain ⟨Z, hZ⟩ : ∃ Z, Z = X ++ bh := ⟨_, rfl⟩
              have hZl : Z.length ≤ 60 := by rw [hZ]; simp; omega
              rw [← hZ] at HW HPL y15 ⊢
              clear hZ
              have B1 : Below wC.heap.size wC x4 := HBx.out.trans (HBy.out.mono HBx.out.size)
              have B2 : Below wC.heap.size wC x6 := B1.trans (HBw.out.mono B1.size)
              have HB1 := Lib.hid (HBC.out.trans (B2.mono HBC.out.size))
              replace C7 := Lib.hid (Kd.C_below C7.out B2)
              replace HX := Lib.hid (Kd.C_below HX.out (HBy.out.trans (HBw.out.mono HBy.out.size)))
              replace HY := Lib.hid (Kd.C_below HY.out HBw.out)
              clear B1 B2
              go_wp2_with fail
              refine (merge_at A7 c7 bs A13 c13 X A14 c14 Y _ C7.out y7 HX.out y13 HY.out y14 (by omega) (by omega) (by omega)).mono ?_
              rintro e x7 ⟨v, rfl, hR, hB⟩
              rw [HPL.out] at hR ⊢
              simp only [Option.isSome_some, Option.getD_some] at hR ⊢
              obtain ⟨A16, c16, e16⟩ := Kd.R_slice hR
              subst e16
              have HM := Lib.hid (Kd.R_reads' hR).2.2
              have y16 := (Kd.R_reads' hR).2.1
              replace HW := Lib.hid (Kd.C_below HW.out hB)
              replace HB1 := Lib.hid (HB1.out.trans (hB.mono HB1.out.size))
              clear hR hB
              go_wp2_with fail
              refine (sameInts_calls A16 A15 c16 c15 Z Z _ HM.out y16 HW.out y15 (by omega) true (by simp)).mono ?_
              rintro e x8 ⟨rfl, hB⟩
              replace HB1 := Lib.hid (HB1.out.trans (hB.mono HB1.out.size))
              clear hB
              go_wp2_with fail
              refine (awake_calls _).mono ?_
              rintro e x9 ⟨rfl, hB⟩
              replace HB1 := Lib.hid (HB1.out.trans (hB.mono HB1.out.size))
              clear hB
              go_wp2
              go_ret
              exact ⟨rfl, HB1.out⟩
theorem apart_law (A : Option Addr) (c : Nat) (o : List Int) (B : Option Addr) (d : Nat) (a : List Int) (D : Option Addr) (f : Nat) (b : List Int) (w : World)
    (hz : Cells w A o) (_ : A = none → o.length = 0 ∧ c = 0) (hc : o.length ≤ c) (_ : o.length * 8 ≤ 140737488351232) (hz' : Cells w B a) (_ : B = none → a.length = 0 ∧ d = 0) (hd : a.length ≤ d) (_ : a.length * 8 ≤ 140737488351232) (hz'' : Cells w D b) (_ : D = none → b.length = 0 ∧ f = 0) (hf : b.length ≤ f) (_ : b.length * 8 ≤ 140737488351232) :
    Calls Try.prog 6 #[.slice A o.length c, .slice B a.length d, .slice D b.length f] w fun e w' => e = .returned (.bool true) ∧ Below w.heap.size w w' := by
  by_cases h : 20 < o.length ∨ 20 < a.length ∨ 20 < b.length ∨ o.length = 0
  · exact apart_long A B D c d f o a b w h
  · exact apart_short A B D c d f o a b w (cells_kd hz (by omega)) (cells_kd hz' (by omega)) (cells_kd hz'' (by omega)) (by omega) (by omega) (by omega) (by omega)
end Go.Proofs.Ytgcjejepahdjgaa.ThreeInt
