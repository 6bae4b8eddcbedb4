/- The walk of the law ThreeAhead answers true, whatever the lists. -/
import Derived.Test.YtgcjejepahdjgaaThreeSay
namespace Go.Proofs.Ytgcjejepahdjgaa.SeqS
open Go.RowKit Go.Shelf Go.Proofs.Ytgcjejepahdjgaa.SeqM Go.Proofs.Ytgcjejepahdjgaa.PRef Go.Proofs.YtgcjejepahdjgaaW.PrintWords
attribute [local go_sem] Oper.semAt_some
set_option linter.unusedVariables false
set_option linter.unusedSimpArgs false
def HoldA (p : Prop) : Prop := p
theorem HoldA.of {p : Prop} (h : HoldA p) : p := h
theorem HoldA.mk {p : Prop} (h : p) : HoldA p := h
theorem app_texts {ops : Array Oper} {rest : List Oper} {o : Oper} {a : Act} {Q : Exit → Act → World → Prop} {w0 W : World} (B : Nat) (hgd : o.guard = none ∨ ∃ g, o.guard = some g) (hg0 : o.guard = none) (s x : Operand)
    (ho : o.op = .call { callee := .builtin .append, args := #[s, x], argTypes := #[22, 22] }) (v : Value) (xs ys : List ByteArray) (A : Option Addr) (c : Nat) (hs : a.eval s = v) (hx : a.eval x = .slice A ys.length c)
    (HO : Kd.R Kd.string 9 W B (fun _ => True) v xs) (HC : TX W A c ys) (HB : Below B w0 W) (hbase : B ≤ W.heap.size) (hl : xs.length + ys.length ≤ 1000000)
    (h : ∀ v1 w1, Kd.R Kd.string 9 w1 B (fun _ => True) v1 (xs ++ ys) → Below B w0 w1 → wpList Try.prog ops Q rest (a.put o.dst v1) w1) : wpList Try.prog ops Q (o :: rest) a W := by
  refine Kd.R_append_rows Kd.string (w0 := w0) (W := W) B hg0 s x 22 9 (.string ⟨#[]⟩) 16 ho Try.underlying22 ThreeString.infoE rfl (by decide) (by omega) v xs ys A ys.length c (fun _ => True) (fun _ => False) hs hx HO HC.1 (fun _ _ h => h) (fun _ h => h.elim) (fun _ _ => trivial) HB hbase (by omega) ?_
  intro v1 w1 ho hb hg hat
  exact h v1 w1 ho hb
theorem great20 (A : Option Addr) (c : Nat) (l : List ByteArray) (w : World) (h : TX w A c l) : ∃ b, (b = false → l.length ≤ 20) ∧
    ∀ w', Below w.heap.size w w' → Calls Try.prog 21 #[.slice A l.length c, .int .i64 20, .int .i64 20] w' fun e w2 => e = .returned (.bool b) ∧ Below w'.heap.size w' w2 := by
  obtain ⟨b, hA, hb⟩ := DiffCommon.greatTexts l 20 20 (by omega)
  obtain ⟨k, hk⟩ := hA.rounds
  exact ⟨b, fun e => (hb e).1, fun w' hw => (cortegelaw0_GreatTexts.calls k A c l 20 20 b w' (h.below hw).1 h.2 hk).mono fun e w' ⟨he, hd⟩ => ⟨he, Drawn0.below hd⟩⟩
def Great20 (A : Option Addr) (c n : Nat) (b : Bool) (w : World) : Prop := ∀ w', Below w.heap.size w w' → Calls Try.prog 21 #[.slice A n c, .int .i64 20, .int .i64 20] w' fun e w2 => e = .returned (.bool b) ∧ Below w'.heap.size w' w2
theorem merge_len9 {o a b r : List ByteArray} (h : Three.merge o a b = some r) (l1 : a.length ≤ 400) (l2 : b.length ≤ 400) : r.length ≤ 900000 := by
  have := merged_len (o := o) (a := a) (b := b) _ _ h
  obtain ⟨_, h1, h2, _⟩ := Three.parts_whole o a b
  rw [h1, h2] at this
  omega
/-- How many clash among the first ones. -/
def cnt (xs : List ThreeString.PV) (i : Nat) : Int := (Three.clashes ((xs.take i).map ThreeString.PV.p) : Nat)
theorem cnt_succ (xs : List ThreeString.PV) (i : Nat) (h : i < xs.length) : cnt xs (i + 1) = cnt xs i + if xs[i].p.c = true then 1 else 0 := by
  unfold cnt
  rw [List.take_succ_eq_append_getElem h, List.map_append, Three.clashes_append]
  simp only [List.map_cons, List.map_nil, Three.clashes]
  split <;> simp
theorem cnt_le (xs : List ThreeString.PV) (i : Nat) : 0 ≤ cnt xs i ∧ cnt xs i ≤ i := by
  unfold cnt
  have key : ∀ l : List (Three.Pc ByteArray), Three.clashes l ≤ l.length := by
    intro l
    induction l with
    | nil => simp [Three.clashes]
    | cons x r ih => rw [Three.clashes, List.length_cons]; split <;> omega
  have := key ((xs.take i).map ThreeString.PV.p)
  rw [List.length_map] at this
  have h2 := List.length_take_le i xs
  omega
set_option maxHeartbeats 8000000 in
set_option maxRecDepth 100000 in
theorem ahead_long (H A B D : Option Addr) (e c d f nh na nb nc : Nat) (w : World) (b1 b2 : Bool) (h1 : Great3 A B D c d f na nb nc b1 w) (h2 : Great20 H e nh b2 w) (h : b1 = true ∨ b2 = true) :
    Calls Try.prog 7 #[.slice H nh e, .slice A na c, .slice B nb d, .slice D nc f] w (LawPost w) := by
  have H1 := Lib.hid h1
  have H2 := Lib.hid h2
  clear h1 h2
  cases b1 with
  | true =>
    clear h
    go_enter Try.func7, Try.ntmps7
    go_wp2_with fail
    refine (H1.out _ (Below.refl _ _)).mono ?_
    rintro e w1 ⟨rfl, hb⟩
    have HB := Lib.hid hb
    clear hb
    go_wp2_with fail
    refine (awake5 _).mono ?_
    rintro e w2 ⟨rfl, hb⟩
    replace HB := Lib.hid (HB.out.trans (hb.mono HB.out.size))
    clear hb
    go_wp2
    go_ret
    exact ⟨rfl, HB.out⟩
  | false =>
    obtain rfl : b2 = true := by
      rcases h with h | h
      · cases h
      · exact h
    clear h
    go_enter Try.func7, Try.ntmps7
    go_wp2_with fail
    refine (H1.out _ (Below.refl _ _)).mono ?_
    rintro e w1 ⟨rfl, hb⟩
    have HB := Lib.hid hb
    clear hb
    go_wp2_with fail
    refine (H2.out _ HB.out).mono ?_
    rintro e w2 ⟨rfl, hb⟩
    replace HB := Lib.hid (HB.out.trans (hb.mono HB.out.size))
    clear hb
    go_wp2_with fail
    refine (awake5 _).mono ?_
    rintro e w3 ⟨rfl, hb⟩
    replace HB := Lib.hid (HB.out.trans (hb.mono HB.out.size))
    clear hb
    go_wp2
    go_ret
    exact ⟨rfl, HB.out⟩
set_option maxHeartbeats 8000000 in
set_option maxRecDepth 100000 in
theorem ahead_none (H A B D : Option Addr) (e c d f : Nat) (hd o a b : List ByteArray) (w : World) (hh : TX w H e hd) (ho : TX w A c o) (ha : TX w B d a) (hb : TX w D f b) (h1 : Great3 A B D c d f o.length a.length b.length false w) (h2 : Great20 H e hd.length false w) (lh : hd.length ≤ 20) (l0 : o.length ≤ 30) (l1 : a.length ≤ 30) (l2 : b.length ≤ 30) (hm : Three.merge o a b = none) :
    Calls Try.prog 7 #[.slice H hd.length e, .slice A o.length c, .slice B a.length d, .slice D b.length f] w (LawPost w) := by
  have H1 := Lib.hid h1
  have H2 := Lib.hid h2
  have HH := Lib.hid hh
  have HO := Lib.hid ho
  have HA := Lib.hid ha
  have HBb := Lib.hid hb
  have HM := Lib.hid hm
  have HMh := Lib.hid (Three.merge_head hd o a b).1
  have HCl := Lib.hid (Three.merge_head hd o a b).2
  clear h1 h2 hh ho ha hb hm
  go_enter Try.func7, Try.ntmps7
  go_wp2_with fail
  refine (H1.out _ (Below.refl _ _)).mono ?_
  rintro e w1 ⟨rfl, hb⟩
  have HB := Lib.hid hb
  clear hb
  go_wp2_with fail
  refine (H2.out _ HB.out).mono ?_
  rintro e w2 ⟨rfl, hb⟩
  replace HB := Lib.hid (HB.out.trans (hb.mono HB.out.size))
  replace HH := Lib.hid (HH.out.below HB.out)
  replace HO := Lib.hid (HO.out.below HB.out)
  replace HA := Lib.hid (HA.out.below HB.out)
  replace HBb := Lib.hid (HBb.out.below HB.out)
  clear hb H1 H2
  go_wp2_with (first | (at_builtin; refine HoldA.of ?_))
  refine HoldA.mk ?_
  refine app_texts (w0 := w2) (W := w2) w2.heap.size (.inl rfl) rfl (.const (.slice none 0 0)) (.tmp 30) (by rfl) (.slice none 0 0) [] hd H _ (by rfl) (by rfl) (Kd.R_nil _ _ _ _ _) HH.out (Below.refl _ _) (Nat.le_refl _) (by simp; omega) ?_
  intro v1 x1 ho1 hb1
  go_wp2_with (first | (at_builtin; refine HoldA.of ?_))
  refine HoldA.mk ?_
  refine app_texts (w0 := w2) (W := x1) w2.heap.size (.inl rfl) rfl (.tmp 31) (.tmp 32) (by rfl) v1 hd o A c (by rfl) (by rfl) ho1 (HO.out.below hb1) hb1 hb1.size (by omega) ?_
  intro v2 w3 ho2 hb2
  obtain ⟨AX, cX, e9, hT9⟩ := tx_of_R ho2
  subst e9
  clear ho1 hb1 ho2
  obtain ⟨X, hX⟩ : ∃ X, X = hd ++ o := ⟨_, rfl⟩
  have lX : X.length ≤ 50 := by rw [hX]; simp; omega
  rw [← hX] at hT9 HMh HCl ⊢
  have HTX := Lib.hid hT9
  clear hX hT9
  replace HH := Lib.hid (HH.out.below hb2)
  replace HO := Lib.hid (HO.out.below hb2)
  replace HA := Lib.hid (HA.out.below hb2)
  replace HBb := Lib.hid (HBb.out.below hb2)
  replace HB := Lib.hid (HB.out.trans (hb2.mono HB.out.size))
  clear hb2
  go_wp2_with (first | (at_builtin; refine HoldA.of ?_))
  refine HoldA.mk ?_
  refine app_texts (w0 := w3) (W := w3) w3.heap.size (.inl rfl) rfl (.const (.slice none 0 0)) (.tmp 34) (by rfl) (.slice none 0 0) [] hd H _ (by rfl) (by rfl) (Kd.R_nil _ _ _ _ _) HH.out (Below.refl _ _) (Nat.le_refl _) (by simp; omega) ?_
  intro v1 x1 ho1 hb1
  go_wp2_with (first | (at_builtin; refine HoldA.of ?_))
  refine HoldA.mk ?_
  refine app_texts (w0 := w3) (W := x1) w3.heap.size (.inl rfl) rfl (.tmp 35) (.tmp 36) (by rfl) v1 hd a B d (by rfl) (by rfl) ho1 (HA.out.below hb1) hb1 hb1.size (by omega) ?_
  intro v2 w4 ho2 hb2
  obtain ⟨AY, cY, e9, hT9⟩ := tx_of_R ho2
  subst e9
  clear ho1 hb1 ho2
  obtain ⟨Y, hY⟩ : ∃ X, X = hd ++ a := ⟨_, rfl⟩
  have lY : Y.length ≤ 50 := by rw [hY]; simp; omega
  rw [← hY] at hT9 HMh HCl ⊢
  have HTY := Lib.hid hT9
  clear hY hT9
  replace HH := Lib.hid (HH.out.below hb2)
  replace HO := Lib.hid (HO.out.below hb2)
  replace HA := Lib.hid (HA.out.below hb2)
  replace HBb := Lib.hid (HBb.out.below hb2)
  replace HTX := Lib.hid (HTX.out.below hb2)
  replace HB := Lib.hid (HB.out.trans (hb2.mono HB.out.size))
  clear hb2
  go_wp2_with (first | (at_builtin; refine HoldA.of ?_))
  refine HoldA.mk ?_
  refine app_texts (w0 := w4) (W := w4) w4.heap.size (.inl rfl) rfl (.const (.slice none 0 0)) (.tmp 38) (by rfl) (.slice none 0 0) [] hd H _ (by rfl) (by rfl) (Kd.R_nil _ _ _ _ _) HH.out (Below.refl _ _) (Nat.le_refl _) (by simp; omega) ?_
  intro v1 x1 ho1 hb1
  go_wp2_with (first | (at_builtin; refine HoldA.of ?_))
  refine HoldA.mk ?_
  refine app_texts (w0 := w4) (W := x1) w4.heap.size (.inl rfl) rfl (.tmp 39) (.tmp 40) (by rfl) v1 hd b D f (by rfl) (by rfl) ho1 (HBb.out.below hb1) hb1 hb1.size (by omega) ?_
  intro v2 w5 ho2 hb2
  obtain ⟨AZ, cZ, e9, hT9⟩ := tx_of_R ho2
  subst e9
  clear ho1 hb1 ho2
  obtain ⟨Z, hZ⟩ : ∃ X, X = hd ++ b := ⟨_, rfl⟩
  have lZ : Z.length ≤ 50 := by rw [hZ]; simp; omega
  rw [← hZ] at hT9 HMh HCl ⊢
  have HTZ := Lib.hid hT9
  clear hZ hT9
  replace HH := Lib.hid (HH.out.below hb2)
  replace HO := Lib.hid (HO.out.below hb2)
  replace HA := Lib.hid (HA.out.below hb2)
  replace HBb := Lib.hid (HBb.out.below hb2)
  replace HTX := Lib.hid (HTX.out.below hb2)
  replace HTY := Lib.hid (HTY.out.below hb2)
  replace HB := Lib.hid (HB.out.trans (hb2.mono HB.out.size))
  clear hb2
  go_wp2_with fail
  refine (merge_tx A c o B d a D f b _ HO.out HA.out HBb.out (by omega) (by omega) (by omega)).mono ?_
  rintro e w6 ⟨A1, c1, rfl, hT, -, hb⟩
  rw [HM.out] at hT ⊢
  simp only [Option.isSome_none, Option.getD_none, Option.map_none] at hT ⊢
  replace HH := Lib.hid (HH.out.below hb)
  replace HO := Lib.hid (HO.out.below hb)
  replace HA := Lib.hid (HA.out.below hb)
  replace HBb := Lib.hid (HBb.out.below hb)
  replace HTX := Lib.hid (HTX.out.below hb)
  replace HTY := Lib.hid (HTY.out.below hb)
  replace HTZ := Lib.hid (HTZ.out.below hb)
  replace HB := Lib.hid (HB.out.trans (hb.mono HB.out.size))
  have HT1 := Lib.hid hT
  clear hb hT
  go_wp2_with fail
  refine (merge_tx AX cX X AY cY Y AZ cZ Z _ HTX.out HTY.out HTZ.out (by omega) (by omega) (by omega)).mono ?_
  rintro e w7 ⟨A2, c2, rfl, hT, -, hb⟩
  rw [HMh.out, HM.out] at hT ⊢
  simp only [Option.isSome_none, Option.getD_none, Option.map_none] at hT ⊢
  replace HH := Lib.hid (HH.out.below hb)
  replace HO := Lib.hid (HO.out.below hb)
  replace HA := Lib.hid (HA.out.below hb)
  replace HBb := Lib.hid (HBb.out.below hb)
  replace HTX := Lib.hid (HTX.out.below hb)
  replace HTY := Lib.hid (HTY.out.below hb)
  replace HTZ := Lib.hid (HTZ.out.below hb)
  replace HT1 := Lib.hid (HT1.out.below hb)
  replace HB := Lib.hid (HB.out.trans (hb.mono HB.out.size))
  have HT2 := Lib.hid hT
  clear hb hT
  go_wp2_with fail
  refine (parts_tx A c o B d a D f b _ HO.out HA.out HBb.out (by omega) (by omega) (by omega)).mono ?_
  rintro e w8 ⟨v, xs, rfl, hR, hx, -, hb⟩
  obtain ⟨A3, c3, e3⟩ := Kd.R_slice hR
  subst e3
  have hxl : xs.length ≤ 803 := by have h1 := congrArg List.length hx; have h2 := ThreeString.parts_len o a b; rw [List.length_map] at h1; omega
  have HXs := Lib.hid hx
  have hC := (Kd.R_reads' hR).2.2
  clear hR hx
  replace HH := Lib.hid (HH.out.below hb)
  replace HO := Lib.hid (HO.out.below hb)
  replace HA := Lib.hid (HA.out.below hb)
  replace HBb := Lib.hid (HBb.out.below hb)
  replace HTX := Lib.hid (HTX.out.below hb)
  replace HTY := Lib.hid (HTY.out.below hb)
  replace HTZ := Lib.hid (HTZ.out.below hb)
  replace HT1 := Lib.hid (HT1.out.below hb)
  replace HT2 := Lib.hid (HT2.out.below hb)
  replace HB := Lib.hid (HB.out.trans (hb.mono HB.out.size))
  have HP := Lib.hid hC
  clear hb hC
  go_wp2_with fail
  refine (parts_tx AX cX X AY cY Y AZ cZ Z _ HTX.out HTY.out HTZ.out (by omega) (by omega) (by omega)).mono ?_
  rintro e w9 ⟨v, ys, rfl, hR, hy, -, hb⟩
  obtain ⟨A4, c4, e4⟩ := Kd.R_slice hR
  subst e4
  have hyl : ys.length ≤ 803 := by have h1 := congrArg List.length hy; have h2 := ThreeString.parts_len X Y Z; rw [List.length_map] at h1; omega
  have HYs := Lib.hid hy
  have hC := (Kd.R_reads' hR).2.2
  clear hR hy
  replace HH := Lib.hid (HH.out.below hb)
  replace HO := Lib.hid (HO.out.below hb)
  replace HA := Lib.hid (HA.out.below hb)
  replace HBb := Lib.hid (HBb.out.below hb)
  replace HTX := Lib.hid (HTX.out.below hb)
  replace HTY := Lib.hid (HTY.out.below hb)
  replace HTZ := Lib.hid (HTZ.out.below hb)
  replace HT1 := Lib.hid (HT1.out.below hb)
  replace HT2 := Lib.hid (HT2.out.below hb)
  replace HP := Lib.hid (Kd.C_below HP.out hb)
  replace HB := Lib.hid (HB.out.trans (hb.mono HB.out.size))
  have HQ := Lib.hid hC
  clear hb hC
  have HCt : Hid (cnt xs xs.length = cnt ys ys.length) := Lib.hid (by unfold cnt; rw [List.take_length, List.take_length, HXs.out, HYs.out, HCl.out])
  clear HXs HYs HCl HMh HM
  go_wp2_with fail
  go_loopg [18, 19] xs.length (fun g v18 v19 w' => ∃ i : Nat, v19 = .int .i64 (i : Int) ∧ v18 = .int .i64 (cnt xs i) ∧ w' = w9 ∧ Hid (i + g = xs.length))
  case atStart => exact ⟨0, rfl, rfl, rfl, Lib.hid (by simp)⟩
  case round =>
    obtain ⟨i, rfl, rfl, rfl, HI⟩ := hrel
    have hq := cnt_le xs i
    by_cases hlt : i < xs.length
    · obtain ⟨ad, ead, x0, -⟩ := ThreeString.at_P HP.out i hlt rfl
      subst ead
      have hs := cnt_succ xs i hlt
      have HS := Lib.hid hs
      clear hs
      have hq2 : (cnt xs i) ≤ 803 := by omega
      obtain ⟨n, hn⟩ : ∃ n, n = cnt xs i := ⟨_, rfl⟩
      rw [← hn] at hq hq2 HS ⊢
      generalize xs[i].p.c = cf at x0 HS
      clear hn
      cases cf with
      | true =>
        go_wp2_with fail
        go_roundg (xs.length - (i + 1))
        case measure => have := HI.out; omega
        case rel => exact ⟨i + 1, by go_num, by rw [HS.out]; simp, rfl, Lib.hid (by omega)⟩
      | false =>
        go_wp2_with fail
        go_roundg (xs.length - (i + 1))
        case measure => have := HI.out; omega
        case rel => exact ⟨i + 1, by go_num, by rw [HS.out]; simp, rfl, Lib.hid (by omega)⟩
    · have hi : i = xs.length := by have := HI.out; omega
      subst hi
      obtain ⟨N, hN⟩ : ∃ n, n = cnt xs xs.length := ⟨_, rfl⟩
      rw [← hN] at hq HCt ⊢
      clear hN HI hlt
      go_wp2_with fail
      go_loopg [18, 20] ys.length (fun g v18 v19 w' => ∃ i : Nat, v19 = .int .i64 (i : Int) ∧ v18 = .int .i64 (N - cnt ys i) ∧ w' = wr ∧ Hid (i + g = ys.length))
      case atStart => exact ⟨0, rfl, by rw [show cnt ys 0 = 0 from rfl, Int.sub_zero], rfl, Lib.hid (by simp)⟩
      case round =>
        obtain ⟨i, rfl, rfl, rfl, HI⟩ := hrel
        have hq3 := cnt_le ys i
        by_cases hlt : i < ys.length
        · obtain ⟨ad, ead, x0, -⟩ := ThreeString.at_P HQ.out i hlt rfl
          subst ead
          have hs := cnt_succ ys i hlt
          have HS := Lib.hid hs
          clear hs
          have hq2 : (cnt ys i) ≤ 803 := by omega
          obtain ⟨n, hn⟩ : ∃ n, n = cnt ys i := ⟨_, rfl⟩
          rw [← hn] at hq3 hq2 HS ⊢
          generalize ys[i].p.c = cf at x0 HS
          clear hn
          cases cf with
          | true =>
            go_wp2_with fail
            go_roundg (ys.length - (i + 1))
            case measure => have := HI.out; omega
            case rel => exact ⟨i + 1, by go_num, by rw [HS.out]; simp only [if_true, Int.sub_sub], rfl, Lib.hid (by omega)⟩
          | false =>
            go_wp2_with fail
            go_roundg (ys.length - (i + 1))
            case measure => have := HI.out; omega
            case rel => exact ⟨i + 1, by go_num, by rw [HS.out]; simp, rfl, Lib.hid (by omega)⟩
        · have hi : i = ys.length := by have := HI.out; omega
          subst hi
          have hz : N - cnt ys ys.length = 0 := by have := HCt.out; omega
          rw [hz]
          clear hz hq3 HI hlt
          go_wp2_with fail
          refine (awake5 _).mono ?_
          rintro e w10 ⟨rfl, hb⟩
          replace HB := Lib.hid (HB.out.trans (hb.mono HB.out.size))
          clear hb
          go_wp2
          go_ret
          exact ⟨rfl, HB.out⟩
set_option maxHeartbeats 8000000 in
set_option maxRecDepth 100000 in
theorem ahead_some (H A B D : Option Addr) (e c d f : Nat) (hd o a b : List ByteArray) (m : List ByteArray) (w : World) (hh : TX w H e hd) (ho : TX w A c o) (ha : TX w B d a) (hb : TX w D f b) (h1 : Great3 A B D c d f o.length a.length b.length false w) (h2 : Great20 H e hd.length false w) (lh : hd.length ≤ 20) (l0 : o.length ≤ 30) (l1 : a.length ≤ 30) (l2 : b.length ≤ 30) (hm : Three.merge o a b = some m) :
    Calls Try.prog 7 #[.slice H hd.length e, .slice A o.length c, .slice B a.length d, .slice D b.length f] w (LawPost w) := by
  have H1 := Lib.hid h1
  have H2 := Lib.hid h2
  have HH := Lib.hid hh
  have HO := Lib.hid ho
  have HA := Lib.hid ha
  have HBb := Lib.hid hb
  have HM := Lib.hid hm
  have HMh := Lib.hid (Three.merge_head hd o a b).1
  have HCl := Lib.hid (Three.merge_head hd o a b).2
  have hml : m.length ≤ 900000 := merge_len9 hm (by omega) (by omega)
  clear h1 h2 hh ho ha hb hm
  go_enter Try.func7, Try.ntmps7
  go_wp2_with fail
  refine (H1.out _ (Below.refl _ _)).mono ?_
  rintro e w1 ⟨rfl, hb⟩
  have HB := Lib.hid hb
  clear hb
  go_wp2_with fail
  refine (H2.out _ HB.out).mono ?_
  rintro e w2 ⟨rfl, hb⟩
  replace HB := Lib.hid (HB.out.trans (hb.mono HB.out.size))
  replace HH := Lib.hid (HH.out.below HB.out)
  replace HO := Lib.hid (HO.out.below HB.out)
  replace HA := Lib.hid (HA.out.below HB.out)
  replace HBb := Lib.hid (HBb.out.below HB.out)
  clear hb H1 H2
  go_wp2_with (first | (at_builtin; refine HoldA.of ?_))
  refine HoldA.mk ?_
  refine app_texts (w0 := w2) (W := w2) w2.heap.size (.inl rfl) rfl (.const (.slice none 0 0)) (.tmp 30) (by rfl) (.slice none 0 0) [] hd H _ (by rfl) (by rfl) (Kd.R_nil _ _ _ _ _) HH.out (Below.refl _ _) (Nat.le_refl _) (by simp; omega) ?_
  intro v1 x1 ho1 hb1
  go_wp2_with (first | (at_builtin; refine HoldA.of ?_))
  refine HoldA.mk ?_
  refine app_texts (w0 := w2) (W := x1) w2.heap.size (.inl rfl) rfl (.tmp 31) (.tmp 32) (by rfl) v1 hd o A c (by rfl) (by rfl) ho1 (HO.out.below hb1) hb1 hb1.size (by omega) ?_
  intro v2 w3 ho2 hb2
  obtain ⟨AX, cX, e9, hT9⟩ := tx_of_R ho2
  subst e9
  clear ho1 hb1 ho2
  obtain ⟨X, hX⟩ : ∃ X, X = hd ++ o := ⟨_, rfl⟩
  have lX : X.length ≤ 50 := by rw [hX]; simp; omega
  rw [← hX] at hT9 HMh HCl ⊢
  have HTX := Lib.hid hT9
  clear hX hT9
  replace HH := Lib.hid (HH.out.below hb2)
  replace HO := Lib.hid (HO.out.below hb2)
  replace HA := Lib.hid (HA.out.below hb2)
  replace HBb := Lib.hid (HBb.out.below hb2)
  replace HB := Lib.hid (HB.out.trans (hb2.mono HB.out.size))
  clear hb2
  go_wp2_with (first | (at_builtin; refine HoldA.of ?_))
  refine HoldA.mk ?_
  refine app_texts (w0 := w3) (W := w3) w3.heap.size (.inl rfl) rfl (.const (.slice none 0 0)) (.tmp 34) (by rfl) (.slice none 0 0) [] hd H _ (by rfl) (by rfl) (Kd.R_nil _ _ _ _ _) HH.out (Below.refl _ _) (Nat.le_refl _) (by simp; omega) ?_
  intro v1 x1 ho1 hb1
  go_wp2_with (first | (at_builtin; refine HoldA.of ?_))
  refine HoldA.mk ?_
  refine app_texts (w0 := w3) (W := x1) w3.heap.size (.inl rfl) rfl (.tmp 35) (.tmp 36) (by rfl) v1 hd a B d (by rfl) (by rfl) ho1 (HA.out.below hb1) hb1 hb1.size (by omega) ?_
  intro v2 w4 ho2 hb2
  obtain ⟨AY, cY, e9, hT9⟩ := tx_of_R ho2
  subst e9
  clear ho1 hb1 ho2
  obtain ⟨Y, hY⟩ : ∃ X, X = hd ++ a := ⟨_, rfl⟩
  have lY : Y.length ≤ 50 := by rw [hY]; simp; omega
  rw [← hY] at hT9 HMh HCl ⊢
  have HTY := Lib.hid hT9
  clear hY hT9
  replace HH := Lib.hid (HH.out.below hb2)
  replace HO := Lib.hid (HO.out.below hb2)
  replace HA := Lib.hid (HA.out.below hb2)
  replace HBb := Lib.hid (HBb.out.below hb2)
  replace HTX := Lib.hid (HTX.out.below hb2)
  replace HB := Lib.hid (HB.out.trans (hb2.mono HB.out.size))
  clear hb2
  go_wp2_with (first | (at_builtin; refine HoldA.of ?_))
  refine HoldA.mk ?_
  refine app_texts (w0 := w4) (W := w4) w4.heap.size (.inl rfl) rfl (.const (.slice none 0 0)) (.tmp 38) (by rfl) (.slice none 0 0) [] hd H _ (by rfl) (by rfl) (Kd.R_nil _ _ _ _ _) HH.out (Below.refl _ _) (Nat.le_refl _) (by simp; omega) ?_
  intro v1 x1 ho1 hb1
  go_wp2_with (first | (at_builtin; refine HoldA.of ?_))
  refine HoldA.mk ?_
  refine app_texts (w0 := w4) (W := x1) w4.heap.size (.inl rfl) rfl (.tmp 39) (.tmp 40) (by rfl) v1 hd b D f (by rfl) (by rfl) ho1 (HBb.out.below hb1) hb1 hb1.size (by omega) ?_
  intro v2 w5 ho2 hb2
  obtain ⟨AZ, cZ, e9, hT9⟩ := tx_of_R ho2
  subst e9
  clear ho1 hb1 ho2
  obtain ⟨Z, hZ⟩ : ∃ X, X = hd ++ b := ⟨_, rfl⟩
  have lZ : Z.length ≤ 50 := by rw [hZ]; simp; omega
  rw [← hZ] at hT9 HMh HCl ⊢
  have HTZ := Lib.hid hT9
  clear hZ hT9
  replace HH := Lib.hid (HH.out.below hb2)
  replace HO := Lib.hid (HO.out.below hb2)
  replace HA := Lib.hid (HA.out.below hb2)
  replace HBb := Lib.hid (HBb.out.below hb2)
  replace HTX := Lib.hid (HTX.out.below hb2)
  replace HTY := Lib.hid (HTY.out.below hb2)
  replace HB := Lib.hid (HB.out.trans (hb2.mono HB.out.size))
  clear hb2
  go_wp2_with fail
  refine (merge_tx A c o B d a D f b _ HO.out HA.out HBb.out (by omega) (by omega) (by omega)).mono ?_
  rintro e w6 ⟨A1, c1, rfl, hT, -, hb⟩
  rw [HM.out] at hT ⊢
  simp only [Option.isSome_some, Option.getD_some, Option.map_some] at hT ⊢
  replace HH := Lib.hid (HH.out.below hb)
  replace HO := Lib.hid (HO.out.below hb)
  replace HA := Lib.hid (HA.out.below hb)
  replace HBb := Lib.hid (HBb.out.below hb)
  replace HTX := Lib.hid (HTX.out.below hb)
  replace HTY := Lib.hid (HTY.out.below hb)
  replace HTZ := Lib.hid (HTZ.out.below hb)
  replace HB := Lib.hid (HB.out.trans (hb.mono HB.out.size))
  have HT1 := Lib.hid hT
  clear hb hT
  go_wp2_with fail
  refine (merge_tx AX cX X AY cY Y AZ cZ Z _ HTX.out HTY.out HTZ.out (by omega) (by omega) (by omega)).mono ?_
  rintro e w7 ⟨A2, c2, rfl, hT, -, hb⟩
  rw [HMh.out, HM.out] at hT ⊢
  simp only [Option.isSome_some, Option.getD_some, Option.map_some] at hT ⊢
  obtain ⟨R2, hR2⟩ : ∃ R, R = hd ++ m := ⟨_, rfl⟩
  have lR2 : R2.length ≤ 1000000 := by rw [hR2]; simp; omega
  rw [← hR2] at hT ⊢
  have HR2 := Lib.hid hR2
  clear hR2
  replace HH := Lib.hid (HH.out.below hb)
  replace HO := Lib.hid (HO.out.below hb)
  replace HA := Lib.hid (HA.out.below hb)
  replace HBb := Lib.hid (HBb.out.below hb)
  replace HTX := Lib.hid (HTX.out.below hb)
  replace HTY := Lib.hid (HTY.out.below hb)
  replace HTZ := Lib.hid (HTZ.out.below hb)
  replace HT1 := Lib.hid (HT1.out.below hb)
  replace HB := Lib.hid (HB.out.trans (hb.mono HB.out.size))
  have HT2 := Lib.hid hT
  clear hb hT
  go_wp2_with fail
  refine (parts_tx A c o B d a D f b _ HO.out HA.out HBb.out (by omega) (by omega) (by omega)).mono ?_
  rintro e w8 ⟨v, xs, rfl, hR, hx, -, hb⟩
  obtain ⟨A3, c3, e3⟩ := Kd.R_slice hR
  subst e3
  have hxl : xs.length ≤ 803 := by have h1 := congrArg List.length hx; have h2 := ThreeString.parts_len o a b; rw [List.length_map] at h1; omega
  have HXs := Lib.hid hx
  have hC := (Kd.R_reads' hR).2.2
  clear hR hx
  replace HH := Lib.hid (HH.out.below hb)
  replace HO := Lib.hid (HO.out.below hb)
  replace HA := Lib.hid (HA.out.below hb)
  replace HBb := Lib.hid (HBb.out.below hb)
  replace HTX := Lib.hid (HTX.out.below hb)
  replace HTY := Lib.hid (HTY.out.below hb)
  replace HTZ := Lib.hid (HTZ.out.below hb)
  replace HT1 := Lib.hid (HT1.out.below hb)
  replace HT2 := Lib.hid (HT2.out.below hb)
  replace HB := Lib.hid (HB.out.trans (hb.mono HB.out.size))
  have HP := Lib.hid hC
  clear hb hC
  go_wp2_with fail
  refine (parts_tx AX cX X AY cY Y AZ cZ Z _ HTX.out HTY.out HTZ.out (by omega) (by omega) (by omega)).mono ?_
  rintro e w9 ⟨v, ys, rfl, hR, hy, -, hb⟩
  obtain ⟨A4, c4, e4⟩ := Kd.R_slice hR
  subst e4
  have hyl : ys.length ≤ 803 := by have h1 := congrArg List.length hy; have h2 := ThreeString.parts_len X Y Z; rw [List.length_map] at h1; omega
  have HYs := Lib.hid hy
  have hC := (Kd.R_reads' hR).2.2
  clear hR hy
  replace HH := Lib.hid (HH.out.below hb)
  replace HO := Lib.hid (HO.out.below hb)
  replace HA := Lib.hid (HA.out.below hb)
  replace HBb := Lib.hid (HBb.out.below hb)
  replace HTX := Lib.hid (HTX.out.below hb)
  replace HTY := Lib.hid (HTY.out.below hb)
  replace HTZ := Lib.hid (HTZ.out.below hb)
  replace HT1 := Lib.hid (HT1.out.below hb)
  replace HT2 := Lib.hid (HT2.out.below hb)
  replace HP := Lib.hid (Kd.C_below HP.out hb)
  replace HB := Lib.hid (HB.out.trans (hb.mono HB.out.size))
  have HQ := Lib.hid hC
  clear hb hC
  have HCt : Hid (cnt xs xs.length = cnt ys ys.length) := Lib.hid (by unfold cnt; rw [List.take_length, List.take_length, HXs.out, HYs.out, HCl.out])
  clear HXs HYs HCl HMh HM
  go_wp2_with fail
  go_loopg [18, 19] xs.length (fun g v18 v19 w' => ∃ i : Nat, v19 = .int .i64 (i : Int) ∧ v18 = .int .i64 (cnt xs i) ∧ w' = w9 ∧ Hid (i + g = xs.length))
  case atStart => exact ⟨0, rfl, rfl, rfl, Lib.hid (by simp)⟩
  case round =>
    obtain ⟨i, rfl, rfl, rfl, HI⟩ := hrel
    have hq := cnt_le xs i
    by_cases hlt : i < xs.length
    · obtain ⟨ad, ead, x0, -⟩ := ThreeString.at_P HP.out i hlt rfl
      subst ead
      have hs := cnt_succ xs i hlt
      have HS := Lib.hid hs
      clear hs
      have hq2 : (cnt xs i) ≤ 803 := by omega
      obtain ⟨n, hn⟩ : ∃ n, n = cnt xs i := ⟨_, rfl⟩
      rw [← hn] at hq hq2 HS ⊢
      generalize xs[i].p.c = cf at x0 HS
      clear hn
      cases cf with
      | true =>
        go_wp2_with fail
        go_roundg (xs.length - (i + 1))
        case measure => have := HI.out; omega
        case rel => exact ⟨i + 1, by go_num, by rw [HS.out]; simp, rfl, Lib.hid (by omega)⟩
      | false =>
        go_wp2_with fail
        go_roundg (xs.length - (i + 1))
        case measure => have := HI.out; omega
        case rel => exact ⟨i + 1, by go_num, by rw [HS.out]; simp, rfl, Lib.hid (by omega)⟩
    · have hi : i = xs.length := by have := HI.out; omega
      subst hi
      obtain ⟨N, hN⟩ : ∃ n, n = cnt xs xs.length := ⟨_, rfl⟩
      rw [← hN] at hq HCt ⊢
      clear hN HI hlt
      go_wp2_with fail
      go_loopg [18, 20] ys.length (fun g v18 v19 w' => ∃ i : Nat, v19 = .int .i64 (i : Int) ∧ v18 = .int .i64 (N - cnt ys i) ∧ w' = wr ∧ Hid (i + g = ys.length))
      case atStart => exact ⟨0, rfl, by rw [show cnt ys 0 = 0 from rfl, Int.sub_zero], rfl, Lib.hid (by simp)⟩
      case round =>
        obtain ⟨i, rfl, rfl, rfl, HI⟩ := hrel
        have hq3 := cnt_le ys i
        by_cases hlt : i < ys.length
        · obtain ⟨ad, ead, x0, -⟩ := ThreeString.at_P HQ.out i hlt rfl
          subst ead
          have hs := cnt_succ ys i hlt
          have HS := Lib.hid hs
          clear hs
          have hq2 : (cnt ys i) ≤ 803 := by omega
          obtain ⟨n, hn⟩ : ∃ n, n = cnt ys i := ⟨_, rfl⟩
          rw [← hn] at hq3 hq2 HS ⊢
          generalize ys[i].p.c = cf at x0 HS
          clear hn
          cases cf with
          | true =>
            go_wp2_with fail
            go_roundg (ys.length - (i + 1))
            case measure => have := HI.out; omega
            case rel => exact ⟨i + 1, by go_num, by rw [HS.out]; simp only [if_true, Int.sub_sub], rfl, Lib.hid (by omega)⟩
          | false =>
            go_wp2_with fail
            go_roundg (ys.length - (i + 1))
            case measure => have := HI.out; omega
            case rel => exact ⟨i + 1, by go_num, by rw [HS.out]; simp, rfl, Lib.hid (by omega)⟩
        · have hi : i = ys.length := by have := HI.out; omega
          subst hi
          have hz : N - cnt ys ys.length = 0 := by have := HCt.out; omega
          rw [hz]
          clear hz hq3 HI hlt
          go_wp2_with (first | (at_builtin; refine HoldA.of ?_))
          refine HoldA.mk ?_
          refine gate_guard (by rfl) ?_
          dsimp only
          refine app_texts (w0 := wr) (W := wr) wr.heap.size (.inl rfl) rfl (.const (.slice none 0 0)) (.tmp 109) (by rfl) (.slice none 0 0) [] hd H _ (by rfl) (by rfl) (Kd.R_nil _ _ _ _ _) HH.out (Below.refl _ _) (Nat.le_refl _) (by simp; omega) ?_
          intro v1 x1 ho1 hb1
          go_wp2_with (first | (at_builtin; refine HoldA.of ?_))
          refine HoldA.mk ?_
          refine gate_guard (by rfl) ?_
          dsimp only
          refine app_texts (w0 := wr) (W := x1) wr.heap.size (.inl rfl) rfl (.tmp 110) (.tmp 111) (by rfl) v1 hd m A1 c1 (by rfl) (by rfl) ho1 (HT1.out.below hb1) hb1 hb1.size (by omega) ?_
          intro v2 x2 ho2 hb2
          obtain ⟨A9, c9, e9, hT9⟩ := tx_of_R ho2
          subst e9
          rw [← HR2.out] at hT9 ⊢
          have HT9 := Lib.hid hT9
          replace HT2 := Lib.hid (HT2.out.below hb2)
          replace HB := Lib.hid (HB.out.trans (hb2.mono HB.out.size))
          clear ho1 hb1 ho2 hb2 hT9
          go_wp2_with fail
          refine (same_tx A2 A9 c2 c9 R2 R2 _ HT2.out HT9.out (by omega) true (by simp)).mono ?_
          rintro e w10 ⟨rfl, hb⟩
          replace HB := Lib.hid (HB.out.trans (hb.mono HB.out.size))
          clear hb
          go_wp2_with fail
          refine (awake5 _).mono ?_
          rintro e w11 ⟨rfl, hb⟩
          replace HB := Lib.hid (HB.out.trans (hb.mono HB.out.size))
          clear hb
          go_wp2
          go_ret
          exact ⟨rfl, HB.out⟩
theorem ahead_law (H : Option Addr) (e : Nat) (hd : List ByteArray) (A : Option Addr) (c : Nat) (o : List ByteArray) (B : Option Addr) (d : Nat) (a : List ByteArray) (D : Option Addr) (f : Nat) (b : List ByteArray) (w : World)
    (hh : CellsT w H hd) (_ : H = none → hd.length = 0 ∧ e = 0) (he : hd.length ≤ e) (hhb : hd.length * 16 ≤ 140737488351232) (hz : CellsT w A o) (hnil : A = none → o.length = 0 ∧ c = 0) (hc : o.length ≤ c) (hb : o.length * 16 ≤ 140737488351232) (hz' : CellsT w B a) (hnil' : B = none → a.length = 0 ∧ d = 0) (hd' : a.length ≤ d) (hb' : a.length * 16 ≤ 140737488351232) (hz'' : CellsT w D b) (hnil'' : D = none → b.length = 0 ∧ f = 0) (hf : b.length ≤ f) (hb'' : b.length * 16 ≤ 140737488351232) :
    Calls Try.prog 7 #[.slice H hd.length e, .slice A o.length c, .slice B a.length d, .slice D b.length f] w fun e w' => e = .returned (.bool true) ∧ Below w.heap.size w w' := by
  have hh := tx_of_cells hh hhb he
  have ho := tx_of_cells hz hb hc
  have ha := tx_of_cells hz' hb' hd'
  have hb := tx_of_cells hz'' hb'' hf
  obtain ⟨g, hg, hG⟩ := great_tx A B D c d f o a b w ho ha hb
  obtain ⟨g2, hg2, hG2⟩ := great20 H e hd w hh
  by_cases h : g = true ∨ g2 = true
  · exact ahead_long H A B D e c d f _ _ _ _ w g g2 hG hG2 h
  · have e1 : g = false := by cases g with | false => rfl | true => exact absurd (.inl rfl) h
    have e2 : g2 = false := by cases g2 with | false => rfl | true => exact absurd (.inr rfl) h
    subst e1 e2
    obtain ⟨l0, l1, l2⟩ := hg rfl
    cases hm : Three.merge o a b with
    | none => exact ahead_none H A B D e c d f hd o a b w hh ho ha hb hG hG2 (hg2 rfl) l0 l1 l2 hm
    | some m => exact ahead_some H A B D e c d f hd o a b m w hh ho ha hb hG hG2 (hg2 rfl) l0 l1 l2 hm
end Go.Proofs.Ytgcjejepahdjgaa.SeqS
