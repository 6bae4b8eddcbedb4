/- The document's own Merge, as it is called. -/
import Derived.Test.YthghpmnbnfbheaaThreeDocParts
namespace Go.Proofs.Ythghpmnbnfbheaa.SeqS
open Go.RowKit Go.Shelf Go.Proofs.Ythghpmnbnfbheaa.SeqM Go.Proofs.Ythghpmnbnfbheaa.PRef Go.Proofs.YthghpmnbnfbheaaW.PrintWords Go.Proofs.YthghpmnbnfbheaaW.PrintLast Go.Proofs.YthghpmnbnfbheaaW.PrintMore Go.Proofs.Ythghpmnbnfbheaa.Lcs
attribute [local go_sem] Oper.semAt_some
set_option linter.unusedVariables false
set_option linter.unusedSimpArgs false
open ThreeString (PV Rd)
def HoldD (p : Prop) : Prop := p
theorem HoldD.of {p : Prop} (h : HoldD p) : p := h
theorem HoldD.mk {p : Prop} (h : p) : HoldD p := h
set_option maxHeartbeats 8000000 in
set_option maxRecDepth 100000 in
attribute [local go_sem] ThreeString.alloc_drewN ThreeString.setCell_drewN' in
theorem doc_merge (A B D : Option Addr) (c d f : Nat) (o a b : List ByteArray) (w : World) (ho : TX w A c o) (ha : TX w B d a) (hb : TX w D f b) (l0 : o.length ≤ 400) (l1 : a.length ≤ 400) (l2 : b.length ≤ 400) :
    Calls Try.prog 18 #[.slice A o.length c, .slice B a.length d, .slice D b.length f] w (MergeS (Three.merge o a b) w) := by
  have HO := Lib.hid ho
  have HA := Lib.hid ha
  have HBb := Lib.hid hb
  have g0 : decide ((400 : Int) < (o.length : Int)) = false := by simp; omega
  have g1 : decide ((400 : Int) < (a.length : Int)) = false := by simp; omega
  have g2 : decide ((400 : Int) < (b.length : Int)) = false := by simp; omega
  clear ho ha hb
  go_enter Try.func18, Try.ntmps18
  go_wp2_with fail
  refine (doc_parts A B D c d f o a b w _ HO.out HA.out HBb.out (Below.refl _ _) l0 l1 l2).mono ?_
  rintro e w1 ⟨v, xs, rfl, hR, hxs, hrd, hB⟩
  have hxl : xs.length ≤ 803 := by
    have h1 := congrArg List.length hxs
    have h2 := ThreeString.parts_len o a b
    rw [List.length_map] at h1
    omega
  obtain ⟨A3, c3, e3⟩ := Kd.R_slice hR
  subst e3
  have HP := Lib.hid hR
  have HX := Lib.hid hxs
  have HRd := Lib.hid hrd
  have HB := Lib.hid hB
  clear hR hxs hB hrd
  go_wp2_with fail
  go_loopg [9, 10] xs.length (fun g v9 v10 w' => ∃ (i : Nat) (out : List ByteArray), v10 = .int .i64 (i : Int) ∧ Hid (i + g = xs.length) ∧ Hid (Kd.R Kd.string 9 w' w1.heap.size (fun _ => True) v9 out) ∧ Hid (out.length ≤ i * 400) ∧ Hid (Below w1.heap.size w1 w') ∧ Hid ((Three.merged ((xs.drop i).map PV.p)).map (fun l => out ++ l) = Three.merge o a b))
  case atStart => exact ⟨0, [], rfl, Lib.hid (by simp), Lib.hid (Kd.R_nil _ _ _ _ _), Lib.hid (by simp), Lib.hid (Below.refl _ _), Lib.hid (by rw [List.drop_zero, HX.out]; simp [Three.merge])⟩
  case round =>
    obtain ⟨i, out, rfl, HI, HOu, HL, HBw, HE⟩ := hrel
    by_cases hlt : i < xs.length
    · obtain ⟨ad, ead, x0, x1, x2, x3⟩ := at_D (Kd.R_reads' (Kd.R_below HP.out HBw.out)).2.2 i hlt rfl
      subst ead
      have hmem : xs[i].p ∈ Three.parts o a b := by rw [← HX.out]; exact List.mem_map.2 ⟨_, List.getElem_mem hlt, rfl⟩
      obtain ⟨s1, s2, s3⟩ := ThreeString.parts_small o a b _ hmem
      obtain ⟨rd1, rd2, rd3⟩ := HRd.out _ (List.getElem_mem hlt)
      have hdr : xs.drop i = xs[i] :: xs.drop (i + 1) := List.drop_eq_getElem_cons hlt
      rw [hdr, List.map_cons, Three.merged] at HE
      generalize xs[i] = x at x0 x1 x2 x3 rd1 rd2 rd3 s1 s2 s3 HE
      obtain ⟨⟨cf, O, P, Q⟩, v1, v2, v3⟩ := x
      simp only at x0 x1 x2 x3 rd1 rd2 rd3 s1 s2 s3 HE
      obtain ⟨D1, d1, rfl, y1, r1⟩ := rd1
      obtain ⟨D2, d2, rfl, y2, r2⟩ := rd2
      obtain ⟨D3, d3, rfl, y3, r3⟩ := rd3
      have hbw := HB.out.trans (HBw.out.mono HB.out.size)
      have HT1 : Hid (TX wr D1 d1 O) := Lib.hid (TX.below ⟨r1, y1⟩ hbw)
      have HT2 : Hid (TX wr D2 d2 P) := Lib.hid (TX.below ⟨r2, y2⟩ hbw)
      have HT3 : Hid (TX wr D3 d3 Q) := Lib.hid (TX.below ⟨r3, y3⟩ hbw)
      have S1 := Lib.hid s1
      have S2 := Lib.hid s2
      have S3 := Lib.hid s3
      clear y1 y2 y3 r1 r2 r3 hdr hmem hbw s1 s2 s3
      cases cf with
      | true =>
        go_wp2_with fail
        go_ret2
        have hn : Three.merge o a b = none := by rw [← HE.out]; rfl
        rw [hn]
        exact ⟨none, 0, rfl, ⟨Kd.C_nil _ _, Nat.le_refl _⟩, ⟨[], own_nil _ _ _ _⟩, HB.out.trans (Below.mono (HBw.out.trans (Below.mono (below_alloc (Below.refl _ _) _) HBw.out.size)) HB.out.size)⟩
      | false =>
        obtain ⟨t1, ht1⟩ : ∃ r, r = decide (P = Q) := ⟨_, rfl⟩
        obtain ⟨t2, ht2⟩ : ∃ r, r = decide (Q = O) := ⟨_, rfl⟩
        have HT4 := Lib.hid ht1
        have HT5 := Lib.hid ht2
        clear ht1 ht2
        cases t1 with
        | true =>
          go_wp2_with (first
            | (go_at_call 33; (with_reducible refine Calls.mono (same_doc D2 D3 d2 d3 P Q _ (HT2.out.below (below_alloc (Below.refl _ _) _)) (HT3.out.below (below_alloc (Below.refl _ _) _)) (by have := S2.out; omega) _ HT4.out) ?_); rintro e w4 ⟨rfl, n4, rfl⟩)
            | (at_builtin; refine HoldD.of ?_))
          refine HoldD.mk ?_
          refine Kd.R_append_rows Kd.string (w0 := w1) w1.heap.size rfl (.tmp 59) (.tmp 61) 29 9 (.string ⟨#[]⟩) 16 rfl Try.underlying29 ThreeString.infoE rfl (by decide) (by omega) _ out P D2 P.length d2 (fun _ => True) (fun _ => False) rfl rfl (Kd.R_below HOu.out (pw_below_drewN (below_alloc (Below.refl _ _) _) _)) (HT2.out.below (pw_below_drewN (below_alloc (Below.refl _ _) _) _)).1 (fun _ _ h => h) (fun _ h => h.elim) (fun _ _ => trivial) (HBw.out.trans ((pw_below_drewN (below_alloc (Below.refl _ _) _) _).mono HBw.out.size)) (by have := HBw.out.size; simp; omega) (by have := HL.out; have := S2.out; omega) ?_
          intro v9 w3 ho hb9 hg9 hn9
          have HO9 := Lib.hid ho
          have HB9 := Lib.hid hb9
          clear ho hb9 hg9 hn9
          go_wp2_with fail
          go_roundg (xs.length - (i + 1))
          case measure => have := HI.out; omega
          case rel =>
            refine ⟨i + 1, out ++ P, by go_num, Lib.hid (by omega), HO9, Lib.hid (by have := HL.out; have := S2.out; rw [List.length_append]; omega), HB9, Lib.hid ?_⟩
            have hch : Three.chosen O P Q = P := by
              unfold Three.chosen
              rw [if_pos (.inl (of_decide_eq_true HT4.out.symm))]
            rw [← HE.out, if_neg Bool.false_ne_true, hch]
            cases Three.merged ((xs.drop (i + 1)).map PV.p) <;> simp
        | false =>
          cases t2 with
          | true =>
            go_wp2_with (first
              | (go_at_call 33; (with_reducible refine Calls.mono (same_doc D2 D3 d2 d3 P Q _ (HT2.out.below (below_alloc (Below.refl _ _) _)) (HT3.out.below (below_alloc (Below.refl _ _) _)) (by have := S2.out; omega) _ HT4.out) ?_); rintro e w4 ⟨rfl, n4, rfl⟩)
              | (go_at_call 33; (with_reducible refine Calls.mono (same_doc D3 D1 d3 d1 Q O _ (HT3.out.below (pw_below_drewN (below_alloc (Below.refl _ _) _) _)) (HT1.out.below (pw_below_drewN (below_alloc (Below.refl _ _) _) _)) (by have := S3.out; omega) _ HT5.out) ?_); rintro e w4 ⟨rfl, n5, rfl⟩)
              | (at_builtin; refine HoldD.of ?_))
            refine HoldD.mk ?_
            refine Kd.R_append_rows Kd.string (w0 := w1) w1.heap.size rfl (.tmp 59) (.tmp 61) 29 9 (.string ⟨#[]⟩) 16 rfl Try.underlying29 ThreeString.infoE rfl (by decide) (by omega) _ out P D2 P.length d2 (fun _ => True) (fun _ => False) rfl rfl (Kd.R_below HOu.out (pw_below_drewN (below_alloc (Below.refl _ _) _) _)) (HT2.out.below (pw_below_drewN (below_alloc (Below.refl _ _) _) _)).1 (fun _ _ h => h) (fun _ h => h.elim) (fun _ _ => trivial) (HBw.out.trans ((pw_below_drewN (below_alloc (Below.refl _ _) _) _).mono HBw.out.size)) (by have := HBw.out.size; simp; omega) (by have := HL.out; have := S2.out; omega) ?_
            intro v9 w3 ho hb9 hg9 hn9
            have HO9 := Lib.hid ho
            have HB9 := Lib.hid hb9
            clear ho hb9 hg9 hn9
            go_wp2_with fail
            go_roundg (xs.length - (i + 1))
            case measure => have := HI.out; omega
            case rel =>
              refine ⟨i + 1, out ++ P, by go_num, Lib.hid (by omega), HO9, Lib.hid (by have := HL.out; have := S2.out; rw [List.length_append]; omega), HB9, Lib.hid ?_⟩
              have hch : Three.chosen O P Q = P := by
                unfold Three.chosen
                rw [if_pos (.inr (of_decide_eq_true HT5.out.symm))]
              rw [← HE.out, if_neg Bool.false_ne_true, hch]
              cases Three.merged ((xs.drop (i + 1)).map PV.p) <;> simp
          | false =>
            go_wp2_with (first
              | (go_at_call 33; (with_reducible refine Calls.mono (same_doc D2 D3 d2 d3 P Q _ (HT2.out.below (below_alloc (Below.refl _ _) _)) (HT3.out.below (below_alloc (Below.refl _ _) _)) (by have := S2.out; omega) _ HT4.out) ?_); rintro e w4 ⟨rfl, n4, rfl⟩)
              | (go_at_call 33; (with_reducible refine Calls.mono (same_doc D3 D1 d3 d1 Q O _ (HT3.out.below (pw_below_drewN (below_alloc (Below.refl _ _) _) _)) (HT1.out.below (pw_below_drewN (below_alloc (Below.refl _ _) _) _)) (by have := S3.out; omega) _ HT5.out) ?_); rintro e w4 ⟨rfl, n5, rfl⟩)
              | (at_builtin; refine HoldD.of ?_))
            refine HoldD.mk ?_
            refine Kd.R_append_rows Kd.string (w0 := w1) w1.heap.size rfl (.tmp 39) (.tmp 41) 29 9 (.string ⟨#[]⟩) 16 rfl Try.underlying29 ThreeString.infoE rfl (by decide) (by omega) _ out Q D3 Q.length d3 (fun _ => True) (fun _ => False) rfl rfl (Kd.R_below HOu.out (pw_below_drewN (below_alloc (Below.refl _ _) _) _)) (HT3.out.below (pw_below_drewN (below_alloc (Below.refl _ _) _) _)).1 (fun _ _ h => h) (fun _ h => h.elim) (fun _ _ => trivial) (HBw.out.trans ((pw_below_drewN (below_alloc (Below.refl _ _) _) _).mono HBw.out.size)) (by have := HBw.out.size; simp; omega) (by have := HL.out; have := S3.out; omega) ?_
            intro v9 w3 ho hb9 hg9 hn9
            have HO9 := Lib.hid ho
            have HB9 := Lib.hid hb9
            clear ho hb9 hg9 hn9
            go_wp2_with fail
            go_roundg (xs.length - (i + 1))
            case measure => have := HI.out; omega
            case rel =>
              refine ⟨i + 1, out ++ Q, by go_num, Lib.hid (by omega), HO9, Lib.hid (by have := HL.out; have := S3.out; rw [List.length_append]; omega), HB9, Lib.hid ?_⟩
              have hch : Three.chosen O P Q = Q := by
                unfold Three.chosen
                rw [if_neg (by rintro (h | h); exact of_decide_eq_false HT4.out.symm h; exact of_decide_eq_false HT5.out.symm h)]
              rw [← HE.out, if_neg Bool.false_ne_true, hch]
              cases Three.merged ((xs.drop (i + 1)).map PV.p) <;> simp
    · have hi : i = xs.length := by have := HI.out; omega
      subst hi
      have hn : Three.merge o a b = some out := by rw [← HE.out, List.drop_length]; simp [Three.merged]
      have HN := Lib.hid hn
      clear hn
      go_wp2_with fail
      go_ret2
      rw [HN.out]
      have hR9 := Kd.R_mono (Kd.R_lower HOu.out HB.out.size) (fun _ _ => trivial)
      obtain ⟨A9, c9, e9, hT9⟩ := tx_of_R (ok := fun _ => True) hR9
      subst e9
      exact ⟨A9, c9, rfl, hT9, Kd.R_own hR9, HB.out.trans (Below.mono HBw.out HB.out.size)⟩
end Go.Proofs.Ythghpmnbnfbheaa.SeqS
