/- The document's Read, as it is called. -/
import Derived.Test.YtipccndoffcfiaaDoorScriptD
namespace Go.Proofs.YtipccndoffcfiaaDoor.Script
open Go.RowKit Go.Proofs.YtipccndoffcfiaaDoor.PRef Go.Proofs.YtipccndoffcfiaaDoorW.PrintWords Go.Proofs.YtipccndoffcfiaaDoorW.PrintLast Go.Proofs.YtipccndoffcfiaaDoor.Rounds
attribute [local go_sem] Oper.semAt_some
set_option linter.unusedVariables false
set_option linter.unusedSimpArgs false
set_option maxHeartbeats 8000000 in
set_option maxRecDepth 100000 in
theorem read_calls (A : Option Addr) (c : Nat) (l : List ByteArray) (w : World) (hl : TX w A c l) (hz : ∀ x ∈ l, x.size ≤ 900000) (hn : l.length ≤ 1000000) :
    Calls Tryd.prog 26 #[.slice A l.length c] w (ReadPost (readL [0, 0, 0, 0, 0] [] 1 l) w) := by
  have HL := Lib.hid hl
  have HZ := Lib.hid hz
  clear hl hz
  obtain ⟨P, HP0⟩ : ∃ P, Hid (readL [0, 0, 0, 0, 0] [] 1 l = P) := ⟨_, Lib.hid rfl⟩
  rw [HP0.out]
  go_enter Tryd.func26, Tryd.ntmps26
  go_wp2_with fail
  go_loopg [6, 7, 8, 9, 10, 11, 12, 13, 14, 15] l.length (fun gg v6 v7 v8 v9 v10 v11 v12 v13 v14 v15 w' => ∃ (i : Nat) (cs : List Int) (es : List S47) (esv : Value), v6 = esv ∧ v7 = .int .i64 (i : Int) ∧ Hid (i + gg = l.length ∧ es.length ≤ i) ∧ Hid (readL cs es (i + 1) (l.drop i) = P) ∧ Hid (RdSt w w' cs esv es))
  case atStart => exact ⟨0, [0, 0, 0, 0, 0], [], .slice none 0 0, rfl, rfl, Lib.hid ⟨by simp, Nat.le_refl _⟩, HP0, Lib.hid (rdst_new w)⟩
  case round =>
    obtain ⟨i, cs, es, esv, rfl, rfl, HI, HP, HS⟩ := hrel
    clear HP0
    by_cases hlt : i < l.length
    · obtain ⟨ad, ead, had, hcw⟩ := (HL.out.below HS.out.below).at_ i hlt
      subst ead
      have hsz := HZ.out _ (List.getElem_mem hlt)
      have hd := List.drop_eq_getElem_cons hlt
      rw [hd] at HP
      have hi9 : i ≤ 1000000 := by omega
      generalize l[i] = x at HP hsz hcw
      have HBD : Hid (wordsP cs es (words x) = none → ([0, 0, 0, 0, 0], [], i + 1, 10) = P) := Lib.hid (fun h => by rw [← HP.out, readL_bad h])
      have HGD : Hid (∀ q, wordsP cs es (words x) = some q → readL q.1 q.2 (i + 1 + 1) (l.drop (i + 1)) = P) := Lib.hid (fun q h => by rw [← HP.out, readL_good h])
      clear HP hd
      go_wp2_with fail
      refine (refsplit_calls x hsz wr).mono ?_
      rintro e w1 ⟨A8, c8, rfl, htx, hb1⟩
      have HS1 := Lib.hid (HS.out.step hb1)
      have hwl := words_le x
      have hwo := word_of cs es x
      have HWS : Hid (∀ y ∈ words x, y.size ≤ 1000000) := Lib.hid (fun y hy => Nat.le_trans (words_size x y hy) (by omega))
      clear hcw had hb1 HS
      generalize words x = ws at HBD HGD htx hwl hwo HWS ⊢
      have hwn : ws.length ≤ 1000000 := by omega
      clear hwl hsz
      rcases hwo with ⟨t, hws⟩ | ⟨t, hws⟩ | ⟨t, hws⟩ | ⟨h, t, hws, h1, h2, h3⟩
      · subst hws
        obtain ⟨A', hsl, htl, hab⟩ := tx_tail htx
        obtain ⟨a8, rfl, ha8, hc8⟩ := htx.at_ 0 (by simp)
        have e0 : a8.add 0 = a8 := by cases a8; rename_i b o f; cases f <;> rfl
        rw [e0, List.getElem_cons_zero] at hc8
        have htn : t.length ≤ 1000000 := by simp at hwn; omega
        have HTL := Lib.hid htl
        clear htx ha8 htl hab
        simp only [List.length_cons]
        go_wp2_with fail
        refine (refnums_calls A' _ t htn w1 HTL.out).mono ?_
        rintro e w2 ⟨A2, c2, rfl, hnx, hb2⟩
        have HS2 := Lib.hid (HS1.out.step hb2)
        clear hb2 hc8 hsl
        unfold numsI at hnx ⊢
        cases hm : t.mapM numB with
        | none =>
          rw [hm] at hnx
          simp only at hnx ⊢
          have HP1 := Lib.hid (HBD.out (by rw [wordsP_cons, if_pos rfl]; split <;> simp [hm]))
          obtain ⟨r0, r1, r2, r3, r4, rf⟩ := HS2.out.res
          clear HBD HGD
          go_wp2_with fail
          refine bodyPost_ret (read_results _ _ w.heap.size 0 0 0 0 0 rfl (five_set HS2.out.rblk 0 0 0 0 0)) rfl ?_
          rw [← HP1.out]
          exact read_bad HS2.out (by omega)
        | some ns =>
          rw [hm] at hnx
          simp only at hnx ⊢
          have hlen := mapM_len _ _ hm
          have hml : (ns.map fun (n : Nat) => (n : Int)).length = ns.length := List.length_map ..
          by_cases h5 : ns.length = 5
          · have hw5 : wordsP cs es (⟨#[115, 101, 116]⟩ :: t) = some (ns.map fun (n : Nat) => (n : Int), es) := by rw [wordsP_cons, if_pos rfl, if_pos (by omega), hm]; rfl
            have HP1 := Lib.hid (HGD.out _ hw5)
            clear HBD HGD hw5
            obtain ⟨b0, b1, b2, b3, b4, hbs⟩ := five (ns.map fun (n : Nat) => (n : Int)) (by omega)
            rw [hbs] at HP1 hnx ⊢
            obtain ⟨a2, rfl, n0⟩ := hnx.at_ 0 (by simp)
            obtain ⟨x1, ex1, n1⟩ := hnx.at_ 1 (by simp)
            obtain rfl := Option.some.inj ex1
            obtain ⟨x2, ex2, n2⟩ := hnx.at_ 2 (by simp)
            obtain rfl := Option.some.inj ex2
            obtain ⟨x3, ex3, n3⟩ := hnx.at_ 3 (by simp)
            obtain rfl := Option.some.inj ex3
            obtain ⟨x4, ex4, n4⟩ := hnx.at_ 4 (by simp)
            obtain rfl := Option.some.inj ex4
            have e2 : a2.add 0 = a2 := by cases a2; rename_i b o f; cases f <;> rfl
            rw [e2] at n0
            simp only [List.getElem_cons_zero, List.getElem_cons_succ] at n0 n1 n2 n3 n4
            rw [show a2.add 1 = ⟨a2.block, a2.off + 1, none⟩ from rfl] at n1
            rw [show a2.add 2 = ⟨a2.block, a2.off + 2, none⟩ from rfl] at n2
            rw [show a2.add 3 = ⟨a2.block, a2.off + 3, none⟩ from rfl] at n3
            rw [show a2.add 4 = ⟨a2.block, a2.off + 4, none⟩ from rfl] at n4
            obtain ⟨a0, a1, a2', a3, a4, rfl⟩ := five cs HS2.out.len
            obtain ⟨c0, c1, c2', c3, c4, cf⟩ := HS2.out.cc
            have hc2 : [b0, b1, b2, b3, b4].length ≤ c2 := hnx.2
            clear hnx hbs hml hlen hm h5 e2
            simp only [List.length_cons, List.length_nil] at hc2 ⊢
            go_wp2_with fail
            refine wp_region_noPanic ?_
            refine start_ (n := 17) (S := fun w' => w'.cell? a2 = some (.int .i64 b0) ∧ w'.cell? ⟨a2.block, a2.off + 1, none⟩ = some (.int .i64 b1) ∧ w'.cell? ⟨a2.block, a2.off + 2, none⟩ = some (.int .i64 b2) ∧ w'.cell? ⟨a2.block, a2.off + 3, none⟩ = some (.int .i64 b3) ∧ w'.cell? ⟨a2.block, a2.off + 4, none⟩ = some (.int .i64 b4)) (ds := [16]) #[false, false, false, false, false, false, false, false, false, false, false, false, false, false, false, false, false] (by rfl) (by rfl) (by rfl) ⟨n0, n1, n2, n3, n4⟩ (fun hHeld => ?_)
            refine take_ (i := 0) (N := some 44) (v := ?_) (a' := ?_) #[true, false, false, false, false, false, false, false, false, false, false, false, false, false, false, false, false] rfl rfl (by kernel_rfl) (fun _ _ _ h => h) (Or.inl ⟨by rfl, ?_⟩) hHeld ?_ ?_
            rotate_left
            · rintro w' ⟨s0, s1, s2, s3, s4⟩
              go_simp
              try with_reducible rfl
            rotate_left
            · simp only [Act.put, List.setIfInBounds_toArray, List.set_cons_zero, List.set_cons_succ]
              rfl
            refine take_ (i := 1) (N := some 45) (v := ?_) (a' := ?_) #[true, true, false, false, false, false, false, false, false, false, false, false, false, false, false, false, false] rfl rfl (by kernel_rfl) (fun _ _ _ h => h) (Or.inl ⟨by rfl, ?_⟩) hHeld ?_ ?_
            rotate_left
            · rintro w' ⟨s0, s1, s2, s3, s4⟩
              go_simp
              try with_reducible rfl
            rotate_left
            · simp only [Act.put, List.setIfInBounds_toArray, List.set_cons_zero, List.set_cons_succ]
              rfl
            refine take_ (i := 2) (N := some 46) (v := ?_) (a' := ?_) #[true, true, true, false, false, false, false, false, false, false, false, false, false, false, false, false, false] rfl rfl (by kernel_rfl) (fun _ _ _ h => h) (Or.inl ⟨by rfl, ?_⟩) hHeld ?_ ?_
            rotate_left
            · rintro w' ⟨s0, s1, s2, s3, s4⟩
              go_simp
              try with_reducible rfl
            rotate_left
            · simp only [Act.put, List.setIfInBounds_toArray, List.set_cons_zero, List.set_cons_succ]
              rfl
            refine take_ (i := 3) (N := some 47) (v := ?_) (a' := ?_) #[true, true, true, true, false, false, false, false, false, false, false, false, false, false, false, false, false] rfl rfl (by kernel_rfl) (fun _ _ _ h => h) (Or.inl ⟨by rfl, ?_⟩) hHeld ?_ ?_
            rotate_left
            · rintro w' ⟨s0, s1, s2, s3, s4⟩
              go_simp
              try with_reducible rfl
            rotate_left
            · simp only [Act.put, List.setIfInBounds_toArray, List.set_cons_zero, List.set_cons_succ]
              rfl
            refine take_ (i := 4) (N := some 48) (v := ?_) (a' := ?_) #[true, true, true, true, true, false, false, false, false, false, false, false, false, false, false, false, false] rfl rfl (by kernel_rfl) (fun _ _ _ h => h) (Or.inl ⟨by rfl, ?_⟩) hHeld ?_ ?_
            rotate_left
            · rintro w' ⟨s0, s1, s2, s3, s4⟩
              go_simp
              try with_reducible rfl
            rotate_left
            · simp only [Act.put, List.setIfInBounds_toArray, List.set_cons_zero, List.set_cons_succ]
              rfl
            refine take_ (i := 5) (N := some 49) (v := ?_) (a' := ?_) #[true, true, true, true, true, true, false, false, false, false, false, false, false, false, false, false, false] rfl rfl (by kernel_rfl) (fun _ _ _ h => h) (Or.inl ⟨by rfl, ?_⟩) hHeld ?_ ?_
            rotate_left
            · rintro w' ⟨s0, s1, s2, s3, s4⟩
              go_simp
              try with_reducible rfl
            rotate_left
            · simp only [Act.put, List.setIfInBounds_toArray, List.set_cons_zero, List.set_cons_succ]
              rfl
            refine take_ (i := 6) (N := some 50) (v := ?_) (a' := ?_) #[true, true, true, true, true, true, true, false, false, false, false, false, false, false, false, false, false] rfl rfl (by kernel_rfl) (fun _ _ _ h => h) (Or.inl ⟨by rfl, ?_⟩) hHeld ?_ ?_
            rotate_left
            · rintro w' ⟨s0, s1, s2, s3, s4⟩
              go_simp
              try with_reducible rfl
            rotate_left
            · simp only [Act.put, List.setIfInBounds_toArray, List.set_cons_zero, List.set_cons_succ]
              rfl
            refine take_ (i := 7) (N := some 51) (v := ?_) (a' := ?_) #[true, true, true, true, true, true, true, true, false, false, false, false, false, false, false, false, false] rfl rfl (by kernel_rfl) (fun _ _ _ h => h) (Or.inl ⟨by rfl, ?_⟩) hHeld ?_ ?_
            rotate_left
            · rintro w' ⟨s0, s1, s2, s3, s4⟩
              go_simp
              try with_reducible rfl
            rotate_left
            · simp only [Act.put, List.setIfInBounds_toArray, List.set_cons_zero, List.set_cons_succ]
              rfl
            refine take_ (i := 8) (N := some 52) (v := ?_) (a' := ?_) #[true, true, true, true, true, true, true, true, true, false, false, false, false, false, false, false, false] rfl rfl (by kernel_rfl) (fun _ _ _ h => h) (Or.inl ⟨by rfl, ?_⟩) hHeld ?_ ?_
            rotate_left
            · rintro w' ⟨s0, s1, s2, s3, s4⟩
              go_simp
              try with_reducible rfl
            rotate_left
            · simp only [Act.put, List.setIfInBounds_toArray, List.set_cons_zero, List.set_cons_succ]
              rfl
            refine take_ (i := 9) (N := some 53) (v := ?_) (a' := ?_) #[true, true, true, true, true, true, true, true, true, true, false, false, false, false, false, false, false] rfl rfl (by kernel_rfl) (fun _ _ _ h => h) (Or.inl ⟨by rfl, ?_⟩) hHeld ?_ ?_
            rotate_left
            · rintro w' ⟨s0, s1, s2, s3, s4⟩
              go_simp
              try with_reducible rfl
            rotate_left
            · simp only [Act.put, List.setIfInBounds_toArray, List.set_cons_zero, List.set_cons_succ]
              rfl
            refine take_ (i := 10) (N := some 54) (v := ?_) (a' := ?_) #[true, true, true, true, true, true, true, true, true, true, true, false, false, false, false, false, false] rfl rfl (by kernel_rfl) (fun _ _ _ h => h) (Or.inl ⟨by rfl, ?_⟩) hHeld ?_ ?_
            rotate_left
            · rintro w' ⟨s0, s1, s2, s3, s4⟩
              go_simp
              try with_reducible rfl
            rotate_left
            · simp only [Act.put, List.setIfInBounds_toArray, List.set_cons_zero, List.set_cons_succ]
              rfl
            refine take_ (i := 11) (N := some 55) (v := ?_) (a' := ?_) #[true, true, true, true, true, true, true, true, true, true, true, true, false, false, false, false, false] rfl rfl (by kernel_rfl) (fun _ _ _ h => h) (Or.inl ⟨by rfl, ?_⟩) hHeld ?_ ?_
            rotate_left
            · rintro w' ⟨s0, s1, s2, s3, s4⟩
              go_simp
              try with_reducible rfl
            rotate_left
            · simp only [Act.put, List.setIfInBounds_toArray, List.set_cons_zero, List.set_cons_succ]
              rfl
            refine take_ (i := 12) (N := some 56) (v := ?_) (a' := ?_) #[true, true, true, true, true, true, true, true, true, true, true, true, true, false, false, false, false] rfl rfl (by kernel_rfl) (fun _ _ _ h => h) (Or.inl ⟨by rfl, ?_⟩) hHeld ?_ ?_
            rotate_left
            · rintro w' ⟨s0, s1, s2, s3, s4⟩
              go_simp
              try with_reducible rfl
            rotate_left
            · simp only [Act.put, List.setIfInBounds_toArray, List.set_cons_zero, List.set_cons_succ]
              rfl
            refine take_ (i := 13) (N := some 57) (v := ?_) (a' := ?_) #[true, true, true, true, true, true, true, true, true, true, true, true, true, true, false, false, false] rfl rfl (by kernel_rfl) (fun _ _ _ h => h) (Or.inl ⟨by rfl, ?_⟩) hHeld ?_ ?_
            rotate_left
            · rintro w' ⟨s0, s1, s2, s3, s4⟩
              go_simp
              try with_reducible rfl
            rotate_left
            · simp only [Act.put, List.setIfInBounds_toArray, List.set_cons_zero, List.set_cons_succ]
              rfl
            refine take_ (i := 14) (N := some 58) (v := ?_) (a' := ?_) #[true, true, true, true, true, true, true, true, true, true, true, true, true, true, true, false, false] rfl rfl (by kernel_rfl) (fun _ _ _ h => h) (Or.inl ⟨by rfl, ?_⟩) hHeld ?_ ?_
            rotate_left
            · rintro w' ⟨s0, s1, s2, s3, s4⟩
              go_simp
              try with_reducible rfl
            rotate_left
            · simp only [Act.put, List.setIfInBounds_toArray, List.set_cons_zero, List.set_cons_succ]
              rfl
            refine take_ (i := 15) (N := some 59) (v := ?_) (a' := ?_) #[true, true, true, true, true, true, true, true, true, true, true, true, true, true, true, true, false] rfl rfl (by kernel_rfl) (fun _ _ _ h => h) (Or.inl ⟨by rfl, ?_⟩) hHeld ?_ ?_
            rotate_left
            · rintro w' ⟨s0, s1, s2, s3, s4⟩
              go_simp
              try with_reducible rfl
            rotate_left
            · simp only [Act.put, List.setIfInBounds_toArray, List.set_cons_zero, List.set_cons_succ]
              rfl
            refine last_ (i := 16) (N := none) #[true, true, true, true, true, true, true, true, true, true, true, true, true, true, true, true, true] rfl rfl (by kernel_rfl) (by decide) (fun K hK => ?_)
            go_simp
            refine hK.out _ _ ?_
            clear hK K hHeld
            refine done_ (by kernel_rfl) ?_
            refine NoPanic.normal ?_
            have HS3 : Hid (RdSt w (set5 w2 (w.heap.size + 1) b0 b1 b2 b3 b4).drew [b0, b1, b2, b3, b4] u6 es) := Lib.hid ((HS2.out.set b0 b1 b2 b3 b4).step (drewB _))
            clear n0 n1 n2 n3 n4 c0 c1 c2' c3 c4 cf HS2
            go_wp2_with fail
            go_roundg (l.length - (i + 1))
            case measure => have := HI.out; omega
            case rel => exact ⟨i + 1, _, es, _, rfl, by go_num, Lib.hid ⟨by omega, by have := HI.out; first | (rw [List.length_append, List.length_singleton]; omega) | omega⟩, HP1, HS3⟩
          · have d5 : decide ((((ns.map fun (n : Nat) => (n : Int)).length : Nat) : Int) = 5) = false := decide_eq_false (by omega)
            have d5' : ((((ns.map fun (n : Nat) => (n : Int)).length : Nat) : Int) == 5) = false := beq_false_of_ne (by omega)
            generalize (ns.map fun (n : Nat) => (n : Int)).length = m at d5 d5' hnx ⊢
            have HP1 := Lib.hid (HBD.out (by rw [wordsP_cons, if_pos rfl, if_neg (by omega)]; rfl))
            obtain ⟨r0, r1, r2, r3, r4, rf⟩ := HS2.out.res
            clear HBD HGD
            go_wp2_with fail
            refine bodyPost_ret (read_results _ _ w.heap.size 0 0 0 0 0 rfl (five_set HS2.out.rblk 0 0 0 0 0)) rfl ?_
            rw [← HP1.out]
            exact read_bad HS2.out (by omega)
      · subst hws
        obtain ⟨A', hsl, htl, hab⟩ := tx_tail htx
        obtain ⟨a8, rfl, ha8, hc8⟩ := htx.at_ 0 (by simp)
        have e0 : a8.add 0 = a8 := by cases a8; rename_i b o f; cases f <;> rfl
        rw [e0, List.getElem_cons_zero] at hc8
        have htn : t.length ≤ 1000000 := by simp at hwn; omega
        have HTL := Lib.hid htl
        clear htx ha8 htl hab
        simp only [List.length_cons]
        go_wp2_with fail
        refine (refnums_calls A' _ t htn w1 HTL.out).mono ?_
        rintro e w2 ⟨A2, c2, rfl, hnx, hb2⟩
        have HS2 := Lib.hid (HS1.out.step hb2)
        clear hb2 hc8 hsl
        unfold numsI at hnx ⊢
        cases hm : t.mapM numB with
        | none =>
          rw [hm] at hnx
          simp only at hnx ⊢
          have HP1 := Lib.hid (HBD.out (by rw [wordsP_cons, if_neg (by decide), if_pos rfl, ev_none (by split <;> simp [hm])]; rfl))
          obtain ⟨r0, r1, r2, r3, r4, rf⟩ := HS2.out.res
          clear HBD HGD
          go_wp2_with fail
          refine bodyPost_ret (read_results _ _ w.heap.size 0 0 0 0 0 rfl (five_set HS2.out.rblk 0 0 0 0 0)) rfl ?_
          rw [← HP1.out]
          exact read_bad HS2.out (by omega)
        | some ns =>
          rw [hm] at hnx
          simp only at hnx ⊢
          have hlen := mapM_len _ _ hm
          have hml : (ns.map fun (n : Nat) => (n : Int)).length = ns.length := List.length_map ..
          by_cases h5 : ns.length = 2
          · obtain ⟨kk, zz, rfl⟩ : ∃ kk zz, ns = [kk, zz] := two_len h5
            have hev : evL t = if kk = 1 then none else some ⟨(kk : Int), (zz : Int), ⟨#[]⟩⟩ := by unfold evL; rw [if_pos (by omega), hm]
            obtain ⟨a2, rfl, n0⟩ := hnx.at_ 0 (by simp)
            obtain ⟨x1, ex1, n1⟩ := hnx.at_ 1 (by simp)
            obtain rfl := Option.some.inj ex1
            have e2 : a2.add 0 = a2 := by cases a2; rename_i b o f; cases f <;> rfl
            rw [e2] at n0
            simp only [List.map_cons, List.map_nil, List.getElem_cons_zero, List.getElem_cons_succ] at n0 n1
            rw [show a2.add 1 = ⟨a2.block, a2.off + 1, none⟩ from rfl] at n1
            have hc2 : (([kk, zz] : List Nat).map fun (n : Nat) => (n : Int)).length ≤ c2 := hnx.2
            simp only [List.map_cons, List.map_nil, List.length_cons, List.length_nil] at hc2 ⊢
            clear hnx hml hlen hm h5 e2
            have hes : es.length ≤ 1000000 := by have := HI.out; omega
            by_cases hk1 : kk = 1
            · subst hk1
              have HP1 := Lib.hid (HBD.out (by rw [wordsP_cons, if_neg (by decide), if_pos rfl, hev, if_pos rfl]; rfl))
              obtain ⟨r0, r1, r2, r3, r4, rf⟩ := HS2.out.res
              clear HBD HGD
              go_wp2_with fail
              refine bodyPost_ret (read_results _ _ w.heap.size 0 0 0 0 0 rfl (five_set HS2.out.rblk 0 0 0 0 0)) rfl ?_
              rw [← HP1.out]
              exact read_bad HS2.out (by omega)
            · have dk : decide ((kk : Int) = 1) = false := decide_eq_false (by omega)
              have dk' : ((kk : Int) == 1) = false := beq_false_of_ne (by omega)
              have dk2 : decide (¬ (kk : Int) = 1) = true := decide_eq_true (by omega)
              have HP1 := Lib.hid (HGD.out _ (by rw [wordsP_cons, if_neg (by decide), if_pos rfl, hev, if_neg hk1]; rfl))
              try simp only at HP1
              clear HBD HGD hev
              go_wp2_with fail
              refine wp_region_noPanic ?_
              refine start_ (n := 11) (S := fun w' => w'.cell? a2 = some (.int .i64 (kk : Int)) ∧ w'.cell? ⟨a2.block, a2.off + 1, none⟩ = some (.int .i64 (zz : Int))) (ds := [9]) #[false, false, false, false, false, false, false, false, false, false, false] (by rfl) (by rfl) (by rfl) ⟨n0, n1⟩ (fun hHeld => ?_)
              refine take_ (i := 0) (N := some 80) (v := ?_) (a' := ?_) #[true, false, false, false, false, false, false, false, false, false, false] rfl rfl (by kernel_rfl) (fun _ _ _ h => h) (Or.inl ⟨by rfl, ?_⟩) hHeld ?_ ?_
              rotate_left
              · rintro w' ⟨s0, s1⟩
                go_simp
                try with_reducible rfl
              rotate_left
              · simp only [Act.put, List.setIfInBounds_toArray, List.set_cons_zero, List.set_cons_succ]
                rfl
              refine take_ (i := 1) (N := some 81) (v := ?_) (a' := ?_) #[true, true, false, false, false, false, false, false, false, false, false] rfl rfl (by kernel_rfl) (fun _ _ _ h => h) (Or.inl ⟨by rfl, ?_⟩) hHeld ?_ ?_
              rotate_left
              · rintro w' ⟨s0, s1⟩
                go_simp
                try with_reducible rfl
              rotate_left
              · simp only [Act.put, List.setIfInBounds_toArray, List.set_cons_zero, List.set_cons_succ]
                rfl
              refine take_ (i := 2) (N := some 82) (v := ?_) (a' := ?_) #[true, true, true, false, false, false, false, false, false, false, false] rfl rfl (by kernel_rfl) (fun _ _ _ h => h) (Or.inl ⟨by rfl, ?_⟩) hHeld ?_ ?_
              rotate_left
              · rintro w' ⟨s0, s1⟩
                go_simp
                try with_reducible rfl
              rotate_left
              · simp only [Act.put, List.setIfInBounds_toArray, List.set_cons_zero, List.set_cons_succ]
                rfl
              refine take_ (i := 3) (N := some 83) (v := ?_) (a' := ?_) #[true, true, true, true, false, false, false, false, false, false, false] rfl rfl (by kernel_rfl) (fun _ _ _ h => h) (Or.inl ⟨by rfl, ?_⟩) hHeld ?_ ?_
              rotate_left
              · rintro w' ⟨s0, s1⟩
                go_simp
                try with_reducible rfl
              rotate_left
              · simp only [Act.put, List.setIfInBounds_toArray, List.set_cons_zero, List.set_cons_succ]
                rfl
              refine take_ (i := 4) (N := some 84) (v := ?_) (a' := ?_) #[true, true, true, true, true, false, false, false, false, false, false] rfl rfl (by kernel_rfl) (fun _ _ _ h => h) (Or.inl ⟨by rfl, ?_⟩) hHeld ?_ ?_
              rotate_left
              · rintro w' ⟨s0, s1⟩
                go_simp
                try with_reducible rfl
              rotate_left
              · simp only [Act.put, List.setIfInBounds_toArray, List.set_cons_zero, List.set_cons_succ]
                rfl
              refine take_ (i := 5) (N := some 85) (v := ?_) (a' := ?_) #[true, true, true, true, true, true, false, false, false, false, false] rfl rfl (by kernel_rfl) (fun _ _ _ h => h) (Or.inl ⟨by rfl, ?_⟩) hHeld ?_ ?_
              rotate_left
              · rintro w' ⟨s0, s1⟩
                go_simp
                try with_reducible rfl
              rotate_left
              · simp only [Act.put, List.setIfInBounds_toArray, List.set_cons_zero, List.set_cons_succ]
                rfl
              refine take_ (i := 6) (N := some 86) (v := ?_) (a' := ?_) #[true, true, true, true, true, true, true, false, false, false, false] rfl rfl (by kernel_rfl) (fun _ _ _ h => h) (Or.inl ⟨by rfl, ?_⟩) hHeld ?_ ?_
              rotate_left
              · rintro w' ⟨s0, s1⟩
                go_simp
                try with_reducible rfl
              rotate_left
              · simp only [Act.put, List.setIfInBounds_toArray, List.set_cons_zero, List.set_cons_succ]
                rfl
              refine take_ (i := 7) (N := some 87) (v := ?_) (a' := ?_) #[true, true, true, true, true, true, true, true, false, false, false] rfl rfl (by kernel_rfl) (fun _ _ _ h => h) (Or.inl ⟨by rfl, ?_⟩) hHeld ?_ ?_
              rotate_left
              · rintro w' ⟨s0, s1⟩
                go_simp
                try with_reducible rfl
              rotate_left
              · simp only [Act.put, List.setIfInBounds_toArray, List.set_cons_zero, List.set_cons_succ]
                rfl
              refine one_ (i := 8) (N := some 88) #[true, true, true, true, true, true, true, true, true, false, false] rfl rfl (by kernel_rfl) (by decide) (fun K hK => ?_)
              go_simp
              have hh1 : (fun w' => w'.cell? a2 = some (.int .i64 (kk : Int)) ∧ w'.cell? ⟨a2.block, a2.off + 1, none⟩ = some (.int .i64 (zz : Int))) (w2.drew.alloc (.cells #[.int .i64 (kk : Int), .int .i64 (zz : Int), .string ⟨#[]⟩] 47)) := two_keep n0 n1 (push_drew w2 _)
              refine hK.out _ _ hh1 (fun hHeld => ?_)
              clear hK K
              try simp only [Act.put, List.setIfInBounds_toArray, List.set_cons_zero, List.set_cons_succ]
              refine last_ (i := 9) (N := some 89) #[true, true, true, true, true, true, true, true, true, true, false] rfl rfl (by kernel_rfl) (by decide) (fun K hK => ?_)
              refine Kd.R_append_step k47 (w0 := w2) (w.heap.size + 2) (by rfl) (.tmp 80) (.tmp 88) 29 47 (.agg #[.int .i64 0, .int .i64 0, .string ⟨#[]⟩]) 32 (by rfl) Tryd.underlying29 infoEv rfl (by decide) (by omega) _ es ⟨(kk : Int), (zz : Int), ⟨#[]⟩⟩ [.int .i64 (kk : Int), .int .i64 (zz : Int), .string ⟨#[]⟩] (fun _ => True) (fun _ => False) (by rfl) (by rfl) (k47_mkM _ _ _ ⟨(kk : Int), (zz : Int), ⟨#[]⟩⟩) (fun _ h => h.elim) (fun _ _ => trivial) (Kd.R_below HS2.out.row (drewB w2)) ((drewB w2).mono HS2.out.size) HS2.out.size (by omega) ?_
              intro esv' w3 ho hb3 hg hat
              obtain ⟨A9, c9, e9⟩ := Kd.R_slice ho
              subst e9
              have HS3 := Lib.hid (HS2.out.grown hb3 ho)
              rw [List.length_append, List.length_singleton] at HS3
              clear ho hb3 hg hat n0 n1 HS2 hh1
              refine hK.out _ _ ?_
              clear hK K hHeld
              try simp only [Act.put, List.setIfInBounds_toArray, List.set_cons_zero, List.set_cons_succ]
              refine pure_ (i := 10) (N := some 6) (v := .slice A9 (es.length + 1) c9) (a' := ?_) #[true, true, true, true, true, true, true, true, true, true, true] rfl rfl (by kernel_rfl) (fun _ _ _ h => h) (Or.inl ⟨by rfl, fun w' => ?_⟩) ?_ ?_
              rotate_left
              rotate_left
              · simp only [Act.put, List.setIfInBounds_toArray, List.set_cons_zero, List.set_cons_succ]
                rfl
              rotate_left
              · go_simp
                try with_reducible rfl
              refine done_ (by kernel_rfl) ?_
              refine NoPanic.normal ?_
              go_wp2_with fail
              go_roundg (l.length - (i + 1))
              case measure => have := HI.out; omega
              case rel => exact ⟨i + 1, cs, es ++ [(⟨(kk : Int), (zz : Int), ⟨#[]⟩⟩ : S47)], _, rfl, by go_num, Lib.hid ⟨by omega, by have := HI.out; first | (rw [List.length_append, List.length_singleton]; omega) | omega⟩, HP1, HS3⟩
          · have d5 : decide ((((ns.map fun (n : Nat) => (n : Int)).length : Nat) : Int) = 2) = false := decide_eq_false (by omega)
            have d5' : ((((ns.map fun (n : Nat) => (n : Int)).length : Nat) : Int) == 2) = false := beq_false_of_ne (by omega)
            generalize (ns.map fun (n : Nat) => (n : Int)).length = m at d5 d5' hnx ⊢
            have HP1 := Lib.hid (HBD.out (by rw [wordsP_cons, if_neg (by decide), if_pos rfl, ev_none (by rw [if_neg (by omega)])]; rfl))
            obtain ⟨r0, r1, r2, r3, r4, rf⟩ := HS2.out.res
            clear HBD HGD
            go_wp2_with fail
            refine bodyPost_ret (read_results _ _ w.heap.size 0 0 0 0 0 rfl (five_set HS2.out.rblk 0 0 0 0 0)) rfl ?_
            rw [← HP1.out]
            exact read_bad HS2.out (by omega)
      · subst hws
        by_cases ht1 : t.length = 1
        · obtain ⟨y, rfl⟩ : ∃ y, t = [y] := List.length_eq_one_iff.1 ht1
          obtain ⟨a8, rfl, ha8, hc8⟩ := htx.at_ 0 (by simp)
          obtain ⟨x1, ex1, hx1, hc81⟩ := htx.at_ 1 (by simp)
          obtain rfl := Option.some.inj ex1
          have e0 : a8.add 0 = a8 := by cases a8; rename_i b o f; cases f <;> rfl
          rw [e0, List.getElem_cons_zero] at hc8
          rw [List.getElem_cons_succ, List.getElem_cons_zero, show a8.add 1 = ⟨a8.block, a8.off + 1, none⟩ from rfl] at hc81
          have hys : y.size ≤ 1000000 := HWS.out y (by simp)
          have hes : es.length ≤ 1000000 := by have := HI.out; omega
          have hak : askL [y] = (bytesP y).map fun b => ⟨1, 0, b⟩ := askL_one y
          clear htx ha8 hx1 ht1
          have hw2 := HS1.out.size
          simp only [List.length_cons, List.length_nil]
          go_wp2_with fail
          refine (refbytes_calls y hys w1).mono ?_
          rintro e w2 ⟨rfl, hb2⟩
          have HS2 := Lib.hid (HS1.out.step hb2)
          clear hb2 hc8 hc81 hw2
          cases hrx : bytesP y with
          | none =>
            rw [hrx] at hak
            simp only [Option.getD_none, Option.getD_some, Option.isSome_none, Option.isSome_some]
            go_wp2_with (first | ((with_reducible refine gate_builtin (b := .append) (xs := #[.tmp 102, .tmp 105]) rfl ?_); at_builtin; refine Kd.R_append k47 (w0 := w2) (w.heap.size + 2) rfl (.tmp 102) (.tmp 105) 29 47 (.agg #[.int .i64 0, .int .i64 0, .string ⟨#[]⟩]) 32 rfl Tryd.underlying29 infoEv rfl (by decide) (by omega) _ es ⟨1, 0, ⟨#[]⟩⟩ [.int .i64 1, .int .i64 0, .string ⟨#[]⟩] (fun _ => True) (fun _ => False) rfl rfl (k47_mkM _ _ _ ⟨1, 0, ⟨#[]⟩⟩) (fun _ h => h.elim) (fun _ _ => trivial) HS2.out.row ((Below.refl _ _)) HS2.out.size (by omega) ?_; intro esv' w3 ho hb3 hg hat; obtain ⟨A9, c9, e9⟩ := Kd.R_slice ho; subst e9; have HS3 := Lib.hid (HS2.out.grown hb3 ho); rw [List.length_append, List.length_singleton] at HS3; clear ho hb3 hg hat HS2; have HP1 := Lib.hid (HBD.out (by rw [wordsP_cons, if_neg (by decide), if_neg (by decide), if_pos rfl, hak]; rfl)); obtain ⟨r0, r1, r2, r3, r4, rf⟩ := HS3.out.res; clear HBD HGD))
            refine bodyPost_ret (read_results _ _ w.heap.size 0 0 0 0 0 rfl (five_set HS3.out.rblk 0 0 0 0 0)) rfl ?_
            rw [← HP1.out]
            exact read_bad HS3.out (by omega)
          | some b =>
            rw [hrx] at hak
            simp only [Option.getD_none, Option.getD_some, Option.isSome_none, Option.isSome_some]
            go_wp2_with (first | ((with_reducible refine gate_builtin (b := .append) (xs := #[.tmp 102, .tmp 105]) rfl ?_); at_builtin; refine Kd.R_append k47 (w0 := w2) (w.heap.size + 2) rfl (.tmp 102) (.tmp 105) 29 47 (.agg #[.int .i64 0, .int .i64 0, .string ⟨#[]⟩]) 32 rfl Tryd.underlying29 infoEv rfl (by decide) (by omega) _ es ⟨1, 0, b⟩ [.int .i64 1, .int .i64 0, .string b] (fun _ => True) (fun _ => False) rfl rfl (k47_mkM _ _ _ ⟨1, 0, b⟩) (fun _ h => h.elim) (fun _ _ => trivial) HS2.out.row ((Below.refl _ _)) HS2.out.size (by omega) ?_; intro esv' w3 ho hb3 hg hat; obtain ⟨A9, c9, e9⟩ := Kd.R_slice ho; subst e9; have HS3 := Lib.hid (HS2.out.grown hb3 ho); rw [List.length_append, List.length_singleton] at HS3; clear ho hb3 hg hat HS2; have HP1 := Lib.hid (HGD.out (cs, es ++ [⟨1, 0, b⟩]) (by rw [wordsP_cons, if_neg (by decide), if_neg (by decide), if_pos rfl, hak]; rfl)); obtain ⟨r0, r1, r2, r3, r4, rf⟩ := HS3.out.res; clear HBD HGD))
            try simp only at HP1
            go_roundg (l.length - (i + 1))
            case measure => have := HI.out; omega
            case rel => exact ⟨i + 1, cs, es ++ [(⟨1, 0, b⟩ : S47)], _, rfl, by go_num, Lib.hid ⟨by omega, by have := HI.out; first | (rw [List.length_append, List.length_singleton]; omega) | omega⟩, HP1, HS3⟩
        · have d5 : decide (((t.length : Int) + 1) = 2) = false := decide_eq_false (by omega)
          have d5' : (((t.length : Int) + 1) == 2) = false := beq_false_of_ne (by omega)
          obtain ⟨a8, rfl, ha8, hc8⟩ := htx.at_ 0 (by simp)
          have e0 : a8.add 0 = a8 := by cases a8; rename_i b o f; cases f <;> rfl
          rw [e0, List.getElem_cons_zero] at hc8
          have hask := ask_other ht1
          clear htx ha8
          simp only [List.length_cons]
          have HP1 := Lib.hid (HBD.out (by rw [wordsP_cons, if_neg (by decide), if_neg (by decide), if_pos rfl, hask]; rfl))
          obtain ⟨r0, r1, r2, r3, r4, rf⟩ := HS1.out.res
          clear HBD HGD
          go_wp2_with fail
          refine bodyPost_ret (read_results _ _ w.heap.size 0 0 0 0 0 rfl (five_set HS1.out.rblk 0 0 0 0 0)) rfl ?_
          rw [← HP1.out]
          exact read_bad HS1.out (by omega)
      · subst hws
        obtain ⟨a8, rfl, ha8, hc8⟩ := htx.at_ 0 (by simp)
        have e0 : a8.add 0 = a8 := by cases a8; rename_i b o f; cases f <;> rfl
        rw [e0, List.getElem_cons_zero] at hc8
        have HP1 := Lib.hid (HBD.out (by rw [wordsP_cons, if_neg h1, if_neg h2, if_neg h3]))
        have t1 : (h.toList == [115, 101, 116]) = false := tl_lit h1
        have t1d : ¬ h.toList = [115, 101, 116] := fun e => by rw [e] at t1; exact absurd t1 (by decide)
        have t2 : (h.toList == [101, 118]) = false := tl_lit h2
        have t2d : ¬ h.toList = [101, 118] := fun e => by rw [e] at t2; exact absurd t2 (by decide)
        have t3 : (h.toList == [97, 115, 107]) = false := tl_lit h3
        have t3d : ¬ h.toList = [97, 115, 107] := fun e => by rw [e] at t3; exact absurd t3 (by decide)
        obtain ⟨r0, r1, r2, r3, r4, rf⟩ := HS1.out.res
        clear HBD HGD htx ha8 h1 h2 h3
        go_wp2_with fail
        refine bodyPost_ret (read_results _ _ w.heap.size 0 0 0 0 0 rfl (five_set HS1.out.rblk 0 0 0 0 0)) rfl ?_
        rw [← HP1.out]
        exact read_bad HS1.out (by omega)
    · have hi : i = l.length := by have := HI.out; omega
      have HP1 : Hid (readL cs es (i + 1) [] = P) := by rw [hi, List.drop_length] at HP; rw [hi]; exact HP
      rw [readL_nil] at HP1
      obtain ⟨a0, a1, a2, a3, a4, rfl⟩ := five cs HS.out.len
      obtain ⟨r0, r1, r2, r3, r4, rf⟩ := HS.out.res
      obtain ⟨c0, c1, c2, c3, c4, cf⟩ := HS.out.cc
      clear HP
      go_wp2_with fail
      refine bodyPost_ret (read_results _ _ w.heap.size a0 a1 a2 a3 a4 rfl (five_set HS.out.rblk a0 a1 a2 a3 a4)) rfl ?_
      rw [← HP1.out]
      exact read_end HS.out
end Go.Proofs.YtipccndoffcfiaaDoor.Script
