/- The walk of the law ThreeTells answers true, whatever the lists. -/
import Derived.Test.YtgcjejepahdjgaaThreeDocMerge
namespace Go.Proofs.Ytgcjejepahdjgaa.SeqS
open Go.RowKit Go.Shelf Go.Proofs.Ytgcjejepahdjgaa.SeqM Go.Proofs.Ytgcjejepahdjgaa.PRef Go.Proofs.YtgcjejepahdjgaaW.PrintWords Go.Proofs.YtgcjejepahdjgaaW.PrintLast
attribute [local go_sem] Oper.semAt_some
set_option linter.unusedVariables false
set_option linter.unusedSimpArgs false
open ThreeString (PV Rd bls)
theorem turn_cell {M : Fp} {a b : World} (h : TurnM M a b) {p : Addr} {x : Value} (hp : a.cell? p = some x) (hn : ¬ M p.block) : b.cell? p = some x := by
  have hlt := World.block_lt_of_cell? a _ hp
  have hb := h.block _ hlt hn
  rw [← hp]
  simp only [World.cell?, hb]
theorem R_turn {W W' : World} {B : Nat} {v : Value} {l : List ByteArray} {M : Fp} (h : Kd.R Kd.string 9 W B (fun _ => True) v l) (ht : TurnM M W W') (hd : ∀ k, v.ownBlock = some k → ¬ M k) : Kd.R Kd.string 9 W' B (fun _ => True) v l := by
  obtain ⟨h0, inner, ho, hi⟩ := h
  have h' : Kd.R Kd.string 9 W B (fun k => v.ownBlock = some k) v l := ⟨fun k e => e, inner, ho, hi.imp_ (fun _ _ h => h)⟩
  exact Kd.R_mono (Kd.R_step h' (fun k hk hlt => ht.block k hlt (hd k hk))) (fun _ _ => trivial)
theorem piece_at {W : World} {B : Nat} {v : Value} {xs : List PV} (h : Kd.R ThreeString.kP 34 W B (fun _ => True) v xs) (i : Nat) (hi : i < xs.length) :
    Kd.R Kd.string 9 W B (fun _ => True) xs[i].v1 xs[i].p.o ∧ Kd.R Kd.string 9 W B (fun _ => True) xs[i].v2 xs[i].p.a ∧ Kd.R Kd.string 9 W B (fun _ => True) xs[i].v3 xs[i].p.b := by
  obtain ⟨h0, inner, ho, hr⟩ := h
  obtain ⟨cs, hm⟩ := ThreeString.reps_mem hr _ (List.getElem_mem hi)
  obtain ⟨_, r1, r2, r3⟩ := ThreeString.kP_openM hm
  exact ⟨Kd.R_mono r1 (fun _ _ => trivial), Kd.R_mono r2 (fun _ _ => trivial), Kd.R_mono r3 (fun _ _ => trivial)⟩
/-- The pieces' rows: from B on, below the world's end, none of them the pieces' own row. -/
theorem bls_at {W : World} {B : Nat} {v : Value} {xs : List PV} (h : Kd.R ThreeString.kP 34 W B (fun _ => True) v xs) : ∀ k ∈ bls xs, B ≤ k ∧ k < W.heap.size ∧ some k ≠ v.ownBlock := by
  obtain ⟨h0, inner, ho, hr⟩ := h
  intro k hk
  obtain ⟨x, hx, hk⟩ := List.mem_flatMap.1 hk
  obtain ⟨cs, hm⟩ := ThreeString.reps_mem hr x hx
  have := ThreeString.bl_of_M hm k hk
  exact ⟨this.1, this.2.1, this.2.2.2⟩
theorem bls_take {xs : List PV} (i : Nat) (hi : i < xs.length) : bls (xs.take (i + 1)) = bls (xs.take i) ++ xs[i].bl := by
  rw [List.take_succ_eq_append_getElem hi, ThreeString.bls_snoc]
theorem bls_sub {xs : List PV} (i : Nat) : ∀ k ∈ bls (xs.take i), k ∈ bls xs := by
  intro k hk
  obtain ⟨x, hx, hk⟩ := List.mem_flatMap.1 hk
  exact List.mem_flatMap.2 ⟨x, List.mem_of_mem_take hx, hk⟩
theorem bls_nodup {xs : List PV} (h : (bls xs).Nodup) (i : Nat) : (bls (xs.take i)).Nodup := by
  have e : bls xs = bls (xs.take i) ++ bls (xs.drop i) := by
    unfold ThreeString.bls
    rw [← List.flatMap_append, List.take_append_drop]
  rw [e] at h
  exact (List.nodup_append.1 h).1
theorem map_at {xs qs : List PV} (h : xs.map PV.p = qs.map PV.p) (i : Nat) (h1 : i < xs.length) (h2 : i < qs.length) : xs[i].p = qs[i].p := by
  have e : (xs.map PV.p)[i]? = (qs.map PV.p)[i]? := by rw [h]
  simpa [h1, h2] using e
/-- What was answered is written over, and beyond. -/
theorem over_O (W : World) (B : Nat) (v : Value) (n : Nat) (xs : List Value) (ho : W.ownsRow B 9 1 v n xs) (hl : n ≤ 1000000) :
    Calls Try.prog 16 #[v] W fun e w' => (∃ u, e = .returned u) ∧ TurnM (fun k => v.ownBlock = some k) W w' := by
  rcases ho.2 with ⟨rfl, _⟩ | ⟨g, cap, cur, rfl, _⟩
  · exact (over_nil W).mono fun e w' ⟨he, hb⟩ => ⟨he, TurnM.of_below hb⟩
  · exact (over_calls W g n cap _ hl (own_row ho)).mono fun e w' ⟨he, ht⟩ => ⟨he, ht.mono (fun k _ e => by simp [Value.ownBlock, e])⟩
theorem over_R (W : World) (B : Nat) (v : Value) (l : List ByteArray) (h : Kd.R Kd.string 9 W B (fun _ => True) v l) (hl : l.length ≤ 1000000) :
    Calls Try.prog 16 #[v] W fun e w' => (∃ u, e = .returned u) ∧ TurnM (fun k => v.ownBlock = some k) W w' := by
  obtain ⟨xs, ho⟩ := Kd.R_own h
  exact over_O W B v l.length xs ho hl
theorem turn_more {L : List Nat} {v : Value} {a b c : World} (h : TurnM (fun k => k ∈ L) a b) (k : TurnM (fun k => v.ownBlock = some k) b c) : TurnM (fun k => k ∈ L ++ v.ownBlock.toList) a c :=
  (h.mono (fun k _ hk => List.mem_append_left _ hk)).on k (fun i _ e => List.mem_append_right _ (by rw [e]; simp))
theorem turn_below {L : List Nat} {a b c : World} (h : TurnM (fun k => k ∈ L) a b) (k : Below b.heap.size b c) : TurnM (fun k => k ∈ L) a c := h.trans (TurnM.of_below k)
theorem own_ge {W : World} {B e : Nat} {v : Value} {ys : List PV} {ok : Nat → Prop} (h : Kd.R kD e W B ok v ys) (k : Nat) (hk : v.ownBlock = some k) : B ≤ k := by
  obtain ⟨inner, ho⟩ := Kd.R_own h
  exact (ho.lt k hk).1
theorem rd_tx {W : World} {v : Value} {l : List ByteArray} (h : Rd W v l) : ∃ A c, v = .slice A l.length c ∧ TX W A c l := by
  obtain ⟨A, c, e, h1, h2⟩ := h
  exact ⟨A, c, e, h2, h1⟩
theorem three_apart {xs : List PV} {L : List Nat} {v1 v2 v3 : Value} (hs : ∀ k ∈ L ++ (v1.ownBlock.toList ++ v2.ownBlock.toList ++ v3.ownBlock.toList), k ∈ bls xs) (hn : (L ++ (v1.ownBlock.toList ++ v2.ownBlock.toList ++ v3.ownBlock.toList)).Nodup) :
    (∀ k ∈ L, k ∈ bls xs) ∧ (∀ k ∈ L ++ v1.ownBlock.toList, k ∈ bls xs) ∧ (∀ k ∈ L ++ v1.ownBlock.toList ++ v2.ownBlock.toList, k ∈ bls xs) ∧ (∀ k ∈ L ++ v1.ownBlock.toList ++ v2.ownBlock.toList ++ v3.ownBlock.toList, k ∈ bls xs) ∧
    (∀ k, v1.ownBlock = some k → k ∉ L) ∧ (∀ k, v2.ownBlock = some k → k ∉ L ++ v1.ownBlock.toList) ∧ (∀ k, v3.ownBlock = some k → k ∉ L ++ v1.ownBlock.toList ++ v2.ownBlock.toList) := by
  rw [← List.append_assoc, ← List.append_assoc] at hs hn
  refine ⟨fun k hk => hs k (List.mem_append_left _ (List.mem_append_left _ (List.mem_append_left _ hk))), fun k hk => hs k (List.mem_append_left _ (List.mem_append_left _ hk)), fun k hk => hs k (List.mem_append_left _ hk), hs, ?_, ?_, ?_⟩
  · intro k e h
    have := (List.nodup_append.1 (List.nodup_append.1 (List.nodup_append.1 hn).1).1).2.2 k h k (by rw [e]; simp)
    exact this rfl
  · intro k e h
    exact (List.nodup_append.1 (List.nodup_append.1 hn).1).2.2 k h k (by rw [e]; simp) rfl
  · intro k e h
    exact (List.nodup_append.1 hn).2.2 k h k (by rw [e]; simp) rfl
/-- Texts that were lent are read. -/
theorem Lent.tx {W : World} {g : Nat} {zs : List ByteArray} (h : Lent W g zs) (hl : zs.length ≤ 1000000) : TX W (some ⟨g, 0, none⟩) (zs.length + 3) zs := ⟨h.cells.kd hl, by omega⟩
/-- What is kept from a world on. -/
def From (w0 W : World) : Prop := Below w0.heap.size w0 W
theorem From.below {w0 W W' : World} (h : From w0 W) (hb : Below W.heap.size W W') : From w0 W' := Below.trans h (hb.mono (Below.size h))
theorem From.turn {w0 w8 W : World} {L : List Nat} (h : From w0 w8) (ht : TurnM (fun k => k ∈ L) w8 W) (hL : ∀ k ∈ L, w0.heap.size ≤ k) : From w0 W := Below.trans h (ht.below (Below.size h) (fun k _ hk => hL k hk))
set_option maxHeartbeats 8000000 in
set_option maxRecDepth 100000 in
theorem tells_long (A B D : Option Addr) (c d f na nb nc : Nat) (w : World) (h : Great3 A B D c d f na nb nc true w) :
    Calls Try.prog 3 #[.slice A na c, .slice B nb d, .slice D nc f] w (LawPost w) := by
  have H := Lib.hid h
  clear h
  go_enter Try.func3, Try.ntmps3
  go_wp2_with fail
  refine (H.out _ (Below.refl _ _)).mono ?_
  rintro e w1 ⟨rfl, hb⟩
  have HB := Lib.hid hb
  clear hb
  go_wp2_with fail
  refine (awake5 _).mono ?_
  rintro e w2 ⟨rfl, hb⟩
  replace HB := Lib.hid (HB.out.trans (hb.mono HB.out.size))
  clear hb
  go_wp2
  go_ret
  exact ⟨rfl, HB.out⟩
set_option maxHeartbeats 16000000 in
set_option maxRecDepth 100000 in
theorem tells_short (A B D : Option Addr) (c d f : Nat) (o a b : List ByteArray) (w : World) (ho : CellsT w A o) (ha : CellsT w B a) (hb : CellsT w D b) (n0 : A = none → o.length = 0 ∧ c = 0) (n1 : B = none → a.length = 0 ∧ d = 0) (n2 : D = none → b.length = 0 ∧ f = 0)
    (hc : o.length ≤ c) (hd : a.length ≤ d) (hf : b.length ≤ f) (h : Great3 A B D c d f o.length a.length b.length false w) (l0 : o.length ≤ 30) (l1 : a.length ≤ 30) (l2 : b.length ≤ 30) :
    Calls Try.prog 3 #[.slice A o.length c, .slice B a.length d, .slice D b.length f] w (LawPost w) := by
  have H := Lib.hid h
  have HO := Lib.hid ho
  have HA := Lib.hid ha
  have HBb := Lib.hid hb
  clear h ho ha hb
  go_enter Try.func3, Try.ntmps3
  go_wp2_with fail
  refine (H.out _ (Below.refl _ _)).mono ?_
  rintro e w0 ⟨rfl, hb⟩
  have HB := Lib.hid hb
  clear hb H
  replace HO := Lib.hid (HO.out.below HB.out)
  replace HA := Lib.hid (HA.out.below HB.out)
  replace HBb := Lib.hid (HBb.out.below HB.out)
  go_wp2_with fail
  refine (lend_calls _ A c o (by omega) HO.out n0).mono ?_
  rintro e w1 ⟨rfl, hLe, hb⟩
  obtain ⟨gx, hgx⟩ : ∃ gx, gx = w0.heap.size := ⟨_, rfl⟩
  rw [← hgx] at hLe ⊢
  have hLe : Lent w1 gx o := hLe
  clear hgx
  replace HO := Lib.hid (HO.out.below hb)
  replace HA := Lib.hid (HA.out.below hb)
  replace HBb := Lib.hid (HBb.out.below hb)
  replace HB := Lib.hid (HB.out.trans (hb.mono HB.out.size))
  have HLx := Lib.hid hLe
  clear hb hLe
  go_wp2_with fail
  refine (lend_calls _ B d a (by omega) HA.out n1).mono ?_
  rintro e w2 ⟨rfl, hLe, hb⟩
  obtain ⟨gy, hgy⟩ : ∃ gy, gy = w1.heap.size := ⟨_, rfl⟩
  rw [← hgy] at hLe ⊢
  have hLe : Lent w2 gy a := hLe
  clear hgy
  replace HO := Lib.hid (HO.out.below hb)
  replace HA := Lib.hid (HA.out.below hb)
  replace HBb := Lib.hid (HBb.out.below hb)
  replace HLx := Lib.hid (HLx.out.below hb)
  replace HB := Lib.hid (HB.out.trans (hb.mono HB.out.size))
  have HLy := Lib.hid hLe
  clear hb hLe
  go_wp2_with fail
  refine (lend_calls _ D f b (by omega) HBb.out n2).mono ?_
  rintro e w3 ⟨rfl, hLe, hb⟩
  obtain ⟨gz, hgz⟩ : ∃ gz, gz = w2.heap.size := ⟨_, rfl⟩
  rw [← hgz] at hLe ⊢
  have hLe : Lent w3 gz b := hLe
  clear hgz
  replace HO := Lib.hid (HO.out.below hb)
  replace HA := Lib.hid (HA.out.below hb)
  replace HBb := Lib.hid (HBb.out.below hb)
  replace HLx := Lib.hid (HLx.out.below hb)
  replace HLy := Lib.hid (HLy.out.below hb)
  replace HB := Lib.hid (HB.out.trans (hb.mono HB.out.size))
  have HLz := Lib.hid hLe
  clear hb hLe
  have HFr : Hid (From w3 w3) := Lib.hid (Below.refl _ _)
  have hw3 : w.heap.size ≤ w3.heap.size := HB.out.size
  have HB3 := HB
  go_wp2_with fail
  refine (parts_tx _ _ o _ _ a _ _ b _ (HLx.out.tx (by omega)) (HLy.out.tx (by omega)) (HLz.out.tx (by omega)) (by omega) (by omega) (by omega)).mono ?_
  rintro e w4 ⟨v4, xs, rfl, hP, hxs, hnd, hb⟩
  have HP := Lib.hid hP
  have HX := Lib.hid hxs
  have HN := Lib.hid hnd
  have HBl := Lib.hid (bls_at hP)
  have hxl : xs.length ≤ 100 := by
    have h1 := congrArg List.length hxs
    have h2 := ThreeString.parts_len o a b
    rw [List.length_map] at h1
    omega
  replace HB := Lib.hid (HB.out.trans (hb.mono HB.out.size))
  replace HFr := Lib.hid (HFr.out.below hb)
  clear hP hxs hnd hb
  go_wp2_with fail
  refine (doc_parts A B D c d f o a b w3 _ (tx_of_cells HO.out (by omega) hc) (tx_of_cells HA.out (by omega) hd) (tx_of_cells HBb.out (by omega) hf) HFr.out (by omega) (by omega) (by omega)).mono ?_
  rintro e w5 ⟨v5, qs, rfl, hQ, hqs, hrd, hb⟩
  have HQ := Lib.hid hQ
  have HX2 := Lib.hid (HX.out.trans hqs.symm)
  have HRd := Lib.hid hrd
  replace HP := Lib.hid (Kd.R_below HP.out hb)
  replace HB := Lib.hid (HB.out.trans (hb.mono HB.out.size))
  replace HFr := Lib.hid (HFr.out.below hb)
  have hlen : qs.length = xs.length := by have := congrArg List.length HX2.out; simpa using this.symm
  have h35 : w3.heap.size ≤ w5.heap.size := Below.size HFr.out
  have hs58 : w4.heap.size ≤ w5.heap.size := hb.size
  clear hQ hqs hrd hb
  go_wp2_with fail
  refine (merge_tx _ _ o _ _ a _ _ b _ (HLx.out.below HFr.out |>.tx (by omega)) (HLy.out.below HFr.out |>.tx (by omega)) (HLz.out.below HFr.out |>.tx (by omega)) (by omega) (by omega) (by omega)).mono ?_
  rintro e w6 ⟨A6, c6, rfl, hT6, hO6, hb⟩
  have hml : ((Three.merge o a b).getD []).length ≤ 1000000 := by
    cases hm : Three.merge o a b with
    | none => simp
    | some r => exact merge_len hm (by omega) (by omega)
  obtain ⟨mm, hmm⟩ : ∃ mm, mm = (Three.merge o a b).getD [] := ⟨_, rfl⟩
  obtain ⟨mk, hmk⟩ : ∃ mk, mk = (Three.merge o a b).isSome := ⟨_, rfl⟩
  rw [← hmm] at hml hT6 hO6 ⊢
  rw [← hmk]
  have HT6 := Lib.hid hT6
  have HO6 := Lib.hid hO6
  have HMM := Lib.hid hmm
  have HMK := Lib.hid hmk
  replace HP := Lib.hid (Kd.R_below HP.out hb)
  replace HQ := Lib.hid (Kd.R_below HQ.out hb)
  replace HB := Lib.hid (HB.out.trans (hb.mono HB.out.size))
  replace HFr := Lib.hid (HFr.out.below hb)
  clear hT6 hO6 hmm hmk hb
  go_wp2_with fail
  refine (doc_merge A B D c d f o a b _ (tx_of_cells (HO.out.below HFr.out) (by omega) hc) (tx_of_cells (HA.out.below HFr.out) (by omega) hd) (tx_of_cells (HBb.out.below HFr.out) (by omega) hf) (by omega) (by omega) (by omega)).mono ?_
  rintro e w7 ⟨A7, c7, rfl, hT7, -, hb⟩
  rw [← HMM.out] at hT7 ⊢
  rw [← HMK.out]
  have HT7 := Lib.hid hT7
  replace HT6 := Lib.hid (HT6.out.below hb)
  replace HO6 := Lib.hid (HO6.out.below hb)
  replace HP := Lib.hid (Kd.R_below HP.out hb)
  replace HQ := Lib.hid (Kd.R_below HQ.out hb)
  replace HB := Lib.hid (HB.out.trans (hb.mono HB.out.size))
  replace HFr := Lib.hid (HFr.out.below hb)
  clear hT7 hb HMM HMK
  obtain ⟨A4, c4, e4⟩ := Kd.R_slice HP.out
  subst e4
  obtain ⟨A5, c5, e5⟩ := Kd.R_slice HQ.out
  subst e5
  rw [hlen] at HQ ⊢
  go_wp2_with fail
  refine (same_tx A6 A7 c6 c7 mm mm _ HT6.out HT7.out hml true (by simp)).mono ?_
  rintro e w8 ⟨rfl, hb⟩
  replace HO6 := Lib.hid (HO6.out.below hb)
  replace HP := Lib.hid (Kd.R_below HP.out hb)
  replace HQ := Lib.hid (Kd.R_below HQ.out hb)
  replace HB := Lib.hid (HB.out.trans (hb.mono HB.out.size))
  replace HFr := Lib.hid (HFr.out.below hb)
  clear hb HT6 HT7
  go_wp2_with fail
  have HBL : Hid (∀ k ∈ bls xs, w3.heap.size ≤ k) := Lib.hid (fun k hk => (HBl.out k hk).1)
  go_loopg [16] xs.length (fun g v16 w' => ∃ i : Nat, v16 = .int .i64 (i : Int) ∧ Hid (i + g = xs.length) ∧ Hid (TurnM (fun k => k ∈ bls (xs.take i)) w8 w'))
  case atStart => exact ⟨0, rfl, Lib.hid (by simp), Lib.hid (TurnM.refl _ _)⟩
  case round =>
    obtain ⟨i, rfl, HI, HTn⟩ := hrel
    by_cases hlt : i < xs.length
    · have hlq : i < qs.length := by omega
      have hpq := map_at HX2.out i hlt hlq
      obtain ⟨ad, ead, x0, x1, x2, x3, -, -, -⟩ := ThreeString.at_P (Kd.R_reads' HP.out).2.2 i hlt rfl
      obtain ⟨ad', ead', y0, y1, y2, y3⟩ := at_D (Kd.R_reads' HQ.out).2.2 i hlq (by first | exact hlen.symm | rfl)
      obtain ⟨r1, r2, r3⟩ := piece_at HP.out i hlt
      obtain ⟨z1, z2, z3⟩ := HRd.out _ (List.getElem_mem hlq)
      have hbt := bls_take i hlt
      have hnd := bls_nodup HN.out (i + 1)
      rw [hbt] at hnd
      have hsub : ∀ k ∈ bls (xs.take i) ++ xs[i].bl, k ∈ bls xs := by rw [← hbt]; exact bls_sub (i + 1)
      have hmem : xs[i].p ∈ Three.parts o a b := by rw [← HX.out]; exact List.mem_map.2 ⟨_, List.getElem_mem hlt, rfl⟩
      obtain ⟨s1, s2, s3⟩ := ThreeString.parts_small o a b _ hmem
      have hgp : ∀ k ∈ bls xs, k ≠ ad.block := fun k hk e => (HBl.out k hk).2.2 (by rw [e, ead]; rfl)
      have hgq : ∀ k ∈ bls xs, k ≠ ad'.block := fun k hk e => by
        have h1 := (HBl.out k hk).2.1
        have h2 := own_ge HQ.out ad'.block (by rw [ead']; rfl)
        omega
      subst ead ead'
      generalize xs[i] = x at hpq x0 x1 x2 x3 r1 r2 r3 hbt hnd hsub hmem s1 s2 s3
      generalize qs[i] = y at hpq y0 y1 y2 y3 z1 z2 z3
      obtain ⟨⟨cf, O, P, Q⟩, v1, v2, v3⟩ := x
      obtain ⟨py, u1, u2, u3⟩ := y
      simp only at hpq
      subst hpq
      simp only at x0 x1 x2 x3 y0 y1 y2 y3 r1 r2 r3 z1 z2 z3 s1 s2 s3
      unfold ThreeString.PV.bl at hbt hnd hsub
      simp only at hbt hnd hsub
      obtain ⟨C1, d1, rfl, zc1⟩ := rd_tx z1
      obtain ⟨C2, d2, rfl, zc2⟩ := rd_tx z2
      obtain ⟨C3, d3, rfl, zc3⟩ := rd_tx z3
      obtain ⟨L, hL⟩ : ∃ L, L = bls (xs.take i) := ⟨_, rfl⟩
      rw [← hL] at hbt hnd hsub HTn
      obtain ⟨A1, e1, rfl⟩ := Kd.R_slice r1
      obtain ⟨A2, e2, rfl⟩ := Kd.R_slice r2
      obtain ⟨A3', e3, rfl⟩ := Kd.R_slice r3
      have hba : ∀ n, (ad.add n).block = ad.block := fun n => by unfold Addr.add; split <;> rfl
      have hbb : ∀ n, (ad'.add n).block = ad'.block := fun n => by unfold Addr.add; split <;> rfl
      have HCE : Hid (∀ (L' : List Nat) (w' : World), (∀ k ∈ L', k ∈ bls xs) → TurnM (fun k => k ∈ L') w8 w' → w'.cell? (ad.add (i * 4)) = some (.bool cf) ∧ w'.cell? ⟨(ad.add (i * 4)).block, (ad.add (i * 4)).off + 1, none⟩ = some (.slice A1 O.length e1) ∧ w'.cell? ⟨(ad.add (i * 4)).block, (ad.add (i * 4)).off + 2, none⟩ = some (.slice A2 P.length e2) ∧ w'.cell? ⟨(ad.add (i * 4)).block, (ad.add (i * 4)).off + 3, none⟩ = some (.slice A3' Q.length e3) ∧ w'.cell? (ad'.add (i * 4)) = some (.bool cf) ∧ w'.cell? ⟨(ad'.add (i * 4)).block, (ad'.add (i * 4)).off + 1, none⟩ = some (.slice C1 O.length d1) ∧ w'.cell? ⟨(ad'.add (i * 4)).block, (ad'.add (i * 4)).off + 2, none⟩ = some (.slice C2 P.length d2) ∧ w'.cell? ⟨(ad'.add (i * 4)).block, (ad'.add (i * 4)).off + 3, none⟩ = some (.slice C3 Q.length d3)) := Lib.hid (fun L' w' hs ht =>
        have na : ∀ n, (ad.add n).block ∉ L' := fun n h => hgp _ (hs _ h) (hba n)
        have nb : ∀ n, (ad'.add n).block ∉ L' := fun n h => hgq _ (hs _ h) (hbb n)
        ⟨turn_cell ht x0 (na _), turn_cell ht x1 (na _), turn_cell ht x2 (na _), turn_cell ht x3 (na _), turn_cell ht y0 (nb _), turn_cell ht y1 (nb _), turn_cell ht y2 (nb _), turn_cell ht y3 (nb _)⟩)
      obtain ⟨hsL, hs1, hs2, hs3, k1, k2, k3⟩ := three_apart hsub hnd
      have HFw : Hid (From w3 wr) := Lib.hid (HFr.out.turn HTn.out (fun k hk => HBL.out k (hsL k hk)))
      have rr1 := R_turn r1 HTn.out (fun k e h => k1 k e h)
      have rr2 := R_turn r2 HTn.out (fun k e h => k2 k e (List.mem_append_left _ h))
      have rr3 := R_turn r3 HTn.out (fun k e h => k3 k e (List.mem_append_left _ (List.mem_append_left _ h)))
      have TP1 : Hid (TX wr A1 e1 O) := Lib.hid ⟨(Kd.R_reads' rr1).2.2, (Kd.R_reads' rr1).2.1⟩
      have TP2 : Hid (TX wr A2 e2 P) := Lib.hid ⟨(Kd.R_reads' rr2).2.2, (Kd.R_reads' rr2).2.1⟩
      have TP3 : Hid (TX wr A3' e3 Q) := Lib.hid ⟨(Kd.R_reads' rr3).2.2, (Kd.R_reads' rr3).2.1⟩
      have TQ1 : Hid (TX wr C1 d1 O) := Lib.hid (zc1.below HFw.out)
      have TQ2 : Hid (TX wr C2 d2 P) := Lib.hid (zc2.below HFw.out)
      have TQ3 : Hid (TX wr C3 d3 Q) := Lib.hid (zc3.below HFw.out)
      have R1 := Lib.hid r1
      have R2 := Lib.hid r2
      have R3 := Lib.hid r3
      have K1 := Lib.hid k1
      have K2 := Lib.hid k2
      have K3 := Lib.hid k3
      have HSL := Lib.hid hsL
      have HS1 := Lib.hid hs1
      have HS2 := Lib.hid hs2
      have HS3 := Lib.hid hs3
      have HBT := Lib.hid hbt
      have T1 := Lib.hid s1
      have T2 := Lib.hid s2
      have T3 := Lib.hid s3
      have HC := Lib.hid (ThreeString.drewn wr)
      obtain ⟨q0, q1, q2, q3, q4, q5, q6, q7⟩ := HCE.out L wr hsL HTn.out
      clear r1 r2 r3 rr1 rr2 rr3 k1 k2 k3 hsL hs1 hs2 hs3 hbt s1 s2 s3 x0 x1 x2 x3 y0 y1 y2 y3 z1 z2 z3 zc1 zc2 zc3 hgp hgq hba hbb hmem hnd hsub
      go_wp2_with fail
      go_region_held3 (fun w' => w'.cell? (ad.add (i * 4)) = some (.bool cf) ∧ w'.cell? ⟨(ad.add (i * 4)).block, (ad.add (i * 4)).off + 1, none⟩ = some (.slice A1 O.length e1) ∧ w'.cell? ⟨(ad.add (i * 4)).block, (ad.add (i * 4)).off + 2, none⟩ = some (.slice A2 P.length e2) ∧ w'.cell? ⟨(ad.add (i * 4)).block, (ad.add (i * 4)).off + 3, none⟩ = some (.slice A3' Q.length e3) ∧ w'.cell? (ad'.add (i * 4)) = some (.bool cf) ∧ w'.cell? ⟨(ad'.add (i * 4)).block, (ad'.add (i * 4)).off + 1, none⟩ = some (.slice C1 O.length d1) ∧ w'.cell? ⟨(ad'.add (i * 4)).block, (ad'.add (i * 4)).off + 2, none⟩ = some (.slice C2 P.length d2) ∧ w'.cell? ⟨(ad'.add (i * 4)).block, (ad'.add (i * 4)).off + 3, none⟩ = some (.slice C3 Q.length d3))
        (first | exact HCE.out L _ HSL.out (turn_below HTn.out HC.out))
        (first
          | (with_reducible refine Calls.mono (same_tx A1 C1 e1 d1 O O _ (TP1.out.below HC.out) (TQ1.out.below HC.out) (by have := T1.out; omega) true (by simp)) ?_; rintro e q9 ⟨rfl, hb⟩; replace HC := Lib.hid (HC.out.trans (hb.mono HC.out.size)); clear hb)
          | (with_reducible refine Calls.mono (same_tx A2 C2 e2 d2 P P _ (TP2.out.below HC.out) (TQ2.out.below HC.out) (by have := T2.out; omega) true (by simp)) ?_; rintro e q9 ⟨rfl, hb⟩; replace HC := Lib.hid (HC.out.trans (hb.mono HC.out.size)); clear hb)
          | (with_reducible refine Calls.mono (same_tx A3' C3 e3 d3 Q Q _ (TP3.out.below HC.out) (TQ3.out.below HC.out) (by have := T3.out; omega) true (by simp)) ?_; rintro e q9 ⟨rfl, hb⟩; replace HC := Lib.hid (HC.out.trans (hb.mono HC.out.size)); clear hb))
      have HD0 : Hid (TurnM (fun k => k ∈ L) w8 _) := Lib.hid (turn_below HTn.out HC.out)
      obtain ⟨q0', q1', q2', q3', -⟩ := HCE.out L _ HSL.out HD0.out
      clear q0 q1 q2 q3 q4 q5 q6 q7 TP1 TP2 TP3 TQ1 TQ2 TQ3
      go_wp2_with fail
      refine (over_R _ w3.heap.size (.slice A1 O.length e1) O (R_turn R1.out HD0.out (fun k e h => K1.out k e h)) (by have := T1.out; omega)).mono ?_
      rintro e p1 ⟨⟨u1, rfl⟩, ht⟩
      have HD1 : Hid (TurnM (fun k => k ∈ L ++ (Value.slice A1 O.length e1).ownBlock.toList) w8 p1) := Lib.hid (turn_more HD0.out ht)
      clear ht
      obtain ⟨q0', q1', q2', q3', -⟩ := HCE.out (L ++ (Value.slice A1 O.length e1).ownBlock.toList) p1 HS1.out HD1.out
      go_wp2_with fail
      refine (over_R _ w3.heap.size (.slice A2 P.length e2) P (R_turn R2.out HD1.out (fun k e h => K2.out k e h)) (by have := T2.out; omega)).mono ?_
      rintro e p2 ⟨⟨u2, rfl⟩, ht⟩
      have HD2 : Hid (TurnM (fun k => k ∈ L ++ (Value.slice A1 O.length e1).ownBlock.toList ++ (Value.slice A2 P.length e2).ownBlock.toList) w8 p2) := Lib.hid (turn_more HD1.out ht)
      clear ht
      obtain ⟨q0', q1', q2', q3', -⟩ := HCE.out (L ++ (Value.slice A1 O.length e1).ownBlock.toList ++ (Value.slice A2 P.length e2).ownBlock.toList) p2 HS2.out HD2.out
      go_wp2_with fail
      refine (over_R _ w3.heap.size (.slice A3' Q.length e3) Q (R_turn R3.out HD2.out (fun k e h => K3.out k e h)) (by have := T3.out; omega)).mono ?_
      rintro e p3 ⟨⟨u3, rfl⟩, ht⟩
      have HD3 : Hid (TurnM (fun k => k ∈ L ++ (Value.slice A1 O.length e1).ownBlock.toList ++ (Value.slice A2 P.length e2).ownBlock.toList ++ (Value.slice A3' Q.length e3).ownBlock.toList) w8 p3) := Lib.hid (turn_more HD2.out ht)
      clear ht
      go_wp2_with fail
      go_roundg (xs.length - (i + 1))
      case measure => have := HI.out; omega
      case rel => exact ⟨i + 1, by go_num, Lib.hid (by omega), Lib.hid (by rw [HBT.out, ← List.append_assoc, ← List.append_assoc]; exact HD3.out)⟩
    · have hi : i = xs.length := by have := HI.out; omega
      subst hi
      rw [List.take_length] at HTn
      replace HFr := Lib.hid (HFr.out.turn HTn.out HBL.out)
      go_wp2_with fail
      obtain ⟨ys, ho6⟩ := HO6.out
      have ho7 := own_move ho6 (fun k e => HTn.out.block k (ho6.lt k e).2 (fun hm => by have h1 := (HBl.out k hm).2.1; have h2 := (ho6.lt k e).1; omega))
      refine (over_O _ _ _ _ ys ho7 hml).mono ?_
      rintro e p9 ⟨⟨u9, rfl⟩, ht⟩
      have hf9 : From w3 p9 := Below.trans HFr.out (ht.below (Below.size HFr.out) (fun k _ e => by have h2 := (ho6.lt k e).1; omega))
      replace HFr := Lib.hid hf9
      clear ht hf9 ho7 ho6 HO6 HTn HP HQ HRd HX HX2 HN HBl HBL
      go_wp2_with fail
      refine (kept_calls _ gx A c o (by omega) (HLx.out.below HFr.out) (HO.out.below HFr.out) hc).mono ?_
      rintro e p10 ⟨rfl, hb⟩
      replace HFr := Lib.hid (HFr.out.below hb)
      clear hb
      go_wp2_with fail
      refine (kept_calls _ gy B d a (by omega) (HLy.out.below HFr.out) (HA.out.below HFr.out) hd).mono ?_
      rintro e p11 ⟨rfl, hb⟩
      replace HFr := Lib.hid (HFr.out.below hb)
      clear hb
      go_wp2_with fail
      refine (kept_calls _ gz D f b (by omega) (HLz.out.below HFr.out) (HBb.out.below HFr.out) hf).mono ?_
      rintro e p12 ⟨rfl, hb⟩
      replace HFr := Lib.hid (HFr.out.below hb)
      clear hb
      go_wp2_with fail
      refine (awake5 _).mono ?_
      rintro e p13 ⟨rfl, hb⟩
      replace HFr := Lib.hid (HFr.out.below hb)
      clear hb
      go_wp2
      go_ret
      exact ⟨rfl, HB3.out.trans (Below.mono HFr.out hw3)⟩
theorem tells_law (A : Option Addr) (c : Nat) (o : List ByteArray) (B : Option Addr) (d : Nat) (a : List ByteArray) (D : Option Addr) (f : Nat) (b : List ByteArray) (w : World)
    (ho : CellsT w A o) (n0 : A = none → o.length = 0 ∧ c = 0) (hc : o.length ≤ c) (h0 : o.length * 16 ≤ 140737488351232) (ha : CellsT w B a) (n1 : B = none → a.length = 0 ∧ d = 0) (hd : a.length ≤ d) (h1 : a.length * 16 ≤ 140737488351232) (hb : CellsT w D b) (n2 : D = none → b.length = 0 ∧ f = 0) (hf : b.length ≤ f) (h2 : b.length * 16 ≤ 140737488351232) :
    Calls Try.prog 3 #[.slice A o.length c, .slice B a.length d, .slice D b.length f] w fun e w' => e = .returned (.bool true) ∧ Below w.heap.size w w' := by
  obtain ⟨r, hr, hG⟩ := great_tx A B D c d f o a b w (tx_of_cells ho h0 hc) (tx_of_cells ha h1 hd) (tx_of_cells hb h2 hf)
  cases r with
  | true => exact tells_long A B D c d f _ _ _ w hG
  | false => exact tells_short A B D c d f o a b w ho ha hb n0 n1 n2 hc hd hf hG (hr rfl).1 (hr rfl).2.1 (hr rfl).2.2
end Go.Proofs.Ytgcjejepahdjgaa.SeqS
