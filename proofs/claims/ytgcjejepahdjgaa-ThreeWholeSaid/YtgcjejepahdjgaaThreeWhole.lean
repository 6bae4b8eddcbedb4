/- The walk of the law ThreeWhole answers true, whatever the lists. -/
import Derived.Test.YtgcjejepahdjgaaThreeSay
namespace Go.Proofs.Ytgcjejepahdjgaa.SeqS
open Go.RowKit Go.Shelf Go.Proofs.Ytgcjejepahdjgaa.SeqM Go.Proofs.Ytgcjejepahdjgaa.PRef Go.Proofs.YtgcjejepahdjgaaW.PrintWords Go.Proofs.YtgcjejepahdjgaaW.PrintLast
attribute [local go_sem] Oper.semAt_some
set_option linter.unusedVariables false
set_option linter.unusedSimpArgs false
section
variable {P : Program} {ops : Array Oper} {o : Oper} {a : Act} {Q : Exit → Act → World → Prop} {Kc : Act → World → Prop} {α : Type}
/-- Appending a read row, as one operation of a drawn region. -/
theorem append_rows_step (d : Kd α) {Rr : α → List Value → Prop} {w0 W : World} (base : Nat) (hgd : o.guard = none) (s x : Operand) (t e : TypeId) (z : Value) (bytes : Nat)
    (ho : o.op = .call { callee := .builtin .append, args := #[s, x], argTypes := #[t, t] })
    (ht : P.underlying t = some (.slice e)) (hinfo : (P.info? e).map (fun i => (i.zero, i.size, i.bytes)) = some (some z, d.sz, bytes)) (hz : z.cells.size = d.sz) (hs0 : 0 < d.sz) (hb0 : 0 < bytes)
    (v : Value) (xs ys : List α) (A : Option Addr) (m c : Nat) (ok okp : Nat → Prop) (hs : a.eval s = v) (hx : a.eval x = .slice A m c)
    (HO : d.R e W base ok v xs) (HR : ReadsRow Rr d.sz W A m ys) (hKM : ∀ x cs, Rr x cs → d.M W base okp x cs) (hokp : ∀ k, okp k → ok k ∧ some k ≠ v.ownBlock) (hfresh : ∀ k, W.heap.size ≤ k → ok k)
    (HB : Below base w0 W) (hbase : base ≤ W.heap.size) (hl : (xs.length + m) * bytes ≤ 140737488355328)
    (h : ∀ v1 w1, d.R e w1 base ok v1 (xs ++ ys) → Below base w0 w1 → W.grownBy w1 v.ownBlock → (v1.ownBlock = v.ownBlock ∨ ∃ b, v1.ownBlock = some b ∧ W.heap.size ≤ b) → Kc (a.put o.dst v1) w1) :
    if Region.wanted o (yielded ops a.tmps) = true then Oper.wp P o a W Kc Q else Kc (a.put o.dst undef) W := by
  have hw : Region.wanted o (yielded ops a.tmps) = true := by simp [Region.wanted, hgd]
  rw [if_pos hw]
  have key := Kd.R_append_rows (P := P) (ops := ops) (rest := []) (Q := fun e a w => match e with | .normal => Kc a w | _ => False) d base hgd s x t e z bytes ho ht hinfo hz hs0 hb0 v xs ys A m c ok okp hs hx HO HR hKM hokp hfresh HB hbase hl h
  unfold wpList at key
  rw [if_pos hw] at key
  rcases key with key | ⟨_, a', w', hf⟩
  · unfold Oper.wp at *
    generalize (execOp a.eval o).run P W = r at *
    cases r with
    | ok n w' =>
      cases n <;> simp only [Oper.upon] at key ⊢ <;>
        first
          | exact key
          | exact Calls.mono key (fun e w'' he => by cases e <;> first | exact he | exact (by obtain ⟨_, _, hf⟩ := he; exact hf.elim) | exact he.elim)
          | exact Rows.mono key (fun _ _ he => he)
    | halt x w' => cases x <;> simp only [Oper.upon] at key ⊢ <;> first | exact key.elim | exact key
  · exact hf.elim
end
/-- Unlike blocks. -/
def D2 (v v' : Value) : Prop := ∀ k, v.ownBlock = some k → v'.ownBlock ≠ some k
theorem D2.symm {v v' : Value} (h : D2 v v') : D2 v' v := fun k e e' => h k e' e
theorem R_other {W w1 : World} {B : Nat} {v u : Value} {xs : List ByteArray} (h : Kd.R Kd.string 9 W B (fun _ => True) v xs) (hg : W.grownBy w1 u.ownBlock) (hd : D2 v u) : Kd.R Kd.string 9 w1 B (fun _ => True) v xs := by
  obtain ⟨h0, inner, ho, hi⟩ := h
  have h' : Kd.R Kd.string 9 W B (fun k => v.ownBlock = some k) v xs := ⟨fun k e => e, inner, ho, hi.imp_ (fun _ _ h => h)⟩
  exact Kd.R_mono (Kd.R_grown h' hg (fun k e e' => hd k e e'.symm)) (fun _ _ => trivial)
theorem D2_of_at {W : World} {B : Nat} {v v1 u : Value} {xs : List ByteArray} (h : Kd.R Kd.string 9 W B (fun _ => True) u xs) (hd : D2 v u) (hat : v1.ownBlock = v.ownBlock ∨ ∃ b, v1.ownBlock = some b ∧ W.heap.size ≤ b) : D2 v1 u := by
  intro k e e'
  rcases hat with hat | ⟨b, hb, hle⟩
  · exact hd k (hat ▸ e) e'
  · have := Kd.R_lt h k e'
    rw [hb] at e
    cases e
    omega
/-- Three rows of the law's own. -/
structure WM (w0 : World) (vx vy vz : Value) (X Y Z : List ByteArray) (w : World) : Prop where
  rx : Kd.R Kd.string 9 w w0.heap.size (fun _ => True) vx X
  ry : Kd.R Kd.string 9 w w0.heap.size (fun _ => True) vy Y
  rz : Kd.R Kd.string 9 w w0.heap.size (fun _ => True) vz Z
  xy : D2 vx vy
  xz : D2 vx vz
  yz : D2 vy vz
  below : Below w0.heap.size w0 w
theorem WM.made {w0 w w' : World} {vx vy vz : Value} {X Y Z : List ByteArray} (h : WM w0 vx vy vz X Y Z w) (hb : Below w.heap.size w w') : WM w0 vx vy vz X Y Z w' :=
  ⟨Kd.R_below h.rx hb, Kd.R_below h.ry hb, Kd.R_below h.rz hb, h.xy, h.xz, h.yz, h.below.trans (hb.mono h.below.size)⟩
theorem mid_tx (A : Option Addr) (c : Nat) (mm ch : List ByteArray) (n : Nat) (hch : ch = (mm.take (n + ch.length)).drop n) (hn : n + ch.length ≤ mm.length) (hc : mm.length ≤ c) : ∃ (A' : Option Addr) (c' : Nat),
    (∀ W : World, (Instr.slice 22 (.slice A mm.length c) (some (.int .i64 (n : Int))) (some (.int .i64 ((n : Int) + (ch.length : Int)))) none).run Try.prog W = .ok (.slice A' ch.length c') W) ∧ ∀ w, TX w A c mm → TX w A' c' ch := by
  obtain ⟨i0, hi, hz0, hz1, hz2⟩ := info_parts ThreeString.infoE
  obtain ⟨A', h1, h2, h3⟩ := print_mid_of (P := Try.prog) Value.string (⟨#[]⟩ : ByteArray) 22 9 .i64 .i64 Try.underlying22 hi hz1 A c mm (n : Int) ((n : Int) + (ch.length : Int)) (by omega) (by omega) (by omega) hc
  have e1 : ((n : Int) + (ch.length : Int)).toNat = n + ch.length := by omega
  rw [e1, Int.toNat_natCast, ← hch] at h1 h2 h3
  exact ⟨A', c - n, h1, fun w hT => ⟨Kd.C_of_reads (d := (⟨#[]⟩ : ByteArray)) (h1 := fun _ => rfl) (h2 w (Kd.reads_of_C hT.1)), h3⟩⟩
theorem piece_chosen (O P Q : List ByteArray) (h : Three.clash O P Q = false) : (if decide (O = P) = true then Q else P) = Three.chosen O P Q := by
  unfold Three.clash at h
  unfold Three.chosen
  by_cases h1 : O = P
  · subst h1
    by_cases h2 : O = Q
    · subst h2; simp
    · have h3 : ¬ Q = O := fun e => h2 e.symm
      simp [h2, h3]
  · have h1' : ¬ P = O := fun e => h1 e.symm
    by_cases h2 : P = Q <;> by_cases h3 : Q = O <;> simp_all
set_option maxHeartbeats 8000000 in
set_option maxRecDepth 100000 in
theorem whole_long (A B D : Option Addr) (c d f na nb nc : Nat) (w : World) (h : Great3 A B D c d f na nb nc true w) :
    Calls Try.prog 4 #[.slice A na c, .slice B nb d, .slice D nc f] w (LawPost w) := by
  have H := Lib.hid h
  clear h
  go_enter Try.func4, Try.ntmps4
  go_wp2_with fail
  refine (H.out _ (Below.refl _ _)).mono ?_
  rintro e w1 ⟨rfl, hb⟩
  have HB := Lib.hid hb
  clear hb
  go_wp2_with fail
  refine (awake5 _).mono ?_
  rintro e w2 ⟨rfl, hb⟩
  replace HB := Lib.hid (HB.out.trans (hb.mono HB.out.size))
  clear hb
  go_wp2
  go_ret
  exact ⟨rfl, HB.out⟩
set_option maxHeartbeats 16000000 in
set_option maxRecDepth 100000 in
theorem whole_none (A B D : Option Addr) (c d f : Nat) (o a b : List ByteArray) (w : World) (ho : TX w A c o) (ha : TX w B d a) (hb : TX w D f b) (h : Great3 A B D c d f o.length a.length b.length false w) (l0 : o.length ≤ 30) (l1 : a.length ≤ 30) (l2 : b.length ≤ 30) (hm : Three.merge o a b = none) :
    Calls Try.prog 4 #[.slice A o.length c, .slice B a.length d, .slice D b.length f] w (LawPost w) := by
  have H := Lib.hid h
  have HO := Lib.hid ho
  have HA := Lib.hid ha
  have HBb := Lib.hid hb
  have HM := Lib.hid hm
  have HWh := Lib.hid (Three.parts_whole o a b)
  clear h ho ha hb hm
  go_enter Try.func4, Try.ntmps4
  go_wp2_with fail
  refine (H.out _ (Below.refl _ _)).mono ?_
  rintro e w1 ⟨rfl, hb⟩
  have HB := Lib.hid hb
  replace HO := Lib.hid (HO.out.below hb)
  replace HA := Lib.hid (HA.out.below hb)
  replace HBb := Lib.hid (HBb.out.below hb)
  clear hb H
  go_wp2_with fail
  refine (parts_tx A c o B d a D f b _ HO.out HA.out HBb.out (by omega) (by omega) (by omega)).mono ?_
  rintro e w2 ⟨v, xs, rfl, hR, hx, -, hb⟩
  obtain ⟨A3, c3, e3⟩ := Kd.R_slice hR
  subst e3
  have hxl : xs.length ≤ 63 := by have h1 := congrArg List.length hx; have h2 := ThreeString.parts_len o a b; rw [List.length_map] at h1; omega
  have HXs := Lib.hid hx
  have hC := (Kd.R_reads' hR).2.2
  clear hR hx
  replace HO := Lib.hid (HO.out.below hb)
  replace HA := Lib.hid (HA.out.below hb)
  replace HBb := Lib.hid (HBb.out.below hb)
  replace HB := Lib.hid (HB.out.trans (hb.mono HB.out.size))
  have HP := Lib.hid hC
  clear hb hC
  go_wp2_with fail
  refine (merge_tx A c o B d a D f b _ HO.out HA.out HBb.out (by omega) (by omega) (by omega)).mono ?_
  rintro e w3 ⟨A1, c1, rfl, hT, -, hb⟩
  rw [HM.out] at hT ⊢
  simp only [Option.isSome_none, Option.getD_none] at hT ⊢
  replace HO := Lib.hid (HO.out.below hb)
  replace HA := Lib.hid (HA.out.below hb)
  replace HBb := Lib.hid (HBb.out.below hb)
  replace HP := Lib.hid (Kd.C_below HP.out hb)
  replace HB := Lib.hid (HB.out.trans (hb.mono HB.out.size))
  have HT1 := Lib.hid hT
  clear hb hT
  have hst0 : Three.merged ((xs.drop 0).map ThreeString.PV.p) = none := by rw [List.drop_zero, HXs.out]; exact HM.out
  have HS0 := Lib.hid hst0
  clear hst0 HM
  go_wp2_with fail
  go_loopg [10, 11, 12, 13, 14, 15] xs.length (fun g vx vy vz v13 v14 v15 w' => ∃ (i n : Nat) (bb : Bool) (X Y Z : List ByteArray), v15 = .int .i64 (i : Int) ∧ v13 = .bool bb ∧ v14 = .int .i64 (n : Int) ∧ Hid (i + g = xs.length) ∧ n ≤ i * 30 ∧ X.length ≤ i * 30 ∧ Y.length ≤ i * 30 ∧ Z.length ≤ i * 30 ∧ Hid (WM w3 vx vy vz X Y Z w') ∧ Hid (X ++ ((xs.drop i).map (·.p.o)).flatten = o) ∧ Hid (Y ++ ((xs.drop i).map (·.p.a)).flatten = a) ∧ Hid (Z ++ ((xs.drop i).map (·.p.b)).flatten = b) ∧ Hid (Three.merged ((xs.drop i).map ThreeString.PV.p) = none ∨ bb = true))
  case atStart =>
    have e1 := HWh.out
    rw [← HXs.out] at e1
    simp only [List.map_map] at e1
    exact ⟨0, 0, false, [], [], [], rfl, rfl, rfl, Lib.hid (by simp), by omega, by simp, by simp, by simp, Lib.hid ⟨Kd.R_nil _ _ _ _ _, Kd.R_nil _ _ _ _ _, Kd.R_nil _ _ _ _ _, fun k e => by simp [Value.ownBlock] at e, fun k e => by simp [Value.ownBlock] at e, fun k e => by simp [Value.ownBlock] at e, Below.refl _ _⟩,
      Lib.hid e1.1, Lib.hid e1.2.1, Lib.hid e1.2.2.1, Lib.hid (.inl HS0.out)⟩
  case round =>
    obtain ⟨i, n, bb, X, Y, Z, rfl, rfl, rfl, HI, hn, hX, hY, hZ, HW, HX, HY, HZ, HSt⟩ := hrel
    by_cases hlt : i < xs.length
    · obtain ⟨ad, ead, x0, x1, x2, x3, rd1, rd2, rd3⟩ := ThreeString.at_P HP.out i hlt rfl
      subst ead
      have hmem : xs[i].p ∈ Three.parts o a b := by rw [← HXs.out]; exact List.mem_map.2 ⟨_, List.getElem_mem hlt, rfl⟩
      obtain ⟨s1, s2, s3⟩ := ThreeString.parts_small o a b _ hmem
      have hwh := HWh.out.2.2.2 _ hmem
      have hdr : xs.drop i = xs[i] :: xs.drop (i + 1) := List.drop_eq_getElem_cons hlt
      rw [hdr, List.map_cons, List.flatten_cons] at HX HY HZ
      rw [hdr, List.map_cons, Three.merged] at HSt
      generalize xs[i] = x at x0 x1 x2 x3 rd1 rd2 rd3 s1 s2 s3 hwh HX HY HZ HSt
      obtain ⟨⟨cf, O, P, Q⟩, v1, v2, v3⟩ := x
      simp only at x0 x1 x2 x3 rd1 rd2 rd3 s1 s2 s3 hwh HX HY HZ HSt
      obtain ⟨D1, d1, rfl, y1, r1⟩ := rd1
      obtain ⟨D2', d2, rfl, y2, r2⟩ := rd2
      obtain ⟨D3, d3, rfl, y3, r3⟩ := rd3
      have RD1 : Hid (TX w3 D1 d1 O) := Lib.hid ⟨r1, y1⟩
      have RD2 : Hid (TX w3 D2' d2 P) := Lib.hid ⟨r2, y2⟩
      have RD3 : Hid (TX w3 D3 d3 Q) := Lib.hid ⟨r3, y3⟩
      obtain ⟨tc, htc⟩ : ∃ r, r = decide (O = P) := ⟨_, rfl⟩
      obtain ⟨td, htd⟩ : ∃ r, r = decide (O = Q) := ⟨_, rfl⟩
      obtain ⟨te, hte⟩ : ∃ r, r = decide (P = Q) := ⟨_, rfl⟩
      have hcf : cf = (!te && !tc && !td) := by
        have h1 : decide (P = O) = decide (O = P) := decide_eq_decide.2 ⟨fun h => h.symm, fun h => h.symm⟩
        have h2 : decide (Q = O) = decide (O = Q) := decide_eq_decide.2 ⟨fun h => h.symm, fun h => h.symm⟩
        have : cf = Three.clash O P Q := hwh
        rw [this, htc, htd, hte]
        unfold Three.clash
        rw [h1, h2]
      have HTC := Lib.hid htc
      have HTD := Lib.hid htd
      have HTE := Lib.hid hte
      have HCF := Lib.hid hcf
      have HCl : Hid (cf = Three.clash O P Q) := Lib.hid hwh
      have b1 := HW.out.below
      have hs0 := b1.size
      have hi0 : (0 : Int) ≤ (i : Int) := by omega
      have hi1 : (i : Int) < (xs.length : Int) := by omega
      have hS3 : ∀ w' : World, Below w3.heap.size w3 w' → w'.cell? (ad.add (i * 4)) = some (.bool cf) ∧ w'.cell? ⟨(ad.add (i * 4)).block, (ad.add (i * 4)).off + 1, none⟩ = some (.slice D1 O.length d1) ∧ w'.cell? ⟨(ad.add (i * 4)).block, (ad.add (i * 4)).off + 2, none⟩ = some (.slice D2' P.length d2) ∧ w'.cell? ⟨(ad.add (i * 4)).block, (ad.add (i * 4)).off + 3, none⟩ = some (.slice D3 Q.length d3) := fun w' hw => ⟨(hw.cell (World.block_lt_of_cell? w3 _ x0)).trans x0, (hw.cell (World.block_lt_of_cell? w3 _ x1)).trans x1, (hw.cell (World.block_lt_of_cell? w3 _ x2)).trans x2, (hw.cell (World.block_lt_of_cell? w3 _ x3)).trans x3⟩
      have K3 := Lib.hid hS3
      have HBr : Hid (Below w3.heap.size w3 wr.drew) := Lib.hid (b1.trans ((ThreeString.drewn wr).mono hs0))
      have hsD : w3.heap.size ≤ wr.drew.heap.size := hs0
      replace HW : Hid (WM w3 u10 u11 u12 X Y Z wr.drew) := Lib.hid (HW.out.made (ThreeString.drewn wr))
      clear htc htd hte hcf hwh hmem hdr y1 y2 y3 r1 r2 r3 b1 x0 x1 x2 x3 hS3
      go_wp2_with fail
      refine wp_region_noPanic ?_
      refine start_ (n := 24) (S := fun w' => w'.cell? (ad.add (i * 4)) = some (.bool cf) ∧ w'.cell? ⟨(ad.add (i * 4)).block, (ad.add (i * 4)).off + 1, none⟩ = some (.slice D1 O.length d1) ∧ w'.cell? ⟨(ad.add (i * 4)).block, (ad.add (i * 4)).off + 2, none⟩ = some (.slice D2' P.length d2) ∧ w'.cell? ⟨(ad.add (i * 4)).block, (ad.add (i * 4)).off + 3, none⟩ = some (.slice D3 Q.length d3)) (ds := []) #[false, false, false, false, false, false, false, false, false, false, false, false, false, false, false, false, false, false, false, false, false, false, false, false] (by rfl) (by rfl) (by rfl) (K3.out _ HBr.out) (fun hHeld => ?_)
      refine take_ (i := 0) (N := some 42) (v := ?_) (a' := ?_) #[true, false, false, false, false, false, false, false, false, false, false, false, false, false, false, false, false, false, false, false, false, false, false, false] rfl rfl (by kernel_rfl) (fun _ _ _ h => h) (Or.inl ⟨by rfl, ?_⟩) hHeld ?_ ?_
      rotate_left
      · rintro w' ⟨s0, s1, s2, s3⟩
        go_simp
        with_reducible rfl
      rotate_left
      · simp only [Act.put, List.setIfInBounds_toArray, List.set_cons_zero, List.set_cons_succ]
        rfl
      refine take_ (i := 1) (N := some 43) (v := ?_) (a' := ?_) #[true, true, false, false, false, false, false, false, false, false, false, false, false, false, false, false, false, false, false, false, false, false, false, false] rfl rfl (by kernel_rfl) (fun _ _ _ h => h) (Or.inl ⟨by rfl, ?_⟩) hHeld ?_ ?_
      rotate_left
      · rintro w' ⟨s0, s1, s2, s3⟩
        go_simp
        with_reducible rfl
      rotate_left
      · simp only [Act.put, List.setIfInBounds_toArray, List.set_cons_zero, List.set_cons_succ]
        rfl
      refine take_ (i := 2) (N := some 44) (v := ?_) (a' := ?_) #[true, true, true, false, false, false, false, false, false, false, false, false, false, false, false, false, false, false, false, false, false, false, false, false] rfl rfl (by kernel_rfl) (fun _ _ _ h => h) (Or.inl ⟨by rfl, ?_⟩) hHeld ?_ ?_
      rotate_left
      · rintro w' ⟨s0, s1, s2, s3⟩
        go_simp
        with_reducible rfl
      rotate_left
      · simp only [Act.put, List.setIfInBounds_toArray, List.set_cons_zero, List.set_cons_succ]
        rfl
      refine take_ (i := 3) (N := some 45) (v := ?_) (a' := ?_) #[true, true, true, true, false, false, false, false, false, false, false, false, false, false, false, false, false, false, false, false, false, false, false, false] rfl rfl (by kernel_rfl) (fun _ _ _ h => h) (Or.inl ⟨by rfl, ?_⟩) hHeld ?_ ?_
      rotate_left
      · rintro w' ⟨s0, s1, s2, s3⟩
        go_simp
        with_reducible rfl
      rotate_left
      · simp only [Act.put, List.setIfInBounds_toArray, List.set_cons_zero, List.set_cons_succ]
        rfl
      refine take_ (i := 4) (N := some 46) (v := ?_) (a' := ?_) #[true, true, true, true, true, false, false, false, false, false, false, false, false, false, false, false, false, false, false, false, false, false, false, false] rfl rfl (by kernel_rfl) (fun _ _ _ h => h) (Or.inl ⟨by rfl, ?_⟩) hHeld ?_ ?_
      rotate_left
      · rintro w' ⟨s0, s1, s2, s3⟩
        go_simp
        with_reducible rfl
      rotate_left
      · simp only [Act.put, List.setIfInBounds_toArray, List.set_cons_zero, List.set_cons_succ]
        rfl
      refine take_ (i := 5) (N := some 47) (v := ?_) (a' := ?_) #[true, true, true, true, true, true, false, false, false, false, false, false, false, false, false, false, false, false, false, false, false, false, false, false] rfl rfl (by kernel_rfl) (fun _ _ _ h => h) (Or.inl ⟨by rfl, ?_⟩) hHeld ?_ ?_
      rotate_left
      · rintro w' ⟨s0, s1, s2, s3⟩
        go_simp
        with_reducible rfl
      rotate_left
      · simp only [Act.put, List.setIfInBounds_toArray, List.set_cons_zero, List.set_cons_succ]
        rfl
      refine take_ (i := 7) (N := some 49) (v := ?_) (a' := ?_) #[true, true, true, true, true, true, false, true, false, false, false, false, false, false, false, false, false, false, false, false, false, false, false, false] rfl rfl (by kernel_rfl) (fun _ _ _ h => h) (Or.inl ⟨by rfl, ?_⟩) hHeld ?_ ?_
      rotate_left
      · rintro w' ⟨s0, s1, s2, s3⟩
        go_simp
        with_reducible rfl
      rotate_left
      · simp only [Act.put, List.setIfInBounds_toArray, List.set_cons_zero, List.set_cons_succ]
        rfl
      refine take_ (i := 8) (N := some 50) (v := ?_) (a' := ?_) #[true, true, true, true, true, true, false, true, true, false, false, false, false, false, false, false, false, false, false, false, false, false, false, false] rfl rfl (by kernel_rfl) (fun _ _ _ h => h) (Or.inl ⟨by rfl, ?_⟩) hHeld ?_ ?_
      rotate_left
      · rintro w' ⟨s0, s1, s2, s3⟩
        go_simp
        with_reducible rfl
      rotate_left
      · simp only [Act.put, List.setIfInBounds_toArray, List.set_cons_zero, List.set_cons_succ]
        rfl
      refine take_ (i := 9) (N := some 51) (v := ?_) (a' := ?_) #[true, true, true, true, true, true, false, true, true, true, false, false, false, false, false, false, false, false, false, false, false, false, false, false] rfl rfl (by kernel_rfl) (fun _ _ _ h => h) (Or.inl ⟨by rfl, ?_⟩) hHeld ?_ ?_
      rotate_left
      · rintro w' ⟨s0, s1, s2, s3⟩
        go_simp
        with_reducible rfl
      rotate_left
      · simp only [Act.put, List.setIfInBounds_toArray, List.set_cons_zero, List.set_cons_succ]
        rfl
      refine take_ (i := 10) (N := some 52) (v := ?_) (a' := ?_) #[true, true, true, true, true, true, false, true, true, true, true, false, false, false, false, false, false, false, false, false, false, false, false, false] rfl rfl (by kernel_rfl) (fun _ _ _ h => h) (Or.inl ⟨by rfl, ?_⟩) hHeld ?_ ?_
      rotate_left
      · rintro w' ⟨s0, s1, s2, s3⟩
        go_simp
        with_reducible rfl
      rotate_left
      · simp only [Act.put, List.setIfInBounds_toArray, List.set_cons_zero, List.set_cons_succ]
        rfl
      refine take_ (i := 11) (N := some 53) (v := ?_) (a' := ?_) #[true, true, true, true, true, true, false, true, true, true, true, true, false, false, false, false, false, false, false, false, false, false, false, false] rfl rfl (by kernel_rfl) (fun _ _ _ h => h) (Or.inl ⟨by rfl, ?_⟩) hHeld ?_ ?_
      rotate_left
      · rintro w' ⟨s0, s1, s2, s3⟩
        go_simp
        with_reducible rfl
      rotate_left
      · simp only [Act.put, List.setIfInBounds_toArray, List.set_cons_zero, List.set_cons_succ]
        rfl
      refine take_ (i := 12) (N := some 54) (v := ?_) (a' := ?_) #[true, true, true, true, true, true, false, true, true, true, true, true, true, false, false, false, false, false, false, false, false, false, false, false] rfl rfl (by kernel_rfl) (fun _ _ _ h => h) (Or.inl ⟨by rfl, ?_⟩) hHeld ?_ ?_
      rotate_left
      · rintro w' ⟨s0, s1, s2, s3⟩
        go_simp
        with_reducible rfl
      rotate_left
      · simp only [Act.put, List.setIfInBounds_toArray, List.set_cons_zero, List.set_cons_succ]
        rfl
      refine take_ (i := 14) (N := some 56) (v := ?_) (a' := ?_) #[true, true, true, true, true, true, false, true, true, true, true, true, true, false, true, false, false, false, false, false, false, false, false, false] rfl rfl (by kernel_rfl) (fun _ _ _ h => h) (Or.inl ⟨by rfl, ?_⟩) hHeld ?_ ?_
      rotate_left
      · rintro w' ⟨s0, s1, s2, s3⟩
        go_simp
        with_reducible rfl
      rotate_left
      · simp only [Act.put, List.setIfInBounds_toArray, List.set_cons_zero, List.set_cons_succ]
        rfl
      refine take_ (i := 15) (N := some 57) (v := ?_) (a' := ?_) #[true, true, true, true, true, true, false, true, true, true, true, true, true, false, true, true, false, false, false, false, false, false, false, false] rfl rfl (by kernel_rfl) (fun _ _ _ h => h) (Or.inl ⟨by rfl, ?_⟩) hHeld ?_ ?_
      rotate_left
      · rintro w' ⟨s0, s1, s2, s3⟩
        go_simp
        with_reducible rfl
      rotate_left
      · simp only [Act.put, List.setIfInBounds_toArray, List.set_cons_zero, List.set_cons_succ]
        rfl
      refine take_ (i := 16) (N := some 58) (v := ?_) (a' := ?_) #[true, true, true, true, true, true, false, true, true, true, true, true, true, false, true, true, true, false, false, false, false, false, false, false] rfl rfl (by kernel_rfl) (fun _ _ _ h => h) (Or.inl ⟨by rfl, ?_⟩) hHeld ?_ ?_
      rotate_left
      · rintro w' ⟨s0, s1, s2, s3⟩
        go_simp
        with_reducible rfl
      rotate_left
      · simp only [Act.put, List.setIfInBounds_toArray, List.set_cons_zero, List.set_cons_succ]
        rfl
      refine take_ (i := 17) (N := some 59) (v := ?_) (a' := ?_) #[true, true, true, true, true, true, false, true, true, true, true, true, true, false, true, true, true, true, false, false, false, false, false, false] rfl rfl (by kernel_rfl) (fun _ _ _ h => h) (Or.inl ⟨by rfl, ?_⟩) hHeld ?_ ?_
      rotate_left
      · rintro w' ⟨s0, s1, s2, s3⟩
        go_simp
        with_reducible rfl
      rotate_left
      · simp only [Act.put, List.setIfInBounds_toArray, List.set_cons_zero, List.set_cons_succ]
        rfl
      refine take_ (i := 18) (N := some 60) (v := ?_) (a' := ?_) #[true, true, true, true, true, true, false, true, true, true, true, true, true, false, true, true, true, true, true, false, false, false, false, false] rfl rfl (by kernel_rfl) (fun _ _ _ h => h) (Or.inl ⟨by rfl, ?_⟩) hHeld ?_ ?_
      rotate_left
      · rintro w' ⟨s0, s1, s2, s3⟩
        go_simp
        with_reducible rfl
      rotate_left
      · simp only [Act.put, List.setIfInBounds_toArray, List.set_cons_zero, List.set_cons_succ]
        rfl
      refine take_ (i := 19) (N := some 61) (v := ?_) (a' := ?_) #[true, true, true, true, true, true, false, true, true, true, true, true, true, false, true, true, true, true, true, true, false, false, false, false] rfl rfl (by kernel_rfl) (fun _ _ _ h => h) (Or.inl ⟨by rfl, ?_⟩) hHeld ?_ ?_
      rotate_left
      · rintro w' ⟨s0, s1, s2, s3⟩
        go_simp
        with_reducible rfl
      rotate_left
      · simp only [Act.put, List.setIfInBounds_toArray, List.set_cons_zero, List.set_cons_succ]
        rfl
      refine one_ (i := 6) (N := some 48) #[true, true, true, true, true, true, true, true, true, true, true, true, true, false, true, true, true, true, true, true, false, false, false, false] rfl rfl (by kernel_rfl) (by decide) (fun K hK => ?_)
      refine append_rows_step Kd.string (w0 := w3) w3.heap.size (by rfl) (.tmp 42) (.tmp 47) 22 9 (.string ⟨#[]⟩) 16 (by rfl) Try.underlying22 ThreeString.infoE rfl (by decide) (by omega) u10 X O D1 O.length d1 (fun _ => True) (fun _ => False) (by rfl) (by rfl) HW.out.rx ((RD1.out.below (HBr.out)).1) (fun _ _ h => h) (fun _ h => h.elim) (fun _ _ => trivial) HW.out.below hsD (by omega) ?_
      intro vx1 q1 hox hbx hgx hax
      have HWx : Hid (WM w3 vx1 u11 u12 (X ++ O) Y Z q1) := Lib.hid ⟨hox, R_other HW.out.ry hgx HW.out.xy.symm, R_other HW.out.rz hgx HW.out.xz.symm, D2_of_at HW.out.ry HW.out.xy hax, D2_of_at HW.out.rz HW.out.xz hax, HW.out.yz, hbx⟩
      have hs1 := hbx.size
      have hh := K3.out _ hbx
      clear hox hbx hgx hax
      refine hK.out _ _ hh (fun hHeld => ?_)
      clear hK K
      try simp only [Act.put, List.setIfInBounds_toArray, List.set_cons_zero, List.set_cons_succ]
      refine one_ (i := 13) (N := some 55) #[true, true, true, true, true, true, true, true, true, true, true, true, true, true, true, true, true, true, true, true, false, false, false, false] rfl rfl (by kernel_rfl) (by decide) (fun K hK => ?_)
      refine append_rows_step Kd.string (w0 := w3) w3.heap.size (by rfl) (.tmp 49) (.tmp 54) 22 9 (.string ⟨#[]⟩) 16 (by rfl) Try.underlying22 ThreeString.infoE rfl (by decide) (by omega) u11 Y P D2' P.length d2 (fun _ => True) (fun _ => False) (by rfl) (by rfl) HWx.out.ry ((RD2.out.below HWx.out.below).1) (fun _ _ h => h) (fun _ h => h.elim) (fun _ _ => trivial) HWx.out.below hs1 (by omega) ?_
      intro vy1 q2 hox hbx hgx hax
      have HWy : Hid (WM w3 vx1 vy1 u12 (X ++ O) (Y ++ P) Z q2) := Lib.hid ⟨R_other HWx.out.rx hgx HWx.out.xy, hox, R_other HWx.out.rz hgx HWx.out.yz.symm, (D2_of_at HWx.out.rx HWx.out.xy.symm hax).symm, HWx.out.xz, D2_of_at HWx.out.rz HWx.out.yz hax, hbx⟩
      have hs2 := hbx.size
      have hh := K3.out _ hbx
      clear hox hbx hgx hax
      refine hK.out _ _ hh (fun hHeld => ?_)
      clear hK K
      try simp only [Act.put, List.setIfInBounds_toArray, List.set_cons_zero, List.set_cons_succ]
      refine one_ (i := 20) (N := some 62) #[true, true, true, true, true, true, true, true, true, true, true, true, true, true, true, true, true, true, true, true, true, false, false, false] rfl rfl (by kernel_rfl) (by decide) (fun K hK => ?_)
      refine append_rows_step Kd.string (w0 := w3) w3.heap.size (by rfl) (.tmp 56) (.tmp 61) 22 9 (.string ⟨#[]⟩) 16 (by rfl) Try.underlying22 ThreeString.infoE rfl (by decide) (by omega) u12 Z Q D3 Q.length d3 (fun _ => True) (fun _ => False) (by rfl) (by rfl) HWy.out.rz ((RD3.out.below HWy.out.below).1) (fun _ _ h => h) (fun _ h => h.elim) (fun _ _ => trivial) HWy.out.below hs2 (by omega) ?_
      intro vz1 q3 hox hbx hgx hax
      have HWz : Hid (WM w3 vx1 vy1 vz1 (X ++ O) (Y ++ P) (Z ++ Q) q3) := Lib.hid ⟨R_other HWy.out.rx hgx HWy.out.xz, R_other HWy.out.ry hgx HWy.out.yz, hox, HWy.out.xy, (D2_of_at HWy.out.rx HWy.out.xz.symm hax).symm, (D2_of_at HWy.out.ry HWy.out.yz.symm hax).symm, hbx⟩
      have hs3 := hbx.size
      have hh := K3.out _ hbx
      clear hox hbx hgx hax
      refine hK.out _ _ hh (fun hHeld => ?_)
      clear hK K
      try simp only [Act.put, List.setIfInBounds_toArray, List.set_cons_zero, List.set_cons_succ]
      refine one_ (i := 21) (N := some 10) #[true, true, true, true, true, true, true, true, true, true, true, true, true, true, true, true, true, true, true, true, true, true, false, false] rfl rfl (by kernel_rfl) (by decide) (fun K hK => ?_)
      go_simp
      refine hK.out _ _ hh (fun hHeld => ?_)
      clear hK K
      try simp only [Act.put, List.setIfInBounds_toArray, List.set_cons_zero, List.set_cons_succ]
      refine one_ (i := 22) (N := some 11) #[true, true, true, true, true, true, true, true, true, true, true, true, true, true, true, true, true, true, true, true, true, true, true, false] rfl rfl (by kernel_rfl) (by decide) (fun K hK => ?_)
      go_simp
      refine hK.out _ _ hh (fun hHeld => ?_)
      clear hK K
      try simp only [Act.put, List.setIfInBounds_toArray, List.set_cons_zero, List.set_cons_succ]
      refine one_ (i := 23) (N := some 12) #[true, true, true, true, true, true, true, true, true, true, true, true, true, true, true, true, true, true, true, true, true, true, true, true] rfl rfl (by kernel_rfl) (by decide) (fun K hK => ?_)
      go_simp
      refine hK.out _ _ hh (fun hHeld => ?_)
      clear hK K
      try simp only [Act.put, List.setIfInBounds_toArray, List.set_cons_zero, List.set_cons_succ]
      refine done_ (by kernel_rfl) ?_
      refine NoPanic.normal ?_
      have HBx := Lib.hid HWz.out.below
      obtain ⟨k0, k1, k2, k3⟩ := K3.out _ HBx.out
      clear hh hHeld
      cases bb with
      | true =>
        go_wp2_with fail
        have RE1 := Lib.hid (RD1.out.below HBx.out)
        have RE2 := Lib.hid (RD2.out.below HBx.out)
        have RE3 := Lib.hid (RD3.out.below HBx.out)
        have HC := Lib.hid (ThreeString.drewn q3)
        go_region_held3 (fun w' => w'.cell? (ad.add (i * 4)) = some (.bool cf) ∧ w'.cell? ⟨(ad.add (i * 4)).block, (ad.add (i * 4)).off + 1, none⟩ = some (.slice D1 O.length d1) ∧ w'.cell? ⟨(ad.add (i * 4)).block, (ad.add (i * 4)).off + 2, none⟩ = some (.slice D2' P.length d2) ∧ w'.cell? ⟨(ad.add (i * 4)).block, (ad.add (i * 4)).off + 3, none⟩ = some (.slice D3 Q.length d3))
          (first | exact K3.out _ (HBx.out.trans (HC.out.mono hs3)))
          (first
            | (with_reducible refine Calls.mono (same_tx D1 D2' d1 d2 O P _ (RE1.out.below HC.out) (RE2.out.below HC.out) (by omega) tc HTC.out) ?_; rintro e q4 ⟨rfl, hb⟩; replace HC := Lib.hid (HC.out.trans (hb.mono HC.out.size)); clear hb)
            | (with_reducible refine Calls.mono (same_tx D1 D3 d1 d3 O Q _ (RE1.out.below HC.out) (RE3.out.below HC.out) (by omega) td HTD.out) ?_; rintro e q4 ⟨rfl, hb⟩; replace HC := Lib.hid (HC.out.trans (hb.mono HC.out.size)); clear hb)
            | (with_reducible refine Calls.mono (same_tx D2' D3 d2 d3 P Q _ (RE2.out.below HC.out) (RE3.out.below HC.out) (by omega) te HTE.out) ?_; rintro e q4 ⟨rfl, hb⟩; replace HC := Lib.hid (HC.out.trans (hb.mono HC.out.size)); clear hb))
        replace HWz := Lib.hid (HWz.out.made HC.out)
        replace HBx := Lib.hid HWz.out.below
        obtain ⟨k0, k1, k2, k3⟩ := K3.out _ HBx.out
        clear HC K3 RE1 RE2 RE3 HTD HTE
        cases tc with
        | true =>
          cases td with
          | true =>
            cases te with
            | true =>
              obtain rfl : cf = false := HCF.out
              go_wp2_with fail
              go_roundg (xs.length - (i + 1))
              case measure => have := HI.out; omega
              case rel => exact ⟨i + 1, n + Q.length, true, X ++ O, Y ++ P, Z ++ Q, by go_num, rfl, by go_num, Lib.hid (by have := HI.out; omega), by omega, by rw [List.length_append]; omega, by rw [List.length_append]; omega, by rw [List.length_append]; omega, HWz, Lib.hid (by rw [List.append_assoc]; exact HX.out), Lib.hid (by rw [List.append_assoc]; exact HY.out), Lib.hid (by rw [List.append_assoc]; exact HZ.out), Lib.hid (.inr rfl)⟩
            | false =>
              obtain rfl : cf = false := HCF.out
              go_wp2_with fail
              go_roundg (xs.length - (i + 1))
              case measure => have := HI.out; omega
              case rel => exact ⟨i + 1, n + Q.length, true, X ++ O, Y ++ P, Z ++ Q, by go_num, rfl, by go_num, Lib.hid (by have := HI.out; omega), by omega, by rw [List.length_append]; omega, by rw [List.length_append]; omega, by rw [List.length_append]; omega, HWz, Lib.hid (by rw [List.append_assoc]; exact HX.out), Lib.hid (by rw [List.append_assoc]; exact HY.out), Lib.hid (by rw [List.append_assoc]; exact HZ.out), Lib.hid (.inr rfl)⟩
          | false =>
            cases te with
            | true =>
              obtain rfl : cf = false := HCF.out
              go_wp2_with fail
              go_roundg (xs.length - (i + 1))
              case measure => have := HI.out; omega
              case rel => exact ⟨i + 1, n + Q.length, true, X ++ O, Y ++ P, Z ++ Q, by go_num, rfl, by go_num, Lib.hid (by have := HI.out; omega), by omega, by rw [List.length_append]; omega, by rw [List.length_append]; omega, by rw [List.length_append]; omega, HWz, Lib.hid (by rw [List.append_assoc]; exact HX.out), Lib.hid (by rw [List.append_assoc]; exact HY.out), Lib.hid (by rw [List.append_assoc]; exact HZ.out), Lib.hid (.inr rfl)⟩
            | false =>
              obtain rfl : cf = false := HCF.out
              go_wp2_with fail
              go_roundg (xs.length - (i + 1))
              case measure => have := HI.out; omega
              case rel => exact ⟨i + 1, n + Q.length, true, X ++ O, Y ++ P, Z ++ Q, by go_num, rfl, by go_num, Lib.hid (by have := HI.out; omega), by omega, by rw [List.length_append]; omega, by rw [List.length_append]; omega, by rw [List.length_append]; omega, HWz, Lib.hid (by rw [List.append_assoc]; exact HX.out), Lib.hid (by rw [List.append_assoc]; exact HY.out), Lib.hid (by rw [List.append_assoc]; exact HZ.out), Lib.hid (.inr rfl)⟩
        | false =>
          cases td with
          | true =>
            cases te with
            | true =>
              obtain rfl : cf = false := HCF.out
              go_wp2_with fail
              go_roundg (xs.length - (i + 1))
              case measure => have := HI.out; omega
              case rel => exact ⟨i + 1, n + P.length, true, X ++ O, Y ++ P, Z ++ Q, by go_num, rfl, by go_num, Lib.hid (by have := HI.out; omega), by omega, by rw [List.length_append]; omega, by rw [List.length_append]; omega, by rw [List.length_append]; omega, HWz, Lib.hid (by rw [List.append_assoc]; exact HX.out), Lib.hid (by rw [List.append_assoc]; exact HY.out), Lib.hid (by rw [List.append_assoc]; exact HZ.out), Lib.hid (.inr rfl)⟩
            | false =>
              obtain rfl : cf = false := HCF.out
              go_wp2_with fail
              go_roundg (xs.length - (i + 1))
              case measure => have := HI.out; omega
              case rel => exact ⟨i + 1, n + P.length, true, X ++ O, Y ++ P, Z ++ Q, by go_num, rfl, by go_num, Lib.hid (by have := HI.out; omega), by omega, by rw [List.length_append]; omega, by rw [List.length_append]; omega, by rw [List.length_append]; omega, HWz, Lib.hid (by rw [List.append_assoc]; exact HX.out), Lib.hid (by rw [List.append_assoc]; exact HY.out), Lib.hid (by rw [List.append_assoc]; exact HZ.out), Lib.hid (.inr rfl)⟩
          | false =>
            cases te with
            | true =>
              obtain rfl : cf = false := HCF.out
              go_wp2_with fail
              go_roundg (xs.length - (i + 1))
              case measure => have := HI.out; omega
              case rel => exact ⟨i + 1, n + P.length, true, X ++ O, Y ++ P, Z ++ Q, by go_num, rfl, by go_num, Lib.hid (by have := HI.out; omega), by omega, by rw [List.length_append]; omega, by rw [List.length_append]; omega, by rw [List.length_append]; omega, HWz, Lib.hid (by rw [List.append_assoc]; exact HX.out), Lib.hid (by rw [List.append_assoc]; exact HY.out), Lib.hid (by rw [List.append_assoc]; exact HZ.out), Lib.hid (.inr rfl)⟩
            | false =>
              obtain rfl : cf = true := HCF.out
              go_wp2_with fail
              go_roundg (xs.length - (i + 1))
              case measure => have := HI.out; omega
              case rel => exact ⟨i + 1, n + P.length, true, X ++ O, Y ++ P, Z ++ Q, by go_num, rfl, by go_num, Lib.hid (by have := HI.out; omega), by omega, by rw [List.length_append]; omega, by rw [List.length_append]; omega, by rw [List.length_append]; omega, HWz, Lib.hid (by rw [List.append_assoc]; exact HX.out), Lib.hid (by rw [List.append_assoc]; exact HY.out), Lib.hid (by rw [List.append_assoc]; exact HZ.out), Lib.hid (.inr rfl)⟩
      | false =>
        go_wp2_with fail
        have RE1 := Lib.hid (RD1.out.below HBx.out)
        have RE2 := Lib.hid (RD2.out.below HBx.out)
        have RE3 := Lib.hid (RD3.out.below HBx.out)
        have HC := Lib.hid (ThreeString.drewn q3)
        go_region_held3 (fun w' => w'.cell? (ad.add (i * 4)) = some (.bool cf) ∧ w'.cell? ⟨(ad.add (i * 4)).block, (ad.add (i * 4)).off + 1, none⟩ = some (.slice D1 O.length d1) ∧ w'.cell? ⟨(ad.add (i * 4)).block, (ad.add (i * 4)).off + 2, none⟩ = some (.slice D2' P.length d2) ∧ w'.cell? ⟨(ad.add (i * 4)).block, (ad.add (i * 4)).off + 3, none⟩ = some (.slice D3 Q.length d3))
          (first | exact K3.out _ (HBx.out.trans (HC.out.mono hs3)))
          (first
            | (with_reducible refine Calls.mono (same_tx D1 D2' d1 d2 O P _ (RE1.out.below HC.out) (RE2.out.below HC.out) (by omega) tc HTC.out) ?_; rintro e q4 ⟨rfl, hb⟩; replace HC := Lib.hid (HC.out.trans (hb.mono HC.out.size)); clear hb)
            | (with_reducible refine Calls.mono (same_tx D1 D3 d1 d3 O Q _ (RE1.out.below HC.out) (RE3.out.below HC.out) (by omega) td HTD.out) ?_; rintro e q4 ⟨rfl, hb⟩; replace HC := Lib.hid (HC.out.trans (hb.mono HC.out.size)); clear hb)
            | (with_reducible refine Calls.mono (same_tx D2' D3 d2 d3 P Q _ (RE2.out.below HC.out) (RE3.out.below HC.out) (by omega) te HTE.out) ?_; rintro e q4 ⟨rfl, hb⟩; replace HC := Lib.hid (HC.out.trans (hb.mono HC.out.size)); clear hb))
        replace HWz := Lib.hid (HWz.out.made HC.out)
        replace HBx := Lib.hid HWz.out.below
        obtain ⟨k0, k1, k2, k3⟩ := K3.out _ HBx.out
        clear HC K3 RE1 RE2 RE3 HTD HTE
        cases tc with
        | true =>
          cases td with
          | true =>
            cases te with
            | true =>
              obtain rfl : cf = false := HCF.out
              go_wp2_with fail
              go_roundg (xs.length - (i + 1))
              case measure => have := HI.out; omega
              case rel => exact ⟨i + 1, n + Q.length, false, X ++ O, Y ++ P, Z ++ Q, by go_num, rfl, by go_num, Lib.hid (by have := HI.out; omega), by omega, by rw [List.length_append]; omega, by rw [List.length_append]; omega, by rw [List.length_append]; omega, HWz, Lib.hid (by rw [List.append_assoc]; exact HX.out), Lib.hid (by rw [List.append_assoc]; exact HY.out), Lib.hid (by rw [List.append_assoc]; exact HZ.out), Lib.hid (by have h := HSt.out; simpa using h)⟩
            | false =>
              obtain rfl : cf = false := HCF.out
              go_wp2_with fail
              go_roundg (xs.length - (i + 1))
              case measure => have := HI.out; omega
              case rel => exact ⟨i + 1, n + Q.length, false, X ++ O, Y ++ P, Z ++ Q, by go_num, rfl, by go_num, Lib.hid (by have := HI.out; omega), by omega, by rw [List.length_append]; omega, by rw [List.length_append]; omega, by rw [List.length_append]; omega, HWz, Lib.hid (by rw [List.append_assoc]; exact HX.out), Lib.hid (by rw [List.append_assoc]; exact HY.out), Lib.hid (by rw [List.append_assoc]; exact HZ.out), Lib.hid (by have h := HSt.out; simpa using h)⟩
          | false =>
            cases te with
            | true =>
              obtain rfl : cf = false := HCF.out
              go_wp2_with fail
              go_roundg (xs.length - (i + 1))
              case measure => have := HI.out; omega
              case rel => exact ⟨i + 1, n + Q.length, false, X ++ O, Y ++ P, Z ++ Q, by go_num, rfl, by go_num, Lib.hid (by have := HI.out; omega), by omega, by rw [List.length_append]; omega, by rw [List.length_append]; omega, by rw [List.length_append]; omega, HWz, Lib.hid (by rw [List.append_assoc]; exact HX.out), Lib.hid (by rw [List.append_assoc]; exact HY.out), Lib.hid (by rw [List.append_assoc]; exact HZ.out), Lib.hid (by have h := HSt.out; simpa using h)⟩
            | false =>
              obtain rfl : cf = false := HCF.out
              go_wp2_with fail
              go_roundg (xs.length - (i + 1))
              case measure => have := HI.out; omega
              case rel => exact ⟨i + 1, n + Q.length, false, X ++ O, Y ++ P, Z ++ Q, by go_num, rfl, by go_num, Lib.hid (by have := HI.out; omega), by omega, by rw [List.length_append]; omega, by rw [List.length_append]; omega, by rw [List.length_append]; omega, HWz, Lib.hid (by rw [List.append_assoc]; exact HX.out), Lib.hid (by rw [List.append_assoc]; exact HY.out), Lib.hid (by rw [List.append_assoc]; exact HZ.out), Lib.hid (by have h := HSt.out; simpa using h)⟩
        | false =>
          cases td with
          | true =>
            cases te with
            | true =>
              obtain rfl : cf = false := HCF.out
              go_wp2_with fail
              go_roundg (xs.length - (i + 1))
              case measure => have := HI.out; omega
              case rel => exact ⟨i + 1, n + P.length, false, X ++ O, Y ++ P, Z ++ Q, by go_num, rfl, by go_num, Lib.hid (by have := HI.out; omega), by omega, by rw [List.length_append]; omega, by rw [List.length_append]; omega, by rw [List.length_append]; omega, HWz, Lib.hid (by rw [List.append_assoc]; exact HX.out), Lib.hid (by rw [List.append_assoc]; exact HY.out), Lib.hid (by rw [List.append_assoc]; exact HZ.out), Lib.hid (by have h := HSt.out; simpa using h)⟩
            | false =>
              obtain rfl : cf = false := HCF.out
              go_wp2_with fail
              go_roundg (xs.length - (i + 1))
              case measure => have := HI.out; omega
              case rel => exact ⟨i + 1, n + P.length, false, X ++ O, Y ++ P, Z ++ Q, by go_num, rfl, by go_num, Lib.hid (by have := HI.out; omega), by omega, by rw [List.length_append]; omega, by rw [List.length_append]; omega, by rw [List.length_append]; omega, HWz, Lib.hid (by rw [List.append_assoc]; exact HX.out), Lib.hid (by rw [List.append_assoc]; exact HY.out), Lib.hid (by rw [List.append_assoc]; exact HZ.out), Lib.hid (by have h := HSt.out; simpa using h)⟩
          | false =>
            cases te with
            | true =>
              obtain rfl : cf = false := HCF.out
              go_wp2_with fail
              go_roundg (xs.length - (i + 1))
              case measure => have := HI.out; omega
              case rel => exact ⟨i + 1, n + P.length, false, X ++ O, Y ++ P, Z ++ Q, by go_num, rfl, by go_num, Lib.hid (by have := HI.out; omega), by omega, by rw [List.length_append]; omega, by rw [List.length_append]; omega, by rw [List.length_append]; omega, HWz, Lib.hid (by rw [List.append_assoc]; exact HX.out), Lib.hid (by rw [List.append_assoc]; exact HY.out), Lib.hid (by rw [List.append_assoc]; exact HZ.out), Lib.hid (by have h := HSt.out; simpa using h)⟩
            | false =>
              obtain rfl : cf = true := HCF.out
              go_wp2_with fail
              go_roundg (xs.length - (i + 1))
              case measure => have := HI.out; omega
              case rel => exact ⟨i + 1, n + P.length, true, X ++ O, Y ++ P, Z ++ Q, by go_num, rfl, by go_num, Lib.hid (by have := HI.out; omega), by omega, by rw [List.length_append]; omega, by rw [List.length_append]; omega, by rw [List.length_append]; omega, HWz, Lib.hid (by rw [List.append_assoc]; exact HX.out), Lib.hid (by rw [List.append_assoc]; exact HY.out), Lib.hid (by rw [List.append_assoc]; exact HZ.out), Lib.hid (.inr rfl)⟩
    · have hi : i = xs.length := by have := HI.out; omega
      subst hi
      rw [List.drop_length, List.map_nil, List.flatten_nil, List.append_nil] at HX HY HZ
      rw [List.drop_length, List.map_nil, Three.merged] at HSt
      have eX : o = X := HX.out.symm
      have eY : a = Y := HY.out.symm
      have eZ : b = Z := HZ.out.symm
      clear HX HY HZ
      subst eX
      subst eY
      subst eZ
      have hbb : bb = true := by have := HSt.out; simpa using this
      clear HSt
      subst hbb
      obtain ⟨Ax, cx, rfl, hxT⟩ := tx_of_R HW.out.rx
      obtain ⟨Ay, cy, rfl, hyT⟩ := tx_of_R HW.out.ry
      obtain ⟨Az, cz, rfl, hzT⟩ := tx_of_R HW.out.rz
      have HXT := Lib.hid hxT
      have HYT := Lib.hid hyT
      have HZT := Lib.hid hzT
      replace HO := Lib.hid (HO.out.below HW.out.below)
      replace HA := Lib.hid (HA.out.below HW.out.below)
      replace HBb := Lib.hid (HBb.out.below HW.out.below)
      replace HB := Lib.hid (HB.out.trans (HW.out.below.mono HB.out.size))
      clear hxT hyT hzT HW HP HXs HWh HT1
      go_wp2_with fail
      refine (same_tx Ax A cx c o o _ HXT.out HO.out (by omega) true (by simp)).mono ?_
      rintro e w6 ⟨rfl, hb⟩
      replace HYT := Lib.hid (HYT.out.below hb)
      replace HZT := Lib.hid (HZT.out.below hb)
      replace HA := Lib.hid (HA.out.below hb)
      replace HBb := Lib.hid (HBb.out.below hb)
      replace HB := Lib.hid (HB.out.trans (hb.mono HB.out.size))
      clear hb HXT HO
      go_wp2_with fail
      refine (same_tx Ay B cy d a a _ HYT.out HA.out (by omega) true (by simp)).mono ?_
      rintro e w7 ⟨rfl, hb⟩
      replace HZT := Lib.hid (HZT.out.below hb)
      replace HBb := Lib.hid (HBb.out.below hb)
      replace HB := Lib.hid (HB.out.trans (hb.mono HB.out.size))
      clear hb HYT HA
      go_wp2_with fail
      refine (same_tx Az D cz f b b _ HZT.out HBb.out (by omega) true (by simp)).mono ?_
      rintro e w8 ⟨rfl, hb⟩
      replace HB := Lib.hid (HB.out.trans (hb.mono HB.out.size))
      clear hb HZT HBb
      go_wp2_with fail
      refine (awake5 _).mono ?_
      rintro e w9 ⟨rfl, hb⟩
      replace HB := Lib.hid (HB.out.trans (hb.mono HB.out.size))
      clear hb
      go_wp2
      go_ret
      exact ⟨rfl, HB.out⟩
set_option maxHeartbeats 16000000 in
set_option maxRecDepth 100000 in
theorem whole_some (A B D : Option Addr) (c d f : Nat) (o a b : List ByteArray) (mm : List ByteArray) (w : World) (ho : TX w A c o) (ha : TX w B d a) (hb : TX w D f b) (h : Great3 A B D c d f o.length a.length b.length false w) (l0 : o.length ≤ 30) (l1 : a.length ≤ 30) (l2 : b.length ≤ 30) (hm : Three.merge o a b = some mm) :
    Calls Try.prog 4 #[.slice A o.length c, .slice B a.length d, .slice D b.length f] w (LawPost w) := by
  have H := Lib.hid h
  have HO := Lib.hid ho
  have HA := Lib.hid ha
  have HBb := Lib.hid hb
  have HM := Lib.hid hm
  have hmm : mm.length ≤ 1000000 := merge_len hm (by omega) (by omega)
  have HWh := Lib.hid (Three.parts_whole o a b)
  clear h ho ha hb hm
  go_enter Try.func4, Try.ntmps4
  go_wp2_with fail
  refine (H.out _ (Below.refl _ _)).mono ?_
  rintro e w1 ⟨rfl, hb⟩
  have HB := Lib.hid hb
  replace HO := Lib.hid (HO.out.below hb)
  replace HA := Lib.hid (HA.out.below hb)
  replace HBb := Lib.hid (HBb.out.below hb)
  clear hb H
  go_wp2_with fail
  refine (parts_tx A c o B d a D f b _ HO.out HA.out HBb.out (by omega) (by omega) (by omega)).mono ?_
  rintro e w2 ⟨v, xs, rfl, hR, hx, -, hb⟩
  obtain ⟨A3, c3, e3⟩ := Kd.R_slice hR
  subst e3
  have hxl : xs.length ≤ 63 := by have h1 := congrArg List.length hx; have h2 := ThreeString.parts_len o a b; rw [List.length_map] at h1; omega
  have HXs := Lib.hid hx
  have hC := (Kd.R_reads' hR).2.2
  clear hR hx
  replace HO := Lib.hid (HO.out.below hb)
  replace HA := Lib.hid (HA.out.below hb)
  replace HBb := Lib.hid (HBb.out.below hb)
  replace HB := Lib.hid (HB.out.trans (hb.mono HB.out.size))
  have HP := Lib.hid hC
  clear hb hC
  go_wp2_with fail
  refine (merge_tx A c o B d a D f b _ HO.out HA.out HBb.out (by omega) (by omega) (by omega)).mono ?_
  rintro e w3 ⟨A1, c1, rfl, hT, -, hb⟩
  rw [HM.out] at hT ⊢
  simp only [Option.isSome_some, Option.getD_some] at hT ⊢
  replace HO := Lib.hid (HO.out.below hb)
  replace HA := Lib.hid (HA.out.below hb)
  replace HBb := Lib.hid (HBb.out.below hb)
  replace HP := Lib.hid (Kd.C_below HP.out hb)
  replace HB := Lib.hid (HB.out.trans (hb.mono HB.out.size))
  have HT1 := Lib.hid hT
  clear hb hT
  have hst0 : Three.merged ((xs.drop 0).map ThreeString.PV.p) = some (mm.drop 0) := by rw [List.drop_zero, HXs.out]; exact HM.out
  have HS0 := Lib.hid hst0
  clear hst0 HM
  go_wp2_with fail
  go_loopg [10, 11, 12, 13, 14, 15] xs.length (fun g vx vy vz v13 v14 v15 w' => ∃ (i n : Nat) (bb : Bool) (X Y Z : List ByteArray), v15 = .int .i64 (i : Int) ∧ v13 = .bool bb ∧ v14 = .int .i64 (n : Int) ∧ Hid (i + g = xs.length) ∧ n ≤ i * 30 ∧ X.length ≤ i * 30 ∧ Y.length ≤ i * 30 ∧ Z.length ≤ i * 30 ∧ Hid (WM w3 vx vy vz X Y Z w') ∧ Hid (X ++ ((xs.drop i).map (·.p.o)).flatten = o) ∧ Hid (Y ++ ((xs.drop i).map (·.p.a)).flatten = a) ∧ Hid (Z ++ ((xs.drop i).map (·.p.b)).flatten = b) ∧ Hid (Three.merged ((xs.drop i).map ThreeString.PV.p) = some (mm.drop n)) ∧ Hid (n ≤ mm.length) ∧ bb = false)
  case atStart =>
    have e1 := HWh.out
    rw [← HXs.out] at e1
    simp only [List.map_map] at e1
    exact ⟨0, 0, false, [], [], [], rfl, rfl, rfl, Lib.hid (by simp), by omega, by simp, by simp, by simp, Lib.hid ⟨Kd.R_nil _ _ _ _ _, Kd.R_nil _ _ _ _ _, Kd.R_nil _ _ _ _ _, fun k e => by simp [Value.ownBlock] at e, fun k e => by simp [Value.ownBlock] at e, fun k e => by simp [Value.ownBlock] at e, Below.refl _ _⟩,
      Lib.hid e1.1, Lib.hid e1.2.1, Lib.hid e1.2.2.1, HS0, Lib.hid (Nat.zero_le _), rfl⟩
  case round =>
    obtain ⟨i, n, bb, X, Y, Z, rfl, rfl, rfl, HI, hn, hX, hY, hZ, HW, HX, HY, HZ, HSt, HN, rfl⟩ := hrel
    by_cases hlt : i < xs.length
    · obtain ⟨ad, ead, x0, x1, x2, x3, rd1, rd2, rd3⟩ := ThreeString.at_P HP.out i hlt rfl
      subst ead
      have hmem : xs[i].p ∈ Three.parts o a b := by rw [← HXs.out]; exact List.mem_map.2 ⟨_, List.getElem_mem hlt, rfl⟩
      obtain ⟨s1, s2, s3⟩ := ThreeString.parts_small o a b _ hmem
      have hwh := HWh.out.2.2.2 _ hmem
      have hdr : xs.drop i = xs[i] :: xs.drop (i + 1) := List.drop_eq_getElem_cons hlt
      rw [hdr, List.map_cons, List.flatten_cons] at HX HY HZ
      rw [hdr, List.map_cons, Three.merged] at HSt
      generalize xs[i] = x at x0 x1 x2 x3 rd1 rd2 rd3 s1 s2 s3 hwh HX HY HZ HSt
      obtain ⟨⟨cf, O, P, Q⟩, v1, v2, v3⟩ := x
      simp only at x0 x1 x2 x3 rd1 rd2 rd3 s1 s2 s3 hwh HX HY HZ HSt
      obtain ⟨D1, d1, rfl, y1, r1⟩ := rd1
      obtain ⟨D2', d2, rfl, y2, r2⟩ := rd2
      obtain ⟨D3, d3, rfl, y3, r3⟩ := rd3
      have RD1 : Hid (TX w3 D1 d1 O) := Lib.hid ⟨r1, y1⟩
      have RD2 : Hid (TX w3 D2' d2 P) := Lib.hid ⟨r2, y2⟩
      have RD3 : Hid (TX w3 D3 d3 Q) := Lib.hid ⟨r3, y3⟩
      obtain ⟨tc, htc⟩ : ∃ r, r = decide (O = P) := ⟨_, rfl⟩
      obtain ⟨td, htd⟩ : ∃ r, r = decide (O = Q) := ⟨_, rfl⟩
      obtain ⟨te, hte⟩ : ∃ r, r = decide (P = Q) := ⟨_, rfl⟩
      have hcf : cf = (!te && !tc && !td) := by
        have h1 : decide (P = O) = decide (O = P) := decide_eq_decide.2 ⟨fun h => h.symm, fun h => h.symm⟩
        have h2 : decide (Q = O) = decide (O = Q) := decide_eq_decide.2 ⟨fun h => h.symm, fun h => h.symm⟩
        have : cf = Three.clash O P Q := hwh
        rw [this, htc, htd, hte]
        unfold Three.clash
        rw [h1, h2]
      have HTC := Lib.hid htc
      have HTD := Lib.hid htd
      have HTE := Lib.hid hte
      have HCF := Lib.hid hcf
      have HCl : Hid (cf = Three.clash O P Q) := Lib.hid hwh
      have b1 := HW.out.below
      have hs0 := b1.size
      have hi0 : (0 : Int) ≤ (i : Int) := by omega
      have hi1 : (i : Int) < (xs.length : Int) := by omega
      have hS3 : ∀ w' : World, Below w3.heap.size w3 w' → w'.cell? (ad.add (i * 4)) = some (.bool cf) ∧ w'.cell? ⟨(ad.add (i * 4)).block, (ad.add (i * 4)).off + 1, none⟩ = some (.slice D1 O.length d1) ∧ w'.cell? ⟨(ad.add (i * 4)).block, (ad.add (i * 4)).off + 2, none⟩ = some (.slice D2' P.length d2) ∧ w'.cell? ⟨(ad.add (i * 4)).block, (ad.add (i * 4)).off + 3, none⟩ = some (.slice D3 Q.length d3) := fun w' hw => ⟨(hw.cell (World.block_lt_of_cell? w3 _ x0)).trans x0, (hw.cell (World.block_lt_of_cell? w3 _ x1)).trans x1, (hw.cell (World.block_lt_of_cell? w3 _ x2)).trans x2, (hw.cell (World.block_lt_of_cell? w3 _ x3)).trans x3⟩
      have K3 := Lib.hid hS3
      have HBr : Hid (Below w3.heap.size w3 wr.drew) := Lib.hid (b1.trans ((ThreeString.drewn wr).mono hs0))
      have hsD : w3.heap.size ≤ wr.drew.heap.size := hs0
      replace HW : Hid (WM w3 u10 u11 u12 X Y Z wr.drew) := Lib.hid (HW.out.made (ThreeString.drewn wr))
      clear htc htd hte hcf hwh hmem hdr y1 y2 y3 r1 r2 r3 b1 x0 x1 x2 x3 hS3
      go_wp2_with fail
      refine wp_region_noPanic ?_
      refine start_ (n := 24) (S := fun w' => w'.cell? (ad.add (i * 4)) = some (.bool cf) ∧ w'.cell? ⟨(ad.add (i * 4)).block, (ad.add (i * 4)).off + 1, none⟩ = some (.slice D1 O.length d1) ∧ w'.cell? ⟨(ad.add (i * 4)).block, (ad.add (i * 4)).off + 2, none⟩ = some (.slice D2' P.length d2) ∧ w'.cell? ⟨(ad.add (i * 4)).block, (ad.add (i * 4)).off + 3, none⟩ = some (.slice D3 Q.length d3)) (ds := []) #[false, false, false, false, false, false, false, false, false, false, false, false, false, false, false, false, false, false, false, false, false, false, false, false] (by rfl) (by rfl) (by rfl) (K3.out _ HBr.out) (fun hHeld => ?_)
      refine take_ (i := 0) (N := some 42) (v := ?_) (a' := ?_) #[true, false, false, false, false, false, false, false, false, false, false, false, false, false, false, false, false, false, false, false, false, false, false, false] rfl rfl (by kernel_rfl) (fun _ _ _ h => h) (Or.inl ⟨by rfl, ?_⟩) hHeld ?_ ?_
      rotate_left
      · rintro w' ⟨s0, s1, s2, s3⟩
        go_simp
        with_reducible rfl
      rotate_left
      · simp only [Act.put, List.setIfInBounds_toArray, List.set_cons_zero, List.set_cons_succ]
        rfl
      refine take_ (i := 1) (N := some 43) (v := ?_) (a' := ?_) #[true, true, false, false, false, false, false, false, false, false, false, false, false, false, false, false, false, false, false, false, false, false, false, false] rfl rfl (by kernel_rfl) (fun _ _ _ h => h) (Or.inl ⟨by rfl, ?_⟩) hHeld ?_ ?_
      rotate_left
      · rintro w' ⟨s0, s1, s2, s3⟩
        go_simp
        with_reducible rfl
      rotate_left
      · simp only [Act.put, List.setIfInBounds_toArray, List.set_cons_zero, List.set_cons_succ]
        rfl
      refine take_ (i := 2) (N := some 44) (v := ?_) (a' := ?_) #[true, true, true, false, false, false, false, false, false, false, false, false, false, false, false, false, false, false, false, false, false, false, false, false] rfl rfl (by kernel_rfl) (fun _ _ _ h => h) (Or.inl ⟨by rfl, ?_⟩) hHeld ?_ ?_
      rotate_left
      · rintro w' ⟨s0, s1, s2, s3⟩
        go_simp
        with_reducible rfl
      rotate_left
      · simp only [Act.put, List.setIfInBounds_toArray, List.set_cons_zero, List.set_cons_succ]
        rfl
      refine take_ (i := 3) (N := some 45) (v := ?_) (a' := ?_) #[true, true, true, true, false, false, false, false, false, false, false, false, false, false, false, false, false, false, false, false, false, false, false, false] rfl rfl (by kernel_rfl) (fun _ _ _ h => h) (Or.inl ⟨by rfl, ?_⟩) hHeld ?_ ?_
      rotate_left
      · rintro w' ⟨s0, s1, s2, s3⟩
        go_simp
        with_reducible rfl
      rotate_left
      · simp only [Act.put, List.setIfInBounds_toArray, List.set_cons_zero, List.set_cons_succ]
        rfl
      refine take_ (i := 4) (N := some 46) (v := ?_) (a' := ?_) #[true, true, true, true, true, false, false, false, false, false, false, false, false, false, false, false, false, false, false, false, false, false, false, false] rfl rfl (by kernel_rfl) (fun _ _ _ h => h) (Or.inl ⟨by rfl, ?_⟩) hHeld ?_ ?_
      rotate_left
      · rintro w' ⟨s0, s1, s2, s3⟩
        go_simp
        with_reducible rfl
      rotate_left
      · simp only [Act.put, List.setIfInBounds_toArray, List.set_cons_zero, List.set_cons_succ]
        rfl
      refine take_ (i := 5) (N := some 47) (v := ?_) (a' := ?_) #[true, true, true, true, true, true, false, false, false, false, false, false, false, false, false, false, false, false, false, false, false, false, false, false] rfl rfl (by kernel_rfl) (fun _ _ _ h => h) (Or.inl ⟨by rfl, ?_⟩) hHeld ?_ ?_
      rotate_left
      · rintro w' ⟨s0, s1, s2, s3⟩
        go_simp
        with_reducible rfl
      rotate_left
      · simp only [Act.put, List.setIfInBounds_toArray, List.set_cons_zero, List.set_cons_succ]
        rfl
      refine take_ (i := 7) (N := some 49) (v := ?_) (a' := ?_) #[true, true, true, true, true, true, false, true, false, false, false, false, false, false, false, false, false, false, false, false, false, false, false, false] rfl rfl (by kernel_rfl) (fun _ _ _ h => h) (Or.inl ⟨by rfl, ?_⟩) hHeld ?_ ?_
      rotate_left
      · rintro w' ⟨s0, s1, s2, s3⟩
        go_simp
        with_reducible rfl
      rotate_left
      · simp only [Act.put, List.setIfInBounds_toArray, List.set_cons_zero, List.set_cons_succ]
        rfl
      refine take_ (i := 8) (N := some 50) (v := ?_) (a' := ?_) #[true, true, true, true, true, true, false, true, true, false, false, false, false, false, false, false, false, false, false, false, false, false, false, false] rfl rfl (by kernel_rfl) (fun _ _ _ h => h) (Or.inl ⟨by rfl, ?_⟩) hHeld ?_ ?_
      rotate_left
      · rintro w' ⟨s0, s1, s2, s3⟩
        go_simp
        with_reducible rfl
      rotate_left
      · simp only [Act.put, List.setIfInBounds_toArray, List.set_cons_zero, List.set_cons_succ]
        rfl
      refine take_ (i := 9) (N := some 51) (v := ?_) (a' := ?_) #[true, true, true, true, true, true, false, true, true, true, false, false, false, false, false, false, false, false, false, false, false, false, false, false] rfl rfl (by kernel_rfl) (fun _ _ _ h => h) (Or.inl ⟨by rfl, ?_⟩) hHeld ?_ ?_
      rotate_left
      · rintro w' ⟨s0, s1, s2, s3⟩
        go_simp
        with_reducible rfl
      rotate_left
      · simp only [Act.put, List.setIfInBounds_toArray, List.set_cons_zero, List.set_cons_succ]
        rfl
      refine take_ (i := 10) (N := some 52) (v := ?_) (a' := ?_) #[true, true, true, true, true, true, false, true, true, true, true, false, false, false, false, false, false, false, false, false, false, false, false, false] rfl rfl (by kernel_rfl) (fun _ _ _ h => h) (Or.inl ⟨by rfl, ?_⟩) hHeld ?_ ?_
      rotate_left
      · rintro w' ⟨s0, s1, s2, s3⟩
        go_simp
        with_reducible rfl
      rotate_left
      · simp only [Act.put, List.setIfInBounds_toArray, List.set_cons_zero, List.set_cons_succ]
        rfl
      refine take_ (i := 11) (N := some 53) (v := ?_) (a' := ?_) #[true, true, true, true, true, true, false, true, true, true, true, true, false, false, false, false, false, false, false, false, false, false, false, false] rfl rfl (by kernel_rfl) (fun _ _ _ h => h) (Or.inl ⟨by rfl, ?_⟩) hHeld ?_ ?_
      rotate_left
      · rintro w' ⟨s0, s1, s2, s3⟩
        go_simp
        with_reducible rfl
      rotate_left
      · simp only [Act.put, List.setIfInBounds_toArray, List.set_cons_zero, List.set_cons_succ]
        rfl
      refine take_ (i := 12) (N := some 54) (v := ?_) (a' := ?_) #[true, true, true, true, true, true, false, true, true, true, true, true, true, false, false, false, false, false, false, false, false, false, false, false] rfl rfl (by kernel_rfl) (fun _ _ _ h => h) (Or.inl ⟨by rfl, ?_⟩) hHeld ?_ ?_
      rotate_left
      · rintro w' ⟨s0, s1, s2, s3⟩
        go_simp
        with_reducible rfl
      rotate_left
      · simp only [Act.put, List.setIfInBounds_toArray, List.set_cons_zero, List.set_cons_succ]
        rfl
      refine take_ (i := 14) (N := some 56) (v := ?_) (a' := ?_) #[true, true, true, true, true, true, false, true, true, true, true, true, true, false, true, false, false, false, false, false, false, false, false, false] rfl rfl (by kernel_rfl) (fun _ _ _ h => h) (Or.inl ⟨by rfl, ?_⟩) hHeld ?_ ?_
      rotate_left
      · rintro w' ⟨s0, s1, s2, s3⟩
        go_simp
        with_reducible rfl
      rotate_left
      · simp only [Act.put, List.setIfInBounds_toArray, List.set_cons_zero, List.set_cons_succ]
        rfl
      refine take_ (i := 15) (N := some 57) (v := ?_) (a' := ?_) #[true, true, true, true, true, true, false, true, true, true, true, true, true, false, true, true, false, false, false, false, false, false, false, false] rfl rfl (by kernel_rfl) (fun _ _ _ h => h) (Or.inl ⟨by rfl, ?_⟩) hHeld ?_ ?_
      rotate_left
      · rintro w' ⟨s0, s1, s2, s3⟩
        go_simp
        with_reducible rfl
      rotate_left
      · simp only [Act.put, List.setIfInBounds_toArray, List.set_cons_zero, List.set_cons_succ]
        rfl
      refine take_ (i := 16) (N := some 58) (v := ?_) (a' := ?_) #[true, true, true, true, true, true, false, true, true, true, true, true, true, false, true, true, true, false, false, false, false, false, false, false] rfl rfl (by kernel_rfl) (fun _ _ _ h => h) (Or.inl ⟨by rfl, ?_⟩) hHeld ?_ ?_
      rotate_left
      · rintro w' ⟨s0, s1, s2, s3⟩
        go_simp
        with_reducible rfl
      rotate_left
      · simp only [Act.put, List.setIfInBounds_toArray, List.set_cons_zero, List.set_cons_succ]
        rfl
      refine take_ (i := 17) (N := some 59) (v := ?_) (a' := ?_) #[true, true, true, true, true, true, false, true, true, true, true, true, true, false, true, true, true, true, false, false, false, false, false, false] rfl rfl (by kernel_rfl) (fun _ _ _ h => h) (Or.inl ⟨by rfl, ?_⟩) hHeld ?_ ?_
      rotate_left
      · rintro w' ⟨s0, s1, s2, s3⟩
        go_simp
        with_reducible rfl
      rotate_left
      · simp only [Act.put, List.setIfInBounds_toArray, List.set_cons_zero, List.set_cons_succ]
        rfl
      refine take_ (i := 18) (N := some 60) (v := ?_) (a' := ?_) #[true, true, true, true, true, true, false, true, true, true, true, true, true, false, true, true, true, true, true, false, false, false, false, false] rfl rfl (by kernel_rfl) (fun _ _ _ h => h) (Or.inl ⟨by rfl, ?_⟩) hHeld ?_ ?_
      rotate_left
      · rintro w' ⟨s0, s1, s2, s3⟩
        go_simp
        with_reducible rfl
      rotate_left
      · simp only [Act.put, List.setIfInBounds_toArray, List.set_cons_zero, List.set_cons_succ]
        rfl
      refine take_ (i := 19) (N := some 61) (v := ?_) (a' := ?_) #[true, true, true, true, true, true, false, true, true, true, true, true, true, false, true, true, true, true, true, true, false, false, false, false] rfl rfl (by kernel_rfl) (fun _ _ _ h => h) (Or.inl ⟨by rfl, ?_⟩) hHeld ?_ ?_
      rotate_left
      · rintro w' ⟨s0, s1, s2, s3⟩
        go_simp
        with_reducible rfl
      rotate_left
      · simp only [Act.put, List.setIfInBounds_toArray, List.set_cons_zero, List.set_cons_succ]
        rfl
      refine one_ (i := 6) (N := some 48) #[true, true, true, true, true, true, true, true, true, true, true, true, true, false, true, true, true, true, true, true, false, false, false, false] rfl rfl (by kernel_rfl) (by decide) (fun K hK => ?_)
      refine append_rows_step Kd.string (w0 := w3) w3.heap.size (by rfl) (.tmp 42) (.tmp 47) 22 9 (.string ⟨#[]⟩) 16 (by rfl) Try.underlying22 ThreeString.infoE rfl (by decide) (by omega) u10 X O D1 O.length d1 (fun _ => True) (fun _ => False) (by rfl) (by rfl) HW.out.rx ((RD1.out.below (HBr.out)).1) (fun _ _ h => h) (fun _ h => h.elim) (fun _ _ => trivial) HW.out.below hsD (by omega) ?_
      intro vx1 q1 hox hbx hgx hax
      have HWx : Hid (WM w3 vx1 u11 u12 (X ++ O) Y Z q1) := Lib.hid ⟨hox, R_other HW.out.ry hgx HW.out.xy.symm, R_other HW.out.rz hgx HW.out.xz.symm, D2_of_at HW.out.ry HW.out.xy hax, D2_of_at HW.out.rz HW.out.xz hax, HW.out.yz, hbx⟩
      have hs1 := hbx.size
      have hh := K3.out _ hbx
      clear hox hbx hgx hax
      refine hK.out _ _ hh (fun hHeld => ?_)
      clear hK K
      try simp only [Act.put, List.setIfInBounds_toArray, List.set_cons_zero, List.set_cons_succ]
      refine one_ (i := 13) (N := some 55) #[true, true, true, true, true, true, true, true, true, true, true, true, true, true, true, true, true, true, true, true, false, false, false, false] rfl rfl (by kernel_rfl) (by decide) (fun K hK => ?_)
      refine append_rows_step Kd.string (w0 := w3) w3.heap.size (by rfl) (.tmp 49) (.tmp 54) 22 9 (.string ⟨#[]⟩) 16 (by rfl) Try.underlying22 ThreeString.infoE rfl (by decide) (by omega) u11 Y P D2' P.length d2 (fun _ => True) (fun _ => False) (by rfl) (by rfl) HWx.out.ry ((RD2.out.below HWx.out.below).1) (fun _ _ h => h) (fun _ h => h.elim) (fun _ _ => trivial) HWx.out.below hs1 (by omega) ?_
      intro vy1 q2 hox hbx hgx hax
      have HWy : Hid (WM w3 vx1 vy1 u12 (X ++ O) (Y ++ P) Z q2) := Lib.hid ⟨R_other HWx.out.rx hgx HWx.out.xy, hox, R_other HWx.out.rz hgx HWx.out.yz.symm, (D2_of_at HWx.out.rx HWx.out.xy.symm hax).symm, HWx.out.xz, D2_of_at HWx.out.rz HWx.out.yz hax, hbx⟩
      have hs2 := hbx.size
      have hh := K3.out _ hbx
      clear hox hbx hgx hax
      refine hK.out _ _ hh (fun hHeld => ?_)
      clear hK K
      try simp only [Act.put, List.setIfInBounds_toArray, List.set_cons_zero, List.set_cons_succ]
      refine one_ (i := 20) (N := some 62) #[true, true, true, true, true, true, true, true, true, true, true, true, true, true, true, true, true, true, true, true, true, false, false, false] rfl rfl (by kernel_rfl) (by decide) (fun K hK => ?_)
      refine append_rows_step Kd.string (w0 := w3) w3.heap.size (by rfl) (.tmp 56) (.tmp 61) 22 9 (.string ⟨#[]⟩) 16 (by rfl) Try.underlying22 ThreeString.infoE rfl (by decide) (by omega) u12 Z Q D3 Q.length d3 (fun _ => True) (fun _ => False) (by rfl) (by rfl) HWy.out.rz ((RD3.out.below HWy.out.below).1) (fun _ _ h => h) (fun _ h => h.elim) (fun _ _ => trivial) HWy.out.below hs2 (by omega) ?_
      intro vz1 q3 hox hbx hgx hax
      have HWz : Hid (WM w3 vx1 vy1 vz1 (X ++ O) (Y ++ P) (Z ++ Q) q3) := Lib.hid ⟨R_other HWy.out.rx hgx HWy.out.xz, R_other HWy.out.ry hgx HWy.out.yz, hox, HWy.out.xy, (D2_of_at HWy.out.rx HWy.out.xz.symm hax).symm, (D2_of_at HWy.out.ry HWy.out.yz.symm hax).symm, hbx⟩
      have hs3 := hbx.size
      have hh := K3.out _ hbx
      clear hox hbx hgx hax
      refine hK.out _ _ hh (fun hHeld => ?_)
      clear hK K
      try simp only [Act.put, List.setIfInBounds_toArray, List.set_cons_zero, List.set_cons_succ]
      refine one_ (i := 21) (N := some 10) #[true, true, true, true, true, true, true, true, true, true, true, true, true, true, true, true, true, true, true, true, true, true, false, false] rfl rfl (by kernel_rfl) (by decide) (fun K hK => ?_)
      go_simp
      refine hK.out _ _ hh (fun hHeld => ?_)
      clear hK K
      try simp only [Act.put, List.setIfInBounds_toArray, List.set_cons_zero, List.set_cons_succ]
      refine one_ (i := 22) (N := some 11) #[true, true, true, true, true, true, true, true, true, true, true, true, true, true, true, true, true, true, true, true, true, true, true, false] rfl rfl (by kernel_rfl) (by decide) (fun K hK => ?_)
      go_simp
      refine hK.out _ _ hh (fun hHeld => ?_)
      clear hK K
      try simp only [Act.put, List.setIfInBounds_toArray, List.set_cons_zero, List.set_cons_succ]
      refine one_ (i := 23) (N := some 12) #[true, true, true, true, true, true, true, true, true, true, true, true, true, true, true, true, true, true, true, true, true, true, true, true] rfl rfl (by kernel_rfl) (by decide) (fun K hK => ?_)
      go_simp
      refine hK.out _ _ hh (fun hHeld => ?_)
      clear hK K
      try simp only [Act.put, List.setIfInBounds_toArray, List.set_cons_zero, List.set_cons_succ]
      refine done_ (by kernel_rfl) ?_
      refine NoPanic.normal ?_
      have HBx := Lib.hid HWz.out.below
      obtain ⟨k0, k1, k2, k3⟩ := K3.out _ HBx.out
      clear hh hHeld
      go_wp2_with fail
      have RE1 := Lib.hid (RD1.out.below HBx.out)
      have RE2 := Lib.hid (RD2.out.below HBx.out)
      have RE3 := Lib.hid (RD3.out.below HBx.out)
      have HC := Lib.hid (ThreeString.drewn q3)
      go_region_held3 (fun w' => w'.cell? (ad.add (i * 4)) = some (.bool cf) ∧ w'.cell? ⟨(ad.add (i * 4)).block, (ad.add (i * 4)).off + 1, none⟩ = some (.slice D1 O.length d1) ∧ w'.cell? ⟨(ad.add (i * 4)).block, (ad.add (i * 4)).off + 2, none⟩ = some (.slice D2' P.length d2) ∧ w'.cell? ⟨(ad.add (i * 4)).block, (ad.add (i * 4)).off + 3, none⟩ = some (.slice D3 Q.length d3))
        (first | exact K3.out _ (HBx.out.trans (HC.out.mono hs3)))
        (first
          | (with_reducible refine Calls.mono (same_tx D1 D2' d1 d2 O P _ (RE1.out.below HC.out) (RE2.out.below HC.out) (by omega) tc HTC.out) ?_; rintro e q4 ⟨rfl, hb⟩; replace HC := Lib.hid (HC.out.trans (hb.mono HC.out.size)); clear hb)
          | (with_reducible refine Calls.mono (same_tx D1 D3 d1 d3 O Q _ (RE1.out.below HC.out) (RE3.out.below HC.out) (by omega) td HTD.out) ?_; rintro e q4 ⟨rfl, hb⟩; replace HC := Lib.hid (HC.out.trans (hb.mono HC.out.size)); clear hb)
          | (with_reducible refine Calls.mono (same_tx D2' D3 d2 d3 P Q _ (RE2.out.below HC.out) (RE3.out.below HC.out) (by omega) te HTE.out) ?_; rintro e q4 ⟨rfl, hb⟩; replace HC := Lib.hid (HC.out.trans (hb.mono HC.out.size)); clear hb))
      replace HWz := Lib.hid (HWz.out.made HC.out)
      replace HBx := Lib.hid HWz.out.below
      obtain ⟨k0, k1, k2, k3⟩ := K3.out _ HBx.out
      clear HC K3 RE1 RE2 RE3 HTD HTE
      cases tc with
      | true =>
        cases td with
        | true =>
          cases te with
          | true =>
            obtain rfl : cf = false := HCF.out
            have hch : Three.chosen O P Q = Q := by rw [← piece_chosen _ _ _ HCl.out.symm, ← HTC.out]; rfl
            have h := HSt.out
            rw [if_neg (by decide)] at h
            obtain ⟨r, hr, hrm⟩ := Option.map_eq_some_iff.1 h
            simp only [hch] at hrm
            have hN := HN.out
            have hlm := congrArg List.length hrm
            rw [List.length_append, List.length_drop] at hlm
            obtain ⟨A9, c9, hsl, htx⟩ := mid_tx A1 c1 mm Q n (by rw [List.drop_take, ← hrm, Nat.add_sub_cancel_left, List.take_left']; rfl) (by omega) HT1.out.2
            have ht : decide ((mm.length : Int) < (n : Int) + (Q.length : Int)) = false := by simp; omega
            have HR9 := Lib.hid hr
            have HRM := Lib.hid hrm
            have HTX := Lib.hid htx
            have hn9 : n + Q.length ≤ mm.length := by omega
            clear h hr hrm hlm htx hch hN HSt
            go_wp2_with fail
            with_reducible refine Calls.mono (same_tx A9 D3 c9 d3 Q Q _ (HTX.out _ (HT1.out.below HBx.out)) (RD3.out.below HBx.out) (by omega) true (by simp)) ?_
            rintro e q5 ⟨rfl, hb⟩
            replace HWz := Lib.hid (HWz.out.made hb)
            clear hb hsl
            go_wp2_with fail
            go_roundg (xs.length - (i + 1))
            case measure => have := HI.out; omega
            case rel => exact ⟨i + 1, n + Q.length, false, X ++ O, Y ++ P, Z ++ Q, by go_num, rfl, by go_num, Lib.hid (by have := HI.out; omega), by omega, by rw [List.length_append]; omega, by rw [List.length_append]; omega, by rw [List.length_append]; omega, HWz, Lib.hid (by rw [List.append_assoc]; exact HX.out), Lib.hid (by rw [List.append_assoc]; exact HY.out), Lib.hid (by rw [List.append_assoc]; exact HZ.out), Lib.hid (by rw [show mm.drop (n + Q.length) = r from by rw [← List.drop_drop, ← HRM.out, List.drop_left]]; exact HR9.out), Lib.hid hn9, rfl⟩
          | false =>
            obtain rfl : cf = false := HCF.out
            have hch : Three.chosen O P Q = Q := by rw [← piece_chosen _ _ _ HCl.out.symm, ← HTC.out]; rfl
            have h := HSt.out
            rw [if_neg (by decide)] at h
            obtain ⟨r, hr, hrm⟩ := Option.map_eq_some_iff.1 h
            simp only [hch] at hrm
            have hN := HN.out
            have hlm := congrArg List.length hrm
            rw [List.length_append, List.length_drop] at hlm
            obtain ⟨A9, c9, hsl, htx⟩ := mid_tx A1 c1 mm Q n (by rw [List.drop_take, ← hrm, Nat.add_sub_cancel_left, List.take_left']; rfl) (by omega) HT1.out.2
            have ht : decide ((mm.length : Int) < (n : Int) + (Q.length : Int)) = false := by simp; omega
            have HR9 := Lib.hid hr
            have HRM := Lib.hid hrm
            have HTX := Lib.hid htx
            have hn9 : n + Q.length ≤ mm.length := by omega
            clear h hr hrm hlm htx hch hN HSt
            go_wp2_with fail
            with_reducible refine Calls.mono (same_tx A9 D3 c9 d3 Q Q _ (HTX.out _ (HT1.out.below HBx.out)) (RD3.out.below HBx.out) (by omega) true (by simp)) ?_
            rintro e q5 ⟨rfl, hb⟩
            replace HWz := Lib.hid (HWz.out.made hb)
            clear hb hsl
            go_wp2_with fail
            go_roundg (xs.length - (i + 1))
            case measure => have := HI.out; omega
            case rel => exact ⟨i + 1, n + Q.length, false, X ++ O, Y ++ P, Z ++ Q, by go_num, rfl, by go_num, Lib.hid (by have := HI.out; omega), by omega, by rw [List.length_append]; omega, by rw [List.length_append]; omega, by rw [List.length_append]; omega, HWz, Lib.hid (by rw [List.append_assoc]; exact HX.out), Lib.hid (by rw [List.append_assoc]; exact HY.out), Lib.hid (by rw [List.append_assoc]; exact HZ.out), Lib.hid (by rw [show mm.drop (n + Q.length) = r from by rw [← List.drop_drop, ← HRM.out, List.drop_left]]; exact HR9.out), Lib.hid hn9, rfl⟩
        | false =>
          cases te with
          | true =>
            obtain rfl : cf = false := HCF.out
            have hch : Three.chosen O P Q = Q := by rw [← piece_chosen _ _ _ HCl.out.symm, ← HTC.out]; rfl
            have h := HSt.out
            rw [if_neg (by decide)] at h
            obtain ⟨r, hr, hrm⟩ := Option.map_eq_some_iff.1 h
            simp only [hch] at hrm
            have hN := HN.out
            have hlm := congrArg List.length hrm
            rw [List.length_append, List.length_drop] at hlm
            obtain ⟨A9, c9, hsl, htx⟩ := mid_tx A1 c1 mm Q n (by rw [List.drop_take, ← hrm, Nat.add_sub_cancel_left, List.take_left']; rfl) (by omega) HT1.out.2
            have ht : decide ((mm.length : Int) < (n : Int) + (Q.length : Int)) = false := by simp; omega
            have HR9 := Lib.hid hr
            have HRM := Lib.hid hrm
            have HTX := Lib.hid htx
            have hn9 : n + Q.length ≤ mm.length := by omega
            clear h hr hrm hlm htx hch hN HSt
            go_wp2_with fail
            with_reducible refine Calls.mono (same_tx A9 D3 c9 d3 Q Q _ (HTX.out _ (HT1.out.below HBx.out)) (RD3.out.below HBx.out) (by omega) true (by simp)) ?_
            rintro e q5 ⟨rfl, hb⟩
            replace HWz := Lib.hid (HWz.out.made hb)
            clear hb hsl
            go_wp2_with fail
            go_roundg (xs.length - (i + 1))
            case measure => have := HI.out; omega
            case rel => exact ⟨i + 1, n + Q.length, false, X ++ O, Y ++ P, Z ++ Q, by go_num, rfl, by go_num, Lib.hid (by have := HI.out; omega), by omega, by rw [List.length_append]; omega, by rw [List.length_append]; omega, by rw [List.length_append]; omega, HWz, Lib.hid (by rw [List.append_assoc]; exact HX.out), Lib.hid (by rw [List.append_assoc]; exact HY.out), Lib.hid (by rw [List.append_assoc]; exact HZ.out), Lib.hid (by rw [show mm.drop (n + Q.length) = r from by rw [← List.drop_drop, ← HRM.out, List.drop_left]]; exact HR9.out), Lib.hid hn9, rfl⟩
          | false =>
            obtain rfl : cf = false := HCF.out
            have hch : Three.chosen O P Q = Q := by rw [← piece_chosen _ _ _ HCl.out.symm, ← HTC.out]; rfl
            have h := HSt.out
            rw [if_neg (by decide)] at h
            obtain ⟨r, hr, hrm⟩ := Option.map_eq_some_iff.1 h
            simp only [hch] at hrm
            have hN := HN.out
            have hlm := congrArg List.length hrm
            rw [List.length_append, List.length_drop] at hlm
            obtain ⟨A9, c9, hsl, htx⟩ := mid_tx A1 c1 mm Q n (by rw [List.drop_take, ← hrm, Nat.add_sub_cancel_left, List.take_left']; rfl) (by omega) HT1.out.2
            have ht : decide ((mm.length : Int) < (n : Int) + (Q.length : Int)) = false := by simp; omega
            have HR9 := Lib.hid hr
            have HRM := Lib.hid hrm
            have HTX := Lib.hid htx
            have hn9 : n + Q.length ≤ mm.length := by omega
            clear h hr hrm hlm htx hch hN HSt
            go_wp2_with fail
            with_reducible refine Calls.mono (same_tx A9 D3 c9 d3 Q Q _ (HTX.out _ (HT1.out.below HBx.out)) (RD3.out.below HBx.out) (by omega) true (by simp)) ?_
            rintro e q5 ⟨rfl, hb⟩
            replace HWz := Lib.hid (HWz.out.made hb)
            clear hb hsl
            go_wp2_with fail
            go_roundg (xs.length - (i + 1))
            case measure => have := HI.out; omega
            case rel => exact ⟨i + 1, n + Q.length, false, X ++ O, Y ++ P, Z ++ Q, by go_num, rfl, by go_num, Lib.hid (by have := HI.out; omega), by omega, by rw [List.length_append]; omega, by rw [List.length_append]; omega, by rw [List.length_append]; omega, HWz, Lib.hid (by rw [List.append_assoc]; exact HX.out), Lib.hid (by rw [List.append_assoc]; exact HY.out), Lib.hid (by rw [List.append_assoc]; exact HZ.out), Lib.hid (by rw [show mm.drop (n + Q.length) = r from by rw [← List.drop_drop, ← HRM.out, List.drop_left]]; exact HR9.out), Lib.hid hn9, rfl⟩
      | false =>
        cases td with
        | true =>
          cases te with
          | true =>
            obtain rfl : cf = false := HCF.out
            have hch : Three.chosen O P Q = P := by rw [← piece_chosen _ _ _ HCl.out.symm, ← HTC.out]; rfl
            have h := HSt.out
            rw [if_neg (by decide)] at h
            obtain ⟨r, hr, hrm⟩ := Option.map_eq_some_iff.1 h
            simp only [hch] at hrm
            have hN := HN.out
            have hlm := congrArg List.length hrm
            rw [List.length_append, List.length_drop] at hlm
            obtain ⟨A9, c9, hsl, htx⟩ := mid_tx A1 c1 mm P n (by rw [List.drop_take, ← hrm, Nat.add_sub_cancel_left, List.take_left']; rfl) (by omega) HT1.out.2
            have ht : decide ((mm.length : Int) < (n : Int) + (P.length : Int)) = false := by simp; omega
            have HR9 := Lib.hid hr
            have HRM := Lib.hid hrm
            have HTX := Lib.hid htx
            have hn9 : n + P.length ≤ mm.length := by omega
            clear h hr hrm hlm htx hch hN HSt
            go_wp2_with fail
            with_reducible refine Calls.mono (same_tx A9 D2' c9 d2 P P _ (HTX.out _ (HT1.out.below HBx.out)) (RD2.out.below HBx.out) (by omega) true (by simp)) ?_
            rintro e q5 ⟨rfl, hb⟩
            replace HWz := Lib.hid (HWz.out.made hb)
            clear hb hsl
            go_wp2_with fail
            go_roundg (xs.length - (i + 1))
            case measure => have := HI.out; omega
            case rel => exact ⟨i + 1, n + P.length, false, X ++ O, Y ++ P, Z ++ Q, by go_num, rfl, by go_num, Lib.hid (by have := HI.out; omega), by omega, by rw [List.length_append]; omega, by rw [List.length_append]; omega, by rw [List.length_append]; omega, HWz, Lib.hid (by rw [List.append_assoc]; exact HX.out), Lib.hid (by rw [List.append_assoc]; exact HY.out), Lib.hid (by rw [List.append_assoc]; exact HZ.out), Lib.hid (by rw [show mm.drop (n + P.length) = r from by rw [← List.drop_drop, ← HRM.out, List.drop_left]]; exact HR9.out), Lib.hid hn9, rfl⟩
          | false =>
            obtain rfl : cf = false := HCF.out
            have hch : Three.chosen O P Q = P := by rw [← piece_chosen _ _ _ HCl.out.symm, ← HTC.out]; rfl
            have h := HSt.out
            rw [if_neg (by decide)] at h
            obtain ⟨r, hr, hrm⟩ := Option.map_eq_some_iff.1 h
            simp only [hch] at hrm
            have hN := HN.out
            have hlm := congrArg List.length hrm
            rw [List.length_append, List.length_drop] at hlm
            obtain ⟨A9, c9, hsl, htx⟩ := mid_tx A1 c1 mm P n (by rw [List.drop_take, ← hrm, Nat.add_sub_cancel_left, List.take_left']; rfl) (by omega) HT1.out.2
            have ht : decide ((mm.length : Int) < (n : Int) + (P.length : Int)) = false := by simp; omega
            have HR9 := Lib.hid hr
            have HRM := Lib.hid hrm
            have HTX := Lib.hid htx
            have hn9 : n + P.length ≤ mm.length := by omega
            clear h hr hrm hlm htx hch hN HSt
            go_wp2_with fail
            with_reducible refine Calls.mono (same_tx A9 D2' c9 d2 P P _ (HTX.out _ (HT1.out.below HBx.out)) (RD2.out.below HBx.out) (by omega) true (by simp)) ?_
            rintro e q5 ⟨rfl, hb⟩
            replace HWz := Lib.hid (HWz.out.made hb)
            clear hb hsl
            go_wp2_with fail
            go_roundg (xs.length - (i + 1))
            case measure => have := HI.out; omega
            case rel => exact ⟨i + 1, n + P.length, false, X ++ O, Y ++ P, Z ++ Q, by go_num, rfl, by go_num, Lib.hid (by have := HI.out; omega), by omega, by rw [List.length_append]; omega, by rw [List.length_append]; omega, by rw [List.length_append]; omega, HWz, Lib.hid (by rw [List.append_assoc]; exact HX.out), Lib.hid (by rw [List.append_assoc]; exact HY.out), Lib.hid (by rw [List.append_assoc]; exact HZ.out), Lib.hid (by rw [show mm.drop (n + P.length) = r from by rw [← List.drop_drop, ← HRM.out, List.drop_left]]; exact HR9.out), Lib.hid hn9, rfl⟩
        | false =>
          cases te with
          | true =>
            obtain rfl : cf = false := HCF.out
            have hch : Three.chosen O P Q = P := by rw [← piece_chosen _ _ _ HCl.out.symm, ← HTC.out]; rfl
            have h := HSt.out
            rw [if_neg (by decide)] at h
            obtain ⟨r, hr, hrm⟩ := Option.map_eq_some_iff.1 h
            simp only [hch] at hrm
            have hN := HN.out
            have hlm := congrArg List.length hrm
            rw [List.length_append, List.length_drop] at hlm
            obtain ⟨A9, c9, hsl, htx⟩ := mid_tx A1 c1 mm P n (by rw [List.drop_take, ← hrm, Nat.add_sub_cancel_left, List.take_left']; rfl) (by omega) HT1.out.2
            have ht : decide ((mm.length : Int) < (n : Int) + (P.length : Int)) = false := by simp; omega
            have HR9 := Lib.hid hr
            have HRM := Lib.hid hrm
            have HTX := Lib.hid htx
            have hn9 : n + P.length ≤ mm.length := by omega
            clear h hr hrm hlm htx hch hN HSt
            go_wp2_with fail
            with_reducible refine Calls.mono (same_tx A9 D2' c9 d2 P P _ (HTX.out _ (HT1.out.below HBx.out)) (RD2.out.below HBx.out) (by omega) true (by simp)) ?_
            rintro e q5 ⟨rfl, hb⟩
            replace HWz := Lib.hid (HWz.out.made hb)
            clear hb hsl
            go_wp2_with fail
            go_roundg (xs.length - (i + 1))
            case measure => have := HI.out; omega
            case rel => exact ⟨i + 1, n + P.length, false, X ++ O, Y ++ P, Z ++ Q, by go_num, rfl, by go_num, Lib.hid (by have := HI.out; omega), by omega, by rw [List.length_append]; omega, by rw [List.length_append]; omega, by rw [List.length_append]; omega, HWz, Lib.hid (by rw [List.append_assoc]; exact HX.out), Lib.hid (by rw [List.append_assoc]; exact HY.out), Lib.hid (by rw [List.append_assoc]; exact HZ.out), Lib.hid (by rw [show mm.drop (n + P.length) = r from by rw [← List.drop_drop, ← HRM.out, List.drop_left]]; exact HR9.out), Lib.hid hn9, rfl⟩
          | false =>
            obtain rfl : cf = true := HCF.out
            exact absurd HSt.out (by simp)
    · have hi : i = xs.length := by have := HI.out; omega
      subst hi
      rw [List.drop_length, List.map_nil, List.flatten_nil, List.append_nil] at HX HY HZ
      rw [List.drop_length, List.map_nil, Three.merged] at HSt
      have eX : o = X := HX.out.symm
      have eY : a = Y := HY.out.symm
      have eZ : b = Z := HZ.out.symm
      clear HX HY HZ
      subst eX
      subst eY
      subst eZ
      have hn2 : n = mm.length := by have h1 := congrArg List.length (Option.some.inj HSt.out); have h2 := HN.out; rw [List.length_drop] at h1; simp at h1; omega
      clear HSt HN
      subst hn2
      obtain ⟨Ax, cx, rfl, hxT⟩ := tx_of_R HW.out.rx
      obtain ⟨Ay, cy, rfl, hyT⟩ := tx_of_R HW.out.ry
      obtain ⟨Az, cz, rfl, hzT⟩ := tx_of_R HW.out.rz
      have HXT := Lib.hid hxT
      have HYT := Lib.hid hyT
      have HZT := Lib.hid hzT
      replace HO := Lib.hid (HO.out.below HW.out.below)
      replace HA := Lib.hid (HA.out.below HW.out.below)
      replace HBb := Lib.hid (HBb.out.below HW.out.below)
      replace HB := Lib.hid (HB.out.trans (HW.out.below.mono HB.out.size))
      clear hxT hyT hzT HW HP HXs HWh HT1
      go_wp2_with fail
      refine (same_tx Ax A cx c o o _ HXT.out HO.out (by omega) true (by simp)).mono ?_
      rintro e w6 ⟨rfl, hb⟩
      replace HYT := Lib.hid (HYT.out.below hb)
      replace HZT := Lib.hid (HZT.out.below hb)
      replace HA := Lib.hid (HA.out.below hb)
      replace HBb := Lib.hid (HBb.out.below hb)
      replace HB := Lib.hid (HB.out.trans (hb.mono HB.out.size))
      clear hb HXT HO
      go_wp2_with fail
      refine (same_tx Ay B cy d a a _ HYT.out HA.out (by omega) true (by simp)).mono ?_
      rintro e w7 ⟨rfl, hb⟩
      replace HZT := Lib.hid (HZT.out.below hb)
      replace HBb := Lib.hid (HBb.out.below hb)
      replace HB := Lib.hid (HB.out.trans (hb.mono HB.out.size))
      clear hb HYT HA
      go_wp2_with fail
      refine (same_tx Az D cz f b b _ HZT.out HBb.out (by omega) true (by simp)).mono ?_
      rintro e w8 ⟨rfl, hb⟩
      replace HB := Lib.hid (HB.out.trans (hb.mono HB.out.size))
      clear hb HZT HBb
      go_wp2_with fail
      refine (awake5 _).mono ?_
      rintro e w9 ⟨rfl, hb⟩
      replace HB := Lib.hid (HB.out.trans (hb.mono HB.out.size))
      clear hb
      go_wp2
      go_ret
      exact ⟨rfl, HB.out⟩
theorem whole_law (A : Option Addr) (c : Nat) (o : List ByteArray) (B : Option Addr) (d : Nat) (a : List ByteArray) (D : Option Addr) (f : Nat) (b : List ByteArray) (w : World)
    (hz : CellsT w A o) (hnil : A = none → o.length = 0 ∧ c = 0) (hc : o.length ≤ c) (hb : o.length * 16 ≤ 140737488351232) (hz' : CellsT w B a) (hnil' : B = none → a.length = 0 ∧ d = 0) (hd : a.length ≤ d) (hb' : a.length * 16 ≤ 140737488351232) (hz'' : CellsT w D b) (hnil'' : D = none → b.length = 0 ∧ f = 0) (hf : b.length ≤ f) (hb'' : b.length * 16 ≤ 140737488351232) :
    Calls Try.prog 4 #[.slice A o.length c, .slice B a.length d, .slice D b.length f] w fun e w' => e = .returned (.bool true) ∧ Below w.heap.size w w' := by
  have ho := tx_of_cells hz hb hc
  have ha := tx_of_cells hz' hb' hd
  have hb := tx_of_cells hz'' hb'' hf
  obtain ⟨g, hg, hG⟩ := great_tx A B D c d f o a b w ho ha hb
  cases g with
  | true => exact whole_long A B D c d f _ _ _ w hG
  | false =>
    obtain ⟨l0, l1, l2⟩ := hg rfl
    rcases hm : Three.merge o a b with _ | mm
    · exact whole_none A B D c d f o a b w ho ha hb hG l0 l1 l2 hm
    · exact whole_some A B D c d f o a b mm w ho ha hb hG l0 l1 l2 hm
end Go.Proofs.Ytgcjejepahdjgaa.SeqS
