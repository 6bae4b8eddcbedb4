/- The walk of the law ThreeNumbers answers true, whatever the lists. -/
import Derived.Test.YtgcjejepahdjgaaDoorThreeSay
import Derived.Test.YtgcjejepahdjgaaDoorNum
import Derived.Outline
import Derived.Maps.AppendAt
import Derived.WalkSpells
import Derived.OwnWalk
import Derived.RangeFuncRecord
namespace Go.Proofs.YtgcjejepahdjgaaDoor.SeqS
open Go.RowKit Go.Shelf Go.Proofs.YtgcjejepahdjgaaDoor.PRef Go.Proofs.YtgcjejepahdjgaaDoorW.PrintWords Go.Proofs.YtgcjejepahdjgaaDoor.Num
attribute [local go_sem] Oper.semAt_some
set_option linter.unusedVariables false
set_option linter.unusedSimpArgs false
/-- Numbers that are read. -/
def IX (W : World) (A : Option Addr) (c : Nat) (l : List Int) : Prop := Kd.C (Kd.int .i64) W A l.length l ∧ l.length ≤ c
theorem IX.below {W W' : World} {A : Option Addr} {c : Nat} {l : List Int} (h : IX W A c l) (hb : Below W.heap.size W W') : IX W' A c l := ⟨Kd.C_below h.1 hb, h.2⟩
theorem IX.at_ {W : World} {A : Option Addr} {c : Nat} {l : List Int} (h : IX W A c l) (k : Nat) (hk : k < l.length) : ∃ ad, A = some ad ∧ (ad.add k).block < W.heap.size ∧ W.cell? (ad.add k) = some (.int .i64 l[k]) := by
  obtain ⟨ad, e, hc⟩ := ReadsOf.at_ (Kd.reads_of_C (d := (0 : Int)) h.1) (k : Int) (by omega) (by omega)
  have hc' : W.cell? (ad.add k) = some (.int .i64 l[k]) := by
    rw [Int.toNat_natCast] at hc
    rw [hc]
    simp [rdOf, List.getD_eq_getElem?_getD, hk]
  exact ⟨ad, e, World.block_lt_of_cell? W _ hc', hc'⟩
/-- The numbers lie in W. -/
def CellsI (W : World) (A : Option Addr) (zs : List Int) : Prop :=
  zs = [] ∨ ∃ b off, A = some ⟨b, off, none⟩ ∧ b < W.heap.size ∧ ∀ j (h : j < zs.length), W.cell? ⟨b, off + j, none⟩ = some (.int .i64 zs[j])
theorem CellsI.ix {W : World} {A : Option Addr} {c : Nat} {l : List Int} (h : CellsI W A l) (hl : l.length ≤ 1000000) (hc : l.length ≤ c) : IX W A c l := by
  refine ⟨Kd.C_of_reads (enc := Value.int .i64) (d := (0 : Int)) (h1 := fun _ => rfl) ⟨rfl, by omega, fun hp => ?_⟩, hc⟩
  rcases h with rfl | ⟨g, off, e, hg, hcc⟩
  · simp at hp
  · exact ⟨_, e, fun j hj => by rw [Addr.add_lit, hcc j hj]; simp [List.getD_eq_getElem?_getD, hj]⟩
theorem tx_of_own {W : World} {n₀ : Nat} {v : Value} {l : List ByteArray} (h : W.ownsRow n₀ 9 1 v l.length (l.map Value.string)) : ∃ A c, v = .slice A l.length c ∧ TX W A c l := by
  have hr : Kd.R Kd.string 9 W n₀ (fun _ => True) v l := Kd.R_of_own (enc := Value.string) (h1 := fun _ => rfl) h (fun _ _ => trivial)
  exact tx_of_R hr
theorem gbN {W W' : World} (h : Below W.heap.size W W') (row : Option Nat) : W.grownBy W' row := ⟨h.os, h.tape, h.output, h.size, fun k hk _ => h.block k hk⟩
theorem own_belowN {W W' : World} {n₀ : Nat} {e : TypeId} {s : Nat} {v : Value} {n : Nat} {xs : List Value} (h : W.ownsRow n₀ e s v n xs) (hb : Below W.heap.size W W') : W'.ownsRow n₀ e s v n xs :=
  h.kept (gbN hb none) (by cases hv : v.ownBlock <;> simp)
theorem below_grownN {B : Nat} {w W W' : World} {tmp : Obj} {row : Option Nat} (h : Below B w W) (hg : (W.alloc tmp).grownBy W' row) (hB : B ≤ W.heap.size) (hr : ∀ k, row = some k → B ≤ k) : Below B w W' :=
  h.trans (((Below.refl _ W).alloc hB tmp).grown hg (by simp; omega) hr)
theorem infoSN : (Tryd.prog.info? 9).map (fun i => (i.zero, i.size, i.bytes)) = some (some (.string ⟨#[]⟩), 1, 16) := by kernel_rfl
theorem cell_oneN (w : World) (v : Value) (t : TypeId) : ∀ (j : Nat) u, ([v] : List Value)[j]? = some u → (w.alloc (.cells #[v] t)).cell? ((⟨w.heap.size, 0, none⟩ : Addr).add j) = some u := by
  intro j u hj
  rw [Addr.add_lit]
  have h := World.alloc_heap_new w (.cells #[v] t)
  simp only [World.cell?, h, Nat.zero_add]
  simpa using hj
/-- The texts of the first k. -/
def TxR (w : World) (xs : List Int) (k : Nat) (v : Value) (W : World) : Prop := W.ownsRow w.heap.size 9 1 v k (((xs.take k).map itoaB).map Value.string) ∧ Below w.heap.size w W
theorem txR_step {w W : World} {x : Int} {xs : List Int} {k : Nat} {v : Value} (hTk : xs.take (k + 1) = xs.take k ++ [x]) (h : W.ownsRow w.heap.size 9 1 v (k + 1) (((xs.take k).map itoaB).map Value.string ++ [.string (itoaB x)])) (hB : Below w.heap.size w W) : TxR w xs (k + 1) v W := by
  unfold TxR
  rw [hTk]
  exact ⟨by simpa using h, hB⟩
theorem txR_end {w W : World} {xs : List Int} {v : Value} (h : TxR w xs xs.length v W) : ∃ A c, v = .slice A (xs.map itoaB).length c ∧ TX W A c (xs.map itoaB) := by
  have h1 := h.1
  rw [List.take_length] at h1
  exact tx_of_own (by simpa using h1)
def TextsPost (X : List ByteArray) (w : World) (e : Ending) (w' : World) : Prop := ∃ A c, e = .returned (.slice A X.length c) ∧ TX w' A c X ∧ Below w.heap.size w w'
set_option maxHeartbeats 8000000 in
set_option maxRecDepth 100000 in
/-- texts. -/
theorem texts_calls (A : Option Addr) (c : Nat) (xs : List Int) (X : List ByteArray) (w : World) (hX : X = xs.map itoaB) (ha : IX w A c xs) (hl : xs.length ≤ 1000) (hwf : ∀ x ∈ xs, (Lit.int .i64 x).wf = true) (hT : Tab w) :
    Calls Tryd.prog 7 #[.slice A xs.length c] w (TextsPost X w) := by
  have HX := Lib.hid hX
  have HA := Lib.hid ha
  have HW := Lib.hid hwf
  have HT := Lib.hid hT
  obtain ⟨iS, hiS, yS0, yS1, yS2⟩ := info_parts infoSN
  clear hX ha hwf hT
  go_enter Tryd.func7, Tryd.ntmps7
  go_wp2_with fail
  go_loopw [3, 4] (fun v i wr => ∃ k : Nat, k ≤ xs.length ∧ i = .int .i64 k ∧ TxR w xs k v wr) (fun _ i _ => xs.length - (intOf i).toNat)
  case atStart => exact ⟨0, Nat.zero_le _, rfl, World.ownsRow_nil _ _ _ _, Below.refl _ _⟩
  case round =>
    obtain ⟨k, hk, rfl, hV, hB⟩ := hrel
    have HB := Lib.hid hB
    have HV := Lib.hid hV
    clear hV hB
    by_cases hlt : k < xs.length
    · obtain ⟨ad, rfl, hb, hcw⟩ := HA.out.at_ k hlt
      have hck : wr.cell? (ad.add k) = some (.int .i64 xs[k]) := (HB.out.cell hb).trans hcw
      have hwk : (Lit.int .i64 xs[k]).wf = true := HW.out _ (List.getElem_mem hlt)
      have HTk : Hid (xs.take (k + 1) = xs.take k ++ [xs[k]]) := List.take_succ_eq_append_getElem hlt
      have HT0 := Lib.hid (HT.out.block (HB.out.block 0 HT.out.lt))
      generalize xs[k] = x at hcw hck hwk HTk
      have hn0 := HB.out.size
      clear hcw
      go_wp2_with (first
        | (go_at_call 14; refine (itoa_calls x _ hwk HT0.out).mono ?_; rintro e w1 ⟨rfl, hb1⟩; have hn1 := Nat.le_trans hn0 hb1.size; have HB1 := Lib.hid (HB.out.trans (hb1.mono HB.out.size)); have HV1 := Lib.hid (own_belowN HV.out hb1); clear hb1 hck HV HB HT0 hn0)
        | (at_builtin; refine wpList_append_own _ rfl _ _ 26 rfl w.heap.size 9 iS (.string ⟨#[]⟩) 1 16 Tryd.underlying26 hiS yS0 yS1 yS2 rfl (by decide) _ _ _ rfl (HV1.out.alloc _) ⟨w1.heap.size, 0, none⟩ 1 1 [.string (itoaB x)] rfl rfl (cell_oneN _ _ _) (by simp [Value.oneCell']) (by unfold maxLen; omega) (by omega) (by simp; omega) ?_; intro v2 w2 hown' hgrow _; have HV2 := Lib.hid hown'; have HB2 := Lib.hid (below_grownN HB1.out hgrow hn1 (fun g e => (HV1.out.lt g e).1)); clear hown' hgrow HV1 HB1 hn1))
      exact ⟨⟨k + 1, by omega, by simp, txR_step HTk.out HV2.out HB2.out⟩, by simp [intOf]; omega⟩
    · obtain rfl : k = xs.length := by omega
      obtain ⟨A1, c1, rfl, hCx⟩ := txR_end ⟨HV.out, HB.out⟩
      rw [← HX.out] at hCx ⊢
      have HCx := Lib.hid hCx
      clear hCx
      go_wp2
      go_ret
      exact ⟨A1, c1, rfl, HCx.out, HB.out⟩
/-- What is merged is of the two. -/
theorem merged_mem {β : Type} [DecidableEq β] : ∀ (P : List (Three.Pc β)) (r : List β), Three.merged P = some r → (r.length ≤ ((P.map (·.a)).flatten).length + ((P.map (·.b)).flatten).length) ∧ ∀ x ∈ r, x ∈ (P.map (·.a)).flatten ∨ x ∈ (P.map (·.b)).flatten := by
  intro P
  induction P with
  | nil => intro r h; simp only [Three.merged, Option.some.injEq] at h; subst h; simp
  | cons y P ih =>
    intro r h
    rw [Three.merged] at h
    split at h
    · cases h
    · obtain ⟨q, hq, rfl⟩ := Option.map_eq_some_iff.1 h
      obtain ⟨h1, h2⟩ := ih q hq
      have hc : Three.chosen y.o y.a y.b = y.a ∨ Three.chosen y.o y.a y.b = y.b := by unfold Three.chosen; split <;> simp
      simp only [List.map_cons, List.flatten_cons, List.length_append, List.mem_append]
      rcases hc with hc | hc <;> rw [hc] <;> refine ⟨by omega, fun x hx => ?_⟩ <;> rcases hx with hx | hx
      · exact .inl (.inl hx)
      · rcases h2 x hx with h | h
        · exact .inl (.inr h)
        · exact .inr (.inr h)
      · exact .inr (.inl hx)
      · rcases h2 x hx with h | h
        · exact .inl (.inr h)
        · exact .inr (.inr h)
/-- What the law sees. -/
theorem numbers_facts (o a b : List Int) (m : Option (List Int)) (hm : m = Three.merge o a b) (ko : ∀ x ∈ a, (Lit.int .i64 x).wf = true) (kb : ∀ x ∈ b, (Lit.int .i64 x).wf = true) (la : a.length ≤ 25) (lb : b.length ≤ 25) :
    (m.getD []).length ≤ 50 ∧ (∀ x ∈ m.getD [], (Lit.int .i64 x).wf = true) ∧ Three.merge (o.map itoaB) (a.map itoaB) (b.map itoaB) = m.map (fun l => l.map itoaB) ∧ (Three.parts (o.map itoaB) (a.map itoaB) (b.map itoaB)).length = (Three.parts o a b).length := by
  have h3 := Three.merge_map itoaB (fun _ _ h => itoaB_inj h) o a b
  have h4 := congrArg List.length (Three.parts_map itoaB (fun _ _ h => itoaB_inj h) o a b)
  rw [List.length_map] at h4
  rw [← hm] at h3
  obtain ⟨_, w1, w2, _⟩ := Three.parts_whole o a b
  have key : (m.getD []).length ≤ 50 ∧ (∀ x ∈ m.getD [], (Lit.int .i64 x).wf = true) := by
    cases m with
    | none => simp
    | some r =>
      obtain ⟨h1, h2⟩ := merged_mem (Three.parts o a b) r hm.symm
      rw [w1, w2] at h1 h2
      refine ⟨by simp only [Option.getD_some]; omega, fun x hx => ?_⟩
      rcases h2 x (by simpa using hx) with h | h
      · exact ko x h
      · exact kb x h
  exact ⟨key.1, key.2, h3, h4⟩
def LawPostN (w : World) (e : Ending) (w' : World) : Prop := e = .returned (.bool true) ∧ Below w.heap.size w w'
set_option maxHeartbeats 4000000 in
set_option maxRecDepth 100000 in
theorem numbers_long1 (A B D : Option Addr) (c d f : Nat) (o a b : List Int) (w : World) (h : 25 < o.length) :
    Calls Tryd.prog 3 #[.slice A o.length c, .slice B a.length d, .slice D b.length f] w (LawPostN w) := by
  have go : decide ((25 : Int) < (o.length : Int)) = true := by simp; omega
  have go' : decide (25 < o.length) = true := by simp; omega
  go_enter Tryd.func3, Tryd.ntmps3
  go_wp2_with fail
  refine (awake5 _).mono ?_
  rintro e w1 ⟨rfl, hb⟩
  have HB := Lib.hid hb
  clear hb
  go_wp2
  go_ret
  exact ⟨rfl, HB.out⟩
set_option maxHeartbeats 4000000 in
set_option maxRecDepth 100000 in
theorem numbers_long2 (A B D : Option Addr) (c d f : Nat) (o a b : List Int) (w : World) (h : ¬ 25 < o.length) (h' : 25 < a.length) :
    Calls Tryd.prog 3 #[.slice A o.length c, .slice B a.length d, .slice D b.length f] w (LawPostN w) := by
  have go : decide ((25 : Int) < (o.length : Int)) = false := by simp; omega
  have go' : decide (25 < o.length) = false := by simp; omega
  have ga : decide ((25 : Int) < (a.length : Int)) = true := by simp; omega
  have ga' : decide (25 < a.length) = true := by simp; omega
  go_enter Tryd.func3, Tryd.ntmps3
  go_wp2_with fail
  refine (awake5 _).mono ?_
  rintro e w1 ⟨rfl, hb⟩
  have HB := Lib.hid hb
  clear hb
  go_wp2
  go_ret
  exact ⟨rfl, HB.out⟩
set_option maxHeartbeats 4000000 in
set_option maxRecDepth 100000 in
theorem numbers_long3 (A B D : Option Addr) (c d f : Nat) (o a b : List Int) (w : World) (h : ¬ 25 < o.length) (h' : ¬ 25 < a.length) (h'' : 25 < b.length) :
    Calls Tryd.prog 3 #[.slice A o.length c, .slice B a.length d, .slice D b.length f] w (LawPostN w) := by
  have go : decide ((25 : Int) < (o.length : Int)) = false := by simp; omega
  have go' : decide (25 < o.length) = false := by simp; omega
  have ga : decide ((25 : Int) < (a.length : Int)) = false := by simp; omega
  have ga' : decide (25 < a.length) = false := by simp; omega
  have gb : decide ((25 : Int) < (b.length : Int)) = true := by simp; omega
  have gb' : decide (25 < b.length) = true := by simp; omega
  go_enter Tryd.func3, Tryd.ntmps3
  go_wp2_with fail
  refine (awake5 _).mono ?_
  rintro e w1 ⟨rfl, hb⟩
  have HB := Lib.hid hb
  clear hb
  go_wp2
  go_ret
  exact ⟨rfl, HB.out⟩
set_option maxHeartbeats 8000000 in
set_option maxRecDepth 100000 in
theorem numbers_short (A B D : Option Addr) (c d f : Nat) (o a b : List Int) (w : World) (ho : IX w A c o) (ha : IX w B d a) (hb : IX w D f b) (l0 : o.length ≤ 25) (l1 : a.length ≤ 25) (l2 : b.length ≤ 25)
    (w0 : ∀ x ∈ o, (Lit.int .i64 x).wf = true) (w1 : ∀ x ∈ a, (Lit.int .i64 x).wf = true) (w2 : ∀ x ∈ b, (Lit.int .i64 x).wf = true) (hT : Tab w) :
    Calls Tryd.prog 3 #[.slice A o.length c, .slice B a.length d, .slice D b.length f] w (LawPostN w) := by
  have go : decide ((25 : Int) < (o.length : Int)) = false := by simp; omega
  have go' : decide (25 < o.length) = false := by simp; omega
  have ga : decide ((25 : Int) < (a.length : Int)) = false := by simp; omega
  have ga' : decide (25 < a.length) = false := by simp; omega
  have gb : decide ((25 : Int) < (b.length : Int)) = false := by simp; omega
  have gb' : decide (25 < b.length) = false := by simp; omega
  obtain ⟨m, hm⟩ : ∃ m, m = Three.merge o a b := ⟨_, rfl⟩
  obtain ⟨X, hX⟩ : ∃ X, X = o.map itoaB := ⟨_, rfl⟩
  obtain ⟨Y, hY⟩ : ∃ X, X = a.map itoaB := ⟨_, rfl⟩
  obtain ⟨Z, hZ⟩ : ∃ X, X = b.map itoaB := ⟨_, rfl⟩
  obtain ⟨q1, q2, q3, q4⟩ := numbers_facts o a b m hm w1 w2 l1 l2
  rw [← hX, ← hY, ← hZ] at q3 q4
  have lX : X.length ≤ 25 := by rw [hX, List.length_map]; exact l0
  have lY : Y.length ≤ 25 := by rw [hY, List.length_map]; exact l1
  have lZ : Z.length ≤ 25 := by rw [hZ, List.length_map]; exact l2
  obtain ⟨R, hR⟩ : ∃ R, R = (m.getD []).map itoaB := ⟨_, rfl⟩
  have q5 : (m.map (fun l => l.map itoaB)).getD [] = R := by rw [hR]; cases m <;> rfl
  have q6 : (m.map (fun l => l.map itoaB)).isSome = m.isSome := by cases m <;> rfl
  have lR : R.length ≤ 50 := by rw [hR, List.length_map]; exact q1
  obtain ⟨mb, hmb⟩ : ∃ mb, mb = m.isSome := ⟨_, rfl⟩
  obtain ⟨M, hM⟩ : ∃ M, M = m.getD [] := ⟨_, rfl⟩
  rw [← hM] at q1 q2 hR
  rw [← hmb] at q6
  have HM := Lib.hid hm
  have HX := Lib.hid hX
  have HY := Lib.hid hY
  have HZ := Lib.hid hZ
  have HR := Lib.hid hR
  have HMM := Lib.hid hM
  have HMB := Lib.hid hmb
  have Q2 := Lib.hid q2
  have Q3 := Lib.hid q3
  have Q4 := Lib.hid q4
  have Q5 := Lib.hid q5
  have Q6 := Lib.hid q6
  have W0 := Lib.hid w0
  have W1 := Lib.hid w1
  have W2 := Lib.hid w2
  have HO := Lib.hid ho
  have HA := Lib.hid ha
  have HBb := Lib.hid hb
  have HT := Lib.hid hT
  have HB := Lib.hid (Below.refl w.heap.size w)
  clear hm hX hY hZ hR hM hmb q2 q3 q4 q5 q6 w0 w1 w2 ho ha hb hT
  go_enter Tryd.func3, Tryd.ntmps3
  go_wp2_with fail
  refine (ThreeInt.merge_at A c o B d a D f b _ HO.out.1 HO.out.2 HA.out.1 HA.out.2 HBb.out.1 HBb.out.2 (by omega) (by omega) (by omega)).mono ?_
  rintro e w3 ⟨v, rfl, hR, hb⟩
  rw [← HM.out] at hR ⊢
  rw [← HMM.out] at hR
  rw [← HMB.out]
  obtain ⟨A1, c1, rfl⟩ := Kd.R_slice hR
  have hI : IX _ A1 c1 M := ⟨(Kd.R_reads' hR).2.2, (Kd.R_reads' hR).2.1⟩
  clear hR
  replace HO := Lib.hid (HO.out.below hb)
  replace HA := Lib.hid (HA.out.below hb)
  replace HBb := Lib.hid (HBb.out.below hb)
  replace HT := Lib.hid (HT.out.below hb)
  replace HB := Lib.hid (HB.out.trans (hb.mono HB.out.size))
  have HMX := Lib.hid hI
  clear hb hI
  go_wp2_with fail
  refine (texts_calls A c o X _ HX.out HO.out (by omega) W0.out HT.out).mono ?_
  rintro e w4 ⟨A2, c2, rfl, hT, hb⟩
  replace HO := Lib.hid (HO.out.below hb)
  replace HA := Lib.hid (HA.out.below hb)
  replace HBb := Lib.hid (HBb.out.below hb)
  replace HT := Lib.hid (HT.out.below hb)
  replace HMX := Lib.hid (HMX.out.below hb)
  replace HB := Lib.hid (HB.out.trans (hb.mono HB.out.size))
  have HT2 := Lib.hid hT
  clear hb hT
  go_wp2_with fail
  refine (texts_calls B d a Y _ HY.out HA.out (by omega) W1.out HT.out).mono ?_
  rintro e w5 ⟨A3, c3, rfl, hT, hb⟩
  replace HO := Lib.hid (HO.out.below hb)
  replace HA := Lib.hid (HA.out.below hb)
  replace HBb := Lib.hid (HBb.out.below hb)
  replace HT := Lib.hid (HT.out.below hb)
  replace HMX := Lib.hid (HMX.out.below hb)
  replace HT2 := Lib.hid (HT2.out.below hb)
  replace HB := Lib.hid (HB.out.trans (hb.mono HB.out.size))
  have HT3 := Lib.hid hT
  clear hb hT
  go_wp2_with fail
  refine (texts_calls D f b Z _ HZ.out HBb.out (by omega) W2.out HT.out).mono ?_
  rintro e w6 ⟨A4, c4, rfl, hT, hb⟩
  replace HO := Lib.hid (HO.out.below hb)
  replace HA := Lib.hid (HA.out.below hb)
  replace HBb := Lib.hid (HBb.out.below hb)
  replace HT := Lib.hid (HT.out.below hb)
  replace HMX := Lib.hid (HMX.out.below hb)
  replace HT2 := Lib.hid (HT2.out.below hb)
  replace HT3 := Lib.hid (HT3.out.below hb)
  replace HB := Lib.hid (HB.out.trans (hb.mono HB.out.size))
  have HT4 := Lib.hid hT
  clear hb hT
  go_wp2_with fail
  refine (merge_tx A2 c2 X A3 c3 Y A4 c4 Z _ HT2.out HT3.out HT4.out (by omega) (by omega) (by omega)).mono ?_
  rintro e w7 ⟨A5, c5, rfl, hT, -, hb⟩
  rw [Q3.out, Q5.out] at hT
  rw [Q3.out, Q5.out, Q6.out]
  replace HO := Lib.hid (HO.out.below hb)
  replace HA := Lib.hid (HA.out.below hb)
  replace HBb := Lib.hid (HBb.out.below hb)
  replace HT := Lib.hid (HT.out.below hb)
  replace HMX := Lib.hid (HMX.out.below hb)
  replace HB := Lib.hid (HB.out.trans (hb.mono HB.out.size))
  have HT5 := Lib.hid hT
  clear hb hT HT2 HT3 HT4
  go_wp2_with fail
  refine (texts_calls A1 c1 M R _ HR.out HMX.out (by omega) Q2.out HT.out).mono ?_
  rintro e w8 ⟨A6, c6, rfl, hT, hb⟩
  replace HO := Lib.hid (HO.out.below hb)
  replace HA := Lib.hid (HA.out.below hb)
  replace HBb := Lib.hid (HBb.out.below hb)
  replace HT := Lib.hid (HT.out.below hb)
  replace HMX := Lib.hid (HMX.out.below hb)
  replace HT5 := Lib.hid (HT5.out.below hb)
  replace HB := Lib.hid (HB.out.trans (hb.mono HB.out.size))
  have HT6 := Lib.hid hT
  clear hb hT
  go_wp2_with fail
  refine (same_tx A6 A5 c6 c5 R R _ HT6.out HT5.out (by omega) true (by simp)).mono ?_
  rintro e w9 ⟨rfl, hb⟩
  replace HO := Lib.hid (HO.out.below hb)
  replace HA := Lib.hid (HA.out.below hb)
  replace HBb := Lib.hid (HBb.out.below hb)
  replace HT := Lib.hid (HT.out.below hb)
  replace HB := Lib.hid (HB.out.trans (hb.mono HB.out.size))
  clear hb HT5 HT6 HMX
  go_wp2_with fail
  refine (ThreeInt.parts_at A c o B d a D f b _ HO.out.1 HO.out.2 HA.out.1 HA.out.2 HBb.out.1 HBb.out.2 (by omega) (by omega) (by omega)).mono ?_
  rintro e w10 ⟨v, xs, rfl, hR, hx, -, hb⟩
  have hl := congrArg List.length hx
  rw [List.length_map] at hl
  obtain ⟨A7, c7, rfl⟩ := Kd.R_slice hR
  have HL := Lib.hid hl
  clear hR hx hl
  replace HO := Lib.hid (HO.out.below hb)
  replace HA := Lib.hid (HA.out.below hb)
  replace HBb := Lib.hid (HBb.out.below hb)
  replace HT := Lib.hid (HT.out.below hb)
  replace HB := Lib.hid (HB.out.trans (hb.mono HB.out.size))
  clear hb
  go_wp2_with fail
  refine (texts_calls A c o X _ HX.out HO.out (by omega) W0.out HT.out).mono ?_
  rintro e w11 ⟨A8, c8, rfl, hT, hb⟩
  replace HO := Lib.hid (HO.out.below hb)
  replace HA := Lib.hid (HA.out.below hb)
  replace HBb := Lib.hid (HBb.out.below hb)
  replace HT := Lib.hid (HT.out.below hb)
  replace HB := Lib.hid (HB.out.trans (hb.mono HB.out.size))
  have HT8 := Lib.hid hT
  clear hb hT
  go_wp2_with fail
  refine (texts_calls B d a Y _ HY.out HA.out (by omega) W1.out HT.out).mono ?_
  rintro e w12 ⟨A9, c9, rfl, hT, hb⟩
  replace HO := Lib.hid (HO.out.below hb)
  replace HA := Lib.hid (HA.out.below hb)
  replace HBb := Lib.hid (HBb.out.below hb)
  replace HT := Lib.hid (HT.out.below hb)
  replace HT8 := Lib.hid (HT8.out.below hb)
  replace HB := Lib.hid (HB.out.trans (hb.mono HB.out.size))
  have HT9 := Lib.hid hT
  clear hb hT
  go_wp2_with fail
  refine (texts_calls D f b Z _ HZ.out HBb.out (by omega) W2.out HT.out).mono ?_
  rintro e w13 ⟨A10, c10, rfl, hT, hb⟩
  replace HO := Lib.hid (HO.out.below hb)
  replace HA := Lib.hid (HA.out.below hb)
  replace HBb := Lib.hid (HBb.out.below hb)
  replace HT := Lib.hid (HT.out.below hb)
  replace HT8 := Lib.hid (HT8.out.below hb)
  replace HT9 := Lib.hid (HT9.out.below hb)
  replace HB := Lib.hid (HB.out.trans (hb.mono HB.out.size))
  have HT10 := Lib.hid hT
  clear hb hT
  go_wp2_with fail
  refine (parts_tx A8 c8 X A9 c9 Y A10 c10 Z _ HT8.out HT9.out HT10.out (by omega) (by omega) (by omega)).mono ?_
  rintro e w14 ⟨v, ys, rfl, hR, hx, -, hb⟩
  have hl := congrArg List.length hx
  rw [List.length_map, Q4.out, ← HL.out] at hl
  obtain ⟨A11, c11, rfl⟩ := Kd.R_slice hR
  rw [hl]
  clear hR hx hl
  replace HO := Lib.hid (HO.out.below hb)
  replace HA := Lib.hid (HA.out.below hb)
  replace HBb := Lib.hid (HBb.out.below hb)
  replace HT := Lib.hid (HT.out.below hb)
  replace HT8 := Lib.hid (HT8.out.below hb)
  replace HT9 := Lib.hid (HT9.out.below hb)
  replace HT10 := Lib.hid (HT10.out.below hb)
  replace HB := Lib.hid (HB.out.trans (hb.mono HB.out.size))
  clear hb
  go_wp2_with fail
  refine (awake5 _).mono ?_
  rintro e w15 ⟨rfl, hb⟩
  replace HO := Lib.hid (HO.out.below hb)
  replace HA := Lib.hid (HA.out.below hb)
  replace HBb := Lib.hid (HBb.out.below hb)
  replace HT := Lib.hid (HT.out.below hb)
  replace HT8 := Lib.hid (HT8.out.below hb)
  replace HT9 := Lib.hid (HT9.out.below hb)
  replace HT10 := Lib.hid (HT10.out.below hb)
  replace HB := Lib.hid (HB.out.trans (hb.mono HB.out.size))
  clear hb
  go_wp2
  go_ret
  exact ⟨rfl, HB.out⟩
theorem numbers_law (A : Option Addr) (c : Nat) (o : List Int) (B : Option Addr) (d : Nat) (a : List Int) (D : Option Addr) (f : Nat) (b : List Int) (w : World)
    (hz : CellsI w A o) (_ : A = none → o.length = 0 ∧ c = 0) (hc : o.length ≤ c) (hwf : ∀ x ∈ o, (Lit.int .i64 x).wf = true) (_ : o.length * 8 ≤ 140737488351232)
    (hz' : CellsI w B a) (_ : B = none → a.length = 0 ∧ d = 0) (hd : a.length ≤ d) (hwf' : ∀ x ∈ a, (Lit.int .i64 x).wf = true) (_ : a.length * 8 ≤ 140737488351232)
    (hz'' : CellsI w D b) (_ : D = none → b.length = 0 ∧ f = 0) (hf : b.length ≤ f) (hwf'' : ∀ x ∈ b, (Lit.int .i64 x).wf = true) (_ : b.length * 8 ≤ 140737488351232) (hT : Tab w) :
    Calls Tryd.prog 3 #[.slice A o.length c, .slice B a.length d, .slice D b.length f] w fun e w' => e = .returned (.bool true) ∧ Below w.heap.size w w' := by
  by_cases h1 : 25 < o.length
  · exact numbers_long1 A B D c d f o a b w h1
  · by_cases h2 : 25 < a.length
    · exact numbers_long2 A B D c d f o a b w h1 h2
    · by_cases h3 : 25 < b.length
      · exact numbers_long3 A B D c d f o a b w h1 h2 h3
      · exact numbers_short A B D c d f o a b w (hz.ix (by omega) hc) (hz'.ix (by omega) hd) (hz''.ix (by omega) hf) (by omega) (by omega) (by omega) hwf hwf' hwf'' hT
end Go.Proofs.YtgcjejepahdjgaaDoor.SeqS
