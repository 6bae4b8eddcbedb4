/- SeqTakes (function 5): walked with the contracts of what it calls. The later half printed by wip/tools/takes.py. -/
import Derived.Test.YtnagjilogadinaaSeqJoin
import Derived.Test.YtnagjilogadinaaSeqAwake
import Derived.Test.YtnagjilogadinaaSeqLists
import Derived.Deep.RegionWith
import Derived.Deep.RegionHeld3
namespace Go.Proofs.Ytnagjilogadinaa.SeqI
open Go.RowKit Go.Shelf Go.Proofs.Ytnagjilogadinaa.SeqM
attribute [local go_sem] Oper.semAt_some
set_option linter.unusedVariables false

/-- append of a slice that may be nil. -/
theorem wpList_append_any (w : World) {ops : Array Oper} {rest : List Oper} {o : Oper} {a : Act} {Q : Exit → Act → World → Prop}
    (hg : o.guard = none) (s x : Operand) (hop : o.op = Op.call { callee := Callee.builtin Builtin.append, args := #[s, x], argTypes := #[22, 22] })
    (base : Nat) (v : Value) (k : Nat) (xs : List Int) (hs : a.eval s = v) (hk : k = xs.length) (hown : w.ownsRow base 3 1 v k (xs.map (Value.int .i64))) (A : Option Addr) (m c : Nat) (zs : List Int) (hx : a.eval x = .slice A m c) (hm : m = zs.length)
    (hz : Cells w A zs) (hnil : A = none → zs.length = 0 ∧ c = 0) (b1 : k + m ≤ 1000000) (b3 : base ≤ w.heap.size)
    (hK : ∀ v' w', w'.ownsRow base 3 1 v' (k + m) ((xs ++ zs).map (Value.int .i64)) → w.grownBy w' v.ownBlock → wpList Try.prog ops Q rest (a.put o.dst v') w') :
    wpList Try.prog ops Q (o :: rest) a w := by
  obtain ⟨i0, hi, hz0, hz1, hz2⟩ := info_parts info3
  subst hm
  cases A with
  | some ad =>
    refine wpList_append_own w hg s x 22 hop base 3 i0 (.int .i64 0) 1 8 Try.underlying22 hi hz0 hz1 hz2 rfl (by decide) v k _ hs hown ad zs.length c (zs.map (Value.int .i64)) hx (by simp) ?_ ?_ (by unfold maxLen; omega) (by omega) b3 (fun v' w' h1 h2 _ => hK v' w' (by rw [List.map_append]; exact h1) h2)
    · intro j u hu
      rcases hz with rfl | ⟨b, off, e, hb, hc⟩
      · simp at hu
      · cases e
        rw [List.getElem?_map] at hu
        obtain ⟨x, hx, rfl⟩ := Option.map_eq_some_iff.1 hu
        obtain ⟨hj, rfl⟩ := List.getElem?_eq_some_iff.1 hx
        rw [Addr.add_lit]
        exact hc j hj
    · intro u hu
      obtain ⟨x, _, rfl⟩ := List.mem_map.1 hu
      rfl
  | none =>
    obtain ⟨h0, rfl⟩ := hnil rfl
    have : zs = [] := List.eq_nil_of_length_eq_zero h0
    subst this
    refine wpList_plain hg fun K hK' => ?_
    have hrun := run_append_owned_none (P := Try.prog) w base 22 o.type 3 i0 1 Try.underlying22 hi _ k _ hown
    unfold Oper.wp
    simp [execOp, hop, resolve, invoke, builtin, hs, hx, hrun, Result.andThen]
    refine hK' _ _ (hK v w ?_ ⟨rfl, rfl, rfl, Nat.le_refl _, fun _ _ _ => rfl⟩)
    simpa using hown

theorem cellsV_made (w : World) (vs : List Value) (cs : Array Value) (h : cs.toList = vs) : CellsV (w.alloc (.cells cs 26)) (some ⟨w.heap.size, 0, none⟩) vs := by
  refine .inr ⟨w.heap.size, 0, rfl, by simp, fun j hj => ?_⟩
  have hn := World.alloc_heap_new w (.cells cs 26)
  have h1 : cs[j]? = some vs[j] := by rw [← Array.getElem?_toList, h]; simp [hj]
  unfold World.cell?
  simp only [hn, Nat.zero_add]
  simpa using h1
theorem col_cap {W : World} {n₀ cap : Nat} {A : Option Addr} {zs : List Int} (h : (A = none ∧ zs = [] ∧ cap = 0) ∨ ∃ g, A = some ⟨g, 0, none⟩ ∧ n₀ ≤ g ∧ g < W.heap.size ∧ Row W g zs.length cap (zs.map (Value.int .i64))) : zs.length ≤ cap := by
  rcases h with ⟨_, e, _⟩ | ⟨g, _, _, _, cur, _, _, h, _⟩
  · rw [e]; simp
  · exact h

theorem lo_1 {lo : Nat} : -1000 ≤ (lo : Int) - 1000 := by omega
theorem lo_2 {lo : Nat} (h : lo < 2000) : (lo : Int) - 1000 < 1000 := by omega
theorem mo_1 {mo : Nat} (h : mo < 60) : mo - 10 < 60 := by omega
theorem lo_add {lz : Int} {k q : Nat} (h1 : -1000 ≤ lz) (h0 : lz < 1000) (h2 : q < 60) (h3 : k < q) : wrap64 (lz + (k : Int)) = lz + (k : Int) := by unfold wrap64; omega
theorem k_succ {k q : Nat} (h2 : q < 60) (h3 : k < q) : wrap64 ((k : Int) + 1) = ((k + 1 : Nat) : Int) := by unfold wrap64; omega
theorem k_meas {k m : Nat} (h3 : k < m) : m - (intOf (.int .i64 ((k : Int) + 1))).toNat < m - (intOf (.int .i64 (k : Int))).toNat := by simp [intOf]; omega
theorem k_lt {k q : Nat} (h3 : k < q) : (k : Int) < (q : Int) := by omega
theorem k_end {k m : Nat} (h1 : k ≤ m) (h3 : ¬ k < m) : k = m := by omega
theorem upto_len {lo : Int} {n : Nat} : (upto lo n).length = n := by simp [upto]
theorem upto_at {lo : Int} {n k : Nat} (h : k < (upto lo n).length) : (upto lo n)[k] = lo + (k : Int) := by simp [upto]
theorem upto_none {lo : Int} {n k : Nat} (h : k < n) (e : upto lo n = []) : False := by have := @upto_len lo n; rw [e] at this; simp at this; omega
theorem if_le {a b : Int} (h : (if a < 0 then 0 else a) ≤ b) : a ≤ b := by split at h <;> omega
theorem lt_if {a b : Int} (h : b < (if a < 0 then 0 else a)) (h0 : 0 ≤ b) : b < a := by split at h <;> omega
set_option maxHeartbeats 4000000 in
set_option maxRecDepth 100000 in
theorem takes_calls (A B : Option Addr) (c d : Nat) (xs ys : List Int) (n0 lo0 more0 : Int) (w : World) (hz : Cells w A xs) (hnil : A = none → xs.length = 0 ∧ c = 0) (hcap : xs.length ≤ c) (hz2 : Cells w B ys) (hnil2 : B = none → ys.length = 0 ∧ d = 0) (hcap2 : ys.length ≤ d) (hl1 : xs.length * 8 ≤ 140737488351232) (hl2 : ys.length * 8 ≤ 140737488351232) :
    Calls Try.prog 5 #[.slice A xs.length c, .slice B ys.length d, .int .i64 n0, .int .i64 lo0, .int .i64 more0] w fun e w' => e = .returned (.bool true) ∧ Below w.heap.size w w' := by
  have HZ := Lib.hid hz
  have HNil := Lib.hid hnil
  have HZ2 := Lib.hid hz2
  have HNil2 := Lib.hid hnil2
  clear hz hnil hz2 hnil2
  by_cases h60 : 60 < xs.length
  · go_enter Try.func5, Try.ntmps5
    go_wp2_with (go_at_call 7; refine (awake_calls _).mono ?_; rintro e w1 ⟨rfl, hb⟩; have HB := Lib.hid hb; clear hb)
    go_ret
    exact ⟨rfl, HB.out⟩
  by_cases h61 : 60 < ys.length
  · go_enter Try.func5, Try.ntmps5
    go_wp2_with (go_at_call 7; refine (awake_calls _).mono ?_; rintro e w1 ⟨rfl, hb⟩; have HB := Lib.hid hb; clear hb)
    go_ret
    exact ⟨rfl, HB.out⟩
  go_enter Try.func5, Try.ntmps5
  go_wp2_with fail
  refine (low_calls n0 80 _ (by omega) (by omega)).mono ?_
  rintro e w1 ⟨⟨n, rfl, hn⟩, rfl⟩
  go_wp2_with fail
  refine (low_calls lo0 2000 _ (by omega) (by omega)).mono ?_
  rintro e w1 ⟨⟨lo, rfl, hlo⟩, rfl⟩
  go_wp2_with fail
  refine (low_calls more0 60 _ (by omega) (by omega)).mono ?_
  rintro e w1 ⟨⟨mo, rfl, hmo⟩, rfl⟩
  have hnl := World.ownsRow_nil w1 w1.heap.size 3 1
  have HNl := Lib.hid hnl
  clear hnl
  go_wp2_with (first
    | (at_builtin; refine wpList_append_any (o := ⟨some 35, _, _, _, _, _⟩) _ rfl (.const (.slice none 0 0)) (.tmp 34) rfl w1.heap.size (.slice none 0 0) 0 [] rfl rfl HNl.out A xs.length c xs rfl rfl HZ.out HNil.out (by omega) (Nat.le_refl _) ?_; intro v1 w2 ho1 hg1; simp only [Nat.zero_add, List.nil_append] at ho1; obtain ⟨A1, c1, rfl, -, -⟩ := col_open ho1; have HO1 := Lib.hid ho1; have HB1 := Lib.hid ((Below.refl w1.heap.size w1).grown hg1 (Nat.le_refl _) (fun k e => by simp [Value.ownBlock] at e)); clear ho1 hg1)
    | (at_builtin; refine wpList_append_any (o := ⟨some 37, _, _, _, _, _⟩) _ rfl (.tmp 35) (.tmp 36) rfl w1.heap.size (.slice A1 xs.length c1) xs.length xs rfl rfl HO1.out B ys.length d ys rfl rfl (HZ2.out.below HB1.out) HNil2.out (by omega) HB1.out.size ?_; intro v2 w3 ho2 hg2; rw [← List.length_append] at ho2; obtain ⟨A2, c2, rfl, hc2, hr2⟩ := col_open ho2; have HC2 := Lib.hid hc2; have hc2l : xs.length + ys.length ≤ c2 := (by simpa using col_cap hr2); have HB2 := Lib.hid (HB1.out.grown hg2 HB1.out.size (fun k e => (HO1.out.lt k e).1)); clear ho2 hg2 hc2 hr2))
  have HA3 := Lib.hid (HZ.out.below HB2.out)
  refine (of_calls _ A c xs (by omega) HA3.out (fun e => List.eq_nil_of_length_eq_zero (HNil.out e).1)).mono ?_
  rintro e w4 ⟨f1, R1, rfl, hs1, _, hb4⟩
  have HS1 := Lib.hid hs1
  have HB4 := Lib.hid (HB2.out.trans (hb4.mono HB2.out.size))
  have HC4 := Lib.hid (HC2.out.below hb4)
  clear hs1 hb4 HA3 HC2
  go_wp2_with fail
  have HA4 := Lib.hid (HZ2.out.below HB4.out)
  refine (of_calls _ B d ys (by omega) HA4.out (fun e => List.eq_nil_of_length_eq_zero (HNil2.out e).1)).mono ?_
  rintro e w5 ⟨f2, R2', rfl, hs2, _, hb5⟩
  have HS2 := Lib.hid hs2
  have HS1' := Lib.hid (HS1.out.below hb5)
  have HB5 := Lib.hid (HB4.out.trans (hb5.mono HB4.out.size))
  have HC5 := Lib.hid (HC4.out.below hb5)
  clear hs2 hb5 HA4 HC4 HS1
  obtain ⟨g1, lb1, rfl⟩ : ∃ g lb, f1 = .func (.func g) #[] lb := by obtain ⟨_, g, lb, e, _⟩ := HS1'.out; exact ⟨g, lb, e⟩
  obtain ⟨g2, lb2, rfl⟩ : ∃ g lb, f2 = .func (.func g) #[] lb := by obtain ⟨_, g, lb, e, _⟩ := HS2.out; exact ⟨g, lb, e⟩
  go_wp2_with fail
  have hB5a : Below w5.heap.size w5 (w5.alloc (.cells #[.func (.func g1) #[] lb1, Value.nilFunc, .func (.func g2) #[] lb2] 26)) := (Below.refl _ _).alloc (Nat.le_refl _) _
  refine (join_calls (w5.alloc (.cells #[.func (.func g1) #[] lb1, Value.nilFunc, .func (.func g2) #[] lb2] 26)) (some ⟨w5.heap.size, 0, none⟩) 3 3 [⟨.func (.func g1) #[] lb1, xs, R1⟩, ⟨Value.nilFunc, [], fun _ => False⟩, ⟨.func (.func g2) #[] lb2, ys, R2'⟩] rfl (by simp) (cellsV_made w5 _ #[.func (.func g1) #[] lb1, Value.nilFunc, .func (.func g2) #[] lb2] rfl) (fun e => by cases e) (fun e he => ?_)).mono ?_
  · simp at he
    rcases he with rfl | rfl | rfl
    · exact .inr (HS1'.out.below hB5a)
    · exact .inl ⟨rfl, rfl⟩
    · exact .inr (HS2.out.below hB5a)
  rintro e w6 ⟨f3, R3, rfl, hs3, hb6⟩
  have hfl : flat [⟨.func (.func g1) #[] lb1, xs, R1⟩, ⟨Value.nilFunc, [], fun _ => False⟩, ⟨.func (.func g2) #[] lb2, ys, R2'⟩] = xs ++ ys := by simp [flat]
  rw [hfl] at hs3
  have hb6' := hB5a.trans (hb6.mono (by simp))
  have HS3 := Lib.hid hs3
  have HB6 := Lib.hid (HB5.out.trans (hb6'.mono HB5.out.size))
  have HC6 := Lib.hid (HC5.out.below hb6')
  clear hs3 hb6 hb6' hB5a HC5 HS1' HS2 hfl
  go_wp2_with fail
  all_goals
    refine (count_calls ((lo : Int) - 1000) ((lo : Int) - 1000 + ((mo : Int) - 10)) (by omega) (by omega) _).mono ?_
    rintro e w7 ⟨f4, R4, rfl, hs4, _, hb7⟩
    rw [show ((lo : Int) - 1000 + ((mo : Int) - 10) - ((lo : Int) - 1000)).toNat = mo - 10 by omega] at hs4
    have HS4 := Lib.hid hs4
    have HS3' := Lib.hid (HS3.out.below hb7)
    have HB7 := Lib.hid (HB6.out.trans (hb7.mono HB6.out.size))
    have HC7 := Lib.hid (HC6.out.below hb7)
    clear hs4 hb7 HC6 HS3
    go_wp2_with fail
    have hul : (upto ((lo : Int) - 1000) (mo - 10)).length = mo - 10 := by simp [upto]
    refine (list_calls f4 _ R4 _ _ (by rw [hul]; omega) HS4.out.g).mono ?_
    rintro e w8 ⟨v8, rfl, ho8, ht8⟩
    obtain ⟨A8, c8, rfl, hc8, -⟩ := col_open ho8
    rw [hul]
    have hb8 := ht8.none
    have HC8 := Lib.hid hc8
    have HS8 := Lib.hid (HS3'.out.below hb8)
    have HB8 := Lib.hid (HB7.out.trans (hb8.mono HB7.out.size))
    have HC28 := Lib.hid (HC7.out.below hb8)
    have HUL := Lib.hid hul
    clear ho8 ht8 hc8 hb8 HC7 HS3' HS4 hul
    go_wp2_with fail
    have hcat : (xs ++ ys).length = xs.length + ys.length := by simp
    have HLL := Lib.hid hcat
    have hbl : (xs ++ ys).length ≤ 1000000 := by simp; omega
    have hmx : (if ((mo : Int) - 10) < 0 then 0 else ((mo : Int) - 10)) = ((mo - 10 : Nat) : Int) := by split <;> omega
    have HB := HB8
    have HC2 := HC28
    have HS := HS8
    clear HZ HNil HZ2 HNil2 HO1 HB8 HC28 HS8 HB1 HB2 HB4 HB5 HB6 HB7 HNl
    have hk0 : (0 : Int) ≤ (xs.length : Int) + (ys.length : Int) := by omega
    have hk1 : (xs.length : Int) + (ys.length : Int) ≤ (c2 : Int) := by omega
    try have hk2 : (n : Int) - 10 ≤ (xs.length : Int) + (ys.length : Int) := if_le (by assumption)
    try have hk3 : (n : Int) - 10 ≤ (c2 : Int) := by omega
    try have hk4 : (10 : Int) ≤ (n : Int) := by omega
    have hL : ((xs ++ ys).take ((n : Int) - 10).toNat).length = min ((n : Int) - 10).toNat (xs.length + ys.length) := by rw [List.length_take, hcat]
    have HL := Lib.hid hL
    have HBL : Hid (((xs ++ ys).take ((n : Int) - 10).toNat).length ≤ 1000000) := Lib.hid (by omega)
    first
      | have HM : Hid (0 = ((xs ++ ys).take ((n : Int) - 10).toNat).length) := Lib.hid (by omega)
      | have HM : Hid (((n : Int) - 10).toNat = ((xs ++ ys).take ((n : Int) - 10).toNat).length) := Lib.hid (by omega)
      | have HM : Hid (xs.length + ys.length = ((xs ++ ys).take ((n : Int) - 10).toNat).length) := Lib.hid (by have := lt_if (by assumption) hk0; omega)
    first
      | have HP : Hid (((n : Int) - 10).toNat = ((xs ++ ys).take ((n : Int) - 10).toNat).length) := Lib.hid (by omega)
      | have HP : True := trivial
    first
      | have HN : Hid (n - 10 = ((xs ++ ys).take ((n : Int) - 10).toNat).length) := Lib.hid (by omega)
      | have HN : True := trivial
    clear hL hcat
    have hb : Below w8.heap.size w8 w8.drew := ⟨rfl, rfl, rfl, Nat.le_refl _, fun _ _ => rfl⟩
    replace HC2 := Lib.hid (HC2.out.below hb)
    replace HS := Lib.hid (HS.out.below hb)
    replace HC8 := Lib.hid (HC8.out.below hb)
    replace HB := Lib.hid (HB.out.trans (hb.mono HB.out.size))
    clear hb
    go_region_held3 (fun _ => True) (exact trivial) (first
    | (go_at_call_of 13 f3; refine (list_calls f3 (xs ++ ys) R3 _ _ hbl HS.out.g).mono ?_; rintro e w2 ⟨v, rfl, ho, ht⟩; obtain ⟨A9, c9, rfl, hc, -⟩ := col_open ho; have hb := ht.none; rw [HLL.out]; replace HC2 := Lib.hid (HC2.out.below hb); replace HS := Lib.hid (HS.out.below hb); replace HC8 := Lib.hid (HC8.out.below hb); replace HB := Lib.hid (HB.out.trans (hb.mono HB.out.size)); have HC9 := Lib.hid hc; clear hc hb ho ht)
    | (go_at_call_of 14 A9; refine (same_n A9 A2 _ _ c9 c2 (xs ++ ys) _ HLL.out.symm HLL.out.symm hbl HC9.out HC2.out).mono ?_; rintro e w3 ⟨rfl, hb⟩; replace HC2 := Lib.hid (HC2.out.below hb); replace HS := Lib.hid (HS.out.below hb); replace HC8 := Lib.hid (HC8.out.below hb); replace HC9 := Lib.hid (HC9.out.below hb); replace HB := Lib.hid (HB.out.trans (hb.mono HB.out.size)); clear hb; clear HC9)
    | (go_at_call_of 19 f3; refine (take_calls _ f3 ((n : Int) - 10) (xs ++ ys) R3 HS.out (by omega)).mono ?_; rintro e w4 ⟨f5, R5, rfl, hs, hb⟩; replace HC2 := Lib.hid (HC2.out.below hb); replace HS := Lib.hid (HS.out.below hb); replace HC8 := Lib.hid (HC8.out.below hb); replace HB := Lib.hid (HB.out.trans (hb.mono HB.out.size)); have HS5 := Lib.hid hs; clear hs hb)
    | (go_at_call_of 13 f5; refine (list_calls f5 ((xs ++ ys).take ((n : Int) - 10).toNat) R5 _ _ HBL.out HS5.out.g).mono ?_; rintro e w5 ⟨v, rfl, ho, ht⟩; obtain ⟨A12, c12, rfl, hc, -⟩ := col_open ho; have hb := ht.none; replace HC2 := Lib.hid (HC2.out.below hb); replace HS := Lib.hid (HS.out.below hb); replace HC8 := Lib.hid (HC8.out.below hb); replace HS5 := Lib.hid (HS5.out.below hb); replace HB := Lib.hid (HB.out.trans (hb.mono HB.out.size)); have HC12 := Lib.hid hc; clear hc hb ho ht; clear HS5)
    | (go_at_call_of 14 A12; refine (same_n A12 A2 _ _ c12 c2 ((xs ++ ys).take ((n : Int) - 10).toNat) _ (by first | exact HL.out.symm | exact HM.out | exact HN.out | exact HP.out) (by first | exact HM.out | exact HL.out.symm | exact HN.out | exact HP.out) HBL.out HC12.out (HC2.out.take _)).mono ?_; rintro e w6 ⟨rfl, hb⟩; replace HC2 := Lib.hid (HC2.out.below hb); replace HS := Lib.hid (HS.out.below hb); replace HC8 := Lib.hid (HC8.out.below hb); replace HC12 := Lib.hid (HC12.out.below hb); replace HB := Lib.hid (HB.out.trans (hb.mono HB.out.size)); clear hb; clear HC12))
    clear hcap hcap2 hl1 hl2 h60 h61 hbl hmx hk0 hk1 hc2l HLL HL HBL HM HN HP
    try clear hk2 hk3
    try clear hk4
    have hlz1 : -1000 ≤ (lo : Int) - 1000 := lo_1
    have hlz2 : (lo : Int) - 1000 < 1000 := lo_2 hlo
    have hq1 : mo - 10 < 60 := mo_1 hmo
    go_wp2
    generalize (lo : Int) - 1000 = lz at HC8 hlz1 hlz2 ⊢
    generalize mo - 10 = q at HC8 HUL hq1 ⊢
    go_loopw [15] (fun i wr => ∃ k : Nat, k ≤ q ∧ i = .int .i64 k ∧ Below w6.heap.size w6 wr) (fun i _ => q - (intOf i).toNat)
    case atStart => exact ⟨0, Nat.zero_le _, rfl, Below.refl _ _⟩
    case round =>
      obtain ⟨k, hk, rfl, hB⟩ := hrel
      have HBl := Lib.hid hB
      clear hB
      by_cases hlt : k < q
      · rcases HC8.out with e | ⟨b1, o1, rfl, hb1, hc1⟩
        · exact (upto_none hlt e).elim
        have e1 : wr.cell? ⟨b1, o1 + k, none⟩ = some (.int .i64 (lz + (k : Int))) := (HBl.out.cell (p := ⟨b1, o1 + k, none⟩) hb1).trans ((hc1 k (by rw [upto_len]; exact hlt)).trans (by rw [upto_at]))
        clear hc1
        have hlti := k_lt hlt
        go_wp2
        go_roundw
        case rel => exact ⟨k + 1, hlt, by simp, HBl.out⟩
        case measure => exact k_meas hlt
      · obtain rfl : k = q := k_end hk hlt
        go_wp2_with fail
        replace HB := Lib.hid (HB.out.trans (HBl.out.mono HB.out.size))
        refine (join_calls wr none 0 0 [] rfl (by simp) (.inl rfl) (fun _ => rfl) (fun e he => by cases he)).mono ?_
        rintro e w7 ⟨f7, R7, rfl, hs, hb⟩
        replace HB := Lib.hid (HB.out.trans (hb.mono HB.out.size))
        have HS7 := Lib.hid hs
        clear hs hb
        go_wp2_with fail
        refine (list_calls f7 (flat []) R7 _ _ (by simp [flat]) HS7.out.g).mono ?_
        rintro e w8 ⟨v, rfl, ho, ht⟩
        obtain ⟨A7, c7, rfl, -, -⟩ := col_open ho
        have hb := ht.none
        replace HS7 := Lib.hid (HS7.out.below hb)
        replace HB := Lib.hid (HB.out.trans (hb.mono HB.out.size))
        clear hb ho ht
        clear HS7
        go_wp2_with fail
        refine (list_nil _).mono ?_
        rintro e w9 ⟨rfl, rfl⟩
        go_wp2_with fail
        refine (fold_nil ((n : Int) - 10) _).mono ?_
        rintro e w9 ⟨rfl, hb⟩
        replace HB := Lib.hid (HB.out.trans (hb.mono HB.out.size))
        clear hb
        go_wp2_with fail
        refine (awake_calls _).mono ?_
        rintro e w10 ⟨rfl, hb⟩
        replace HB := Lib.hid (HB.out.trans (hb.mono HB.out.size))
        clear hb
        go_wp2_with fail
        go_ret
        exact ⟨rfl, HB.out⟩

theorem takes_law (A : Option Addr) (c : Nat) (xs : List Int) (B : Option Addr) (d : Nat) (ys : List Int) (n lo more : Int) (w : World)
    (hz : Cells w A xs) (hnil : A = none → xs.length = 0 ∧ c = 0) (hcap : xs.length ≤ c) (hlen : xs.length * 8 ≤ 140737488351232)
    (hz2 : Cells w B ys) (hnil2 : B = none → ys.length = 0 ∧ d = 0) (hcap2 : ys.length ≤ d) (hlen2 : ys.length * 8 ≤ 140737488351232) (_ : (Lit.int .i64 n).wf = true) (_ : (Lit.int .i64 lo).wf = true) (_ : (Lit.int .i64 more).wf = true) :
    Calls Try.prog 5 #[.slice A xs.length c, .slice B ys.length d, .int .i64 n, .int .i64 lo, .int .i64 more] w fun e w' => e = .returned (.bool true) ∧ Below w.heap.size w w' :=
  takes_calls A B c d xs ys n lo more w hz hnil hcap hz2 hnil2 hcap2 hlen hlen2
end Go.Proofs.Ytnagjilogadinaa.SeqI
