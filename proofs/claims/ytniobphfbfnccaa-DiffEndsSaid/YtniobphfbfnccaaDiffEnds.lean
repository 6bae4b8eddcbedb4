/- The walk of the law DiffEnds answers true, whatever the lists. -/
import Derived.Test.YtniobphfbfnccaaDiffEndsP
import Derived.Test.YtniobphfbfnccaaDiffTells
import Derived.Laws.AppendOwnNone
import Derived.Test.YtniobphfbfnccaaPRefx2
import Derived.Test.YtniobphfbfnccaaLex
namespace Go.Proofs.Ytniobphfbfnccaa.SeqS
open Go.RowKit Go.Shelf Go.Proofs.Ytniobphfbfnccaa.SeqM Go.Proofs.Ytniobphfbfnccaa.PRef Go.Proofs.YtniobphfbfnccaaW.PrintWords Go.BigFrame
attribute [local go_sem] Oper.semAt_some
attribute [local go_sem high] eqA50
set_option linter.unusedVariables false
set_option linter.unusedSimpArgs false

theorem great20 (A : Option Addr) (c : Nat) (l : List ByteArray) (w : World) (h : CellsT w A l) (hl : l.length ≤ 8796093022207) (hc : l.length ≤ c) : ∃ b, (b = false → l.length ≤ 20) ∧
    ∀ w', Below w.heap.size w w' → Calls Try.prog 8 #[.slice A l.length c, .int .i64 20, .int .i64 20] w' fun e w2 => e = .returned (.bool b) ∧ Below w'.heap.size w' w2 := by
  obtain ⟨b, hA, hb⟩ := DiffCommon.greatTexts l 20 20 (by omega)
  obtain ⟨k, hk⟩ := hA.rounds
  exact ⟨b, fun e => (hb e).1, fun w' hw => (cortegelaw0_GreatTexts.calls k A c l 20 20 b w' ((h.below hw).kd' hl) hc hk).mono fun e w' ⟨he, hd⟩ => ⟨he, Drawn0.below hd⟩⟩
def Great20 (A : Option Addr) (c n : Nat) (b : Bool) (w : World) : Prop := ∀ w', Below w.heap.size w w' → Calls Try.prog 8 #[.slice A n c, .int .i64 20, .int .i64 20] w' fun e w2 => e = .returned (.bool b) ∧ Below w'.heap.size w' w2
/-- A row of texts, a row of texts put behind it. -/
theorem cells_of_own {W : World} {n₀ : Nat} {v : Value} {l : List ByteArray} (h : W.ownsRow n₀ 9 1 v l.length (l.map Value.string)) : ∃ A c, v = .slice A l.length c ∧ l.length ≤ c ∧ CellsT W A l := by
  rcases h.2 with ⟨rfl, h0⟩ | ⟨g, cap, cur, rfl, hg, hh, hc1, hc2, hcs, htk⟩
  · have : l = [] := List.eq_nil_of_length_eq_zero h0
    subst this
    exact ⟨none, 0, rfl, Nat.le_refl _, .inl rfl⟩
  · refine ⟨_, cap, rfl, by omega, .inr ⟨g, 0, rfl, (Array.getElem?_eq_some_iff.1 hh).1, fun j hj => ?_⟩⟩
    have h1 : (cur.toList.take (l.length * 1))[j]? = some (.string l[j]) := by rw [htk]; simp [hj]
    rw [List.getElem?_take] at h1
    split at h1
    · simp [World.cell?, hh]; simpa using h1
    · cases h1
theorem ck_of_own {W : World} {n₀ : Nat} {v : Value} {l : List ByteArray} (h : W.ownsRow n₀ 9 1 v l.length (l.map Value.string)) : ∃ A c, v = .slice A l.length c ∧ CK Kd.string W A c l := by
  have hr : Kd.R Kd.string 9 W n₀ (fun _ => True) v l := Kd.R_of_own (enc := Value.string) (h1 := fun _ => rfl) h (fun _ _ => trivial)
  exact ck_of_R hr
/-- A row of pairs, cell by cell. -/
def PairsAt (W : World) (A : Option Addr) (P : List S50) : Prop := P = [] ∨ ∃ g, A = some ⟨g, 0, none⟩ ∧ g < W.heap.size ∧ ∀ j (hj : j < P.length), W.cell? ⟨g, j * 2, none⟩ = some (.int .i64 P[j].f0) ∧ W.cell? ⟨g, j * 2 + 1, none⟩ = some (.int .i64 P[j].f1)
theorem PairsAt.below {W W' : World} {A : Option Addr} {P : List S50} (h : PairsAt W A P) (hb : Below W.heap.size W W') : PairsAt W' A P := by
  rcases h with rfl | ⟨g, rfl, h1, h2⟩
  · exact .inl rfl
  · exact .inr ⟨g, rfl, Nat.lt_of_lt_of_le h1 hb.size, fun j hj => ⟨(hb.cell (p := ⟨g, j * 2, none⟩) h1).trans (h2 j hj).1, (hb.cell (p := ⟨g, j * 2 + 1, none⟩) h1).trans (h2 j hj).2⟩⟩
theorem pairsAt_of_R {e : Nat} {W : World} {base : Nat} {ok : Nat → Prop} {v : Value} {P : List S50} (h : Kd.R k50 e W base ok v P) : ∃ A c, v = .slice A P.length c ∧ PairsAt W A P ∧ CK k50 W A c P := by
  obtain ⟨A, c, rfl, hC⟩ := ck_of_R h
  obtain ⟨inner, ho⟩ := Kd.R_own h
  refine ⟨A, c, rfl, ?_, hC⟩
  rcases Nat.eq_zero_or_pos P.length with h0 | hp
  · exact .inl (List.eq_nil_of_length_eq_zero h0)
  · rcases ho.2 with ⟨e, h0⟩ | ⟨g, cap, cur, e, hg, hh, _⟩
    · omega
    · obtain ⟨rfl, _⟩ := Value.slice.inj e
      refine .inr ⟨g, rfl, (Array.getElem?_eq_some_iff.1 hh).1, fun j hj => ?_⟩
      obtain ⟨ad, e2, c0, c1⟩ := at_T50 hC.1 (j : Int) (by omega) (by omega)
      cases e2
      have er : rd_T50 P (j : Int) = P[j] := by unfold rd_T50; simp [hj]
      rw [er, Int.toNat_natCast] at c0 c1
      rw [Addr.add_lit] at c0 c1
      rw [Nat.zero_add] at c0
      exact ⟨c0, by simpa using c1⟩
theorem append_strs {w : World} {ops : Array Oper} {rest : List Oper} {o : Oper} {a : Act} {Q : Exit → Act → World → Prop} (hgd : o.guard = none) (s x : Operand)
    (ho : o.op = .call { callee := .builtin .append, args := #[s, x], argTypes := #[22, 22] })
    (base : Nat) (v : Value) (xs ys : List ByteArray) (A : Option Addr) (m c : Nat) (hm : m = ys.length) (hs : a.eval s = v) (hx : a.eval x = .slice A m c) (hown : w.ownsRow base 9 1 v xs.length (xs.map Value.string)) (hC : CellsT w A ys) (hnil : A = none → ys.length = 0 ∧ c = 0)
    (hl : xs.length + ys.length ≤ 1000000) (hbase : base ≤ w.heap.size)
    (h : ∀ v1 w1, w1.ownsRow base 9 1 v1 (xs ++ ys).length ((xs ++ ys).map Value.string) → Below base w w1 → wpList Try.prog ops Q rest (a.put o.dst v1) w1) :
    wpList Try.prog ops Q (o :: rest) a w := by
  subst hm
  obtain ⟨i0, hi, hz0, hz1, hz2⟩ := info_parts info9
  cases A with
  | none =>
    obtain ⟨h0, rfl⟩ := hnil rfl
    obtain rfl : ys = [] := List.eq_nil_of_length_eq_zero h0
    exact wpList_append_own_none hgd s x 22 ho base 9 i0 1 Try.underlying22 hi v _ _ hs hown hx (h _ _ (by simpa using hown) (Below.refl _ _))
  | some ad =>
    refine wpList_append_own _ hgd s x 22 ho base 9 i0 (.string ⟨#[]⟩) 1 16 Try.underlying22 hi hz0 hz1 hz2 rfl (by decide) v _ _ hs hown ad ys.length c (ys.map Value.string) hx (by simp) (fun j u hu => ?_) (fun u hu => ?_) (by unfold maxLen; omega) (by omega) hbase ?_
    · rw [List.getElem?_map] at hu
      obtain ⟨y, hy, rfl⟩ := Option.map_eq_some_iff.1 hu
      obtain ⟨hj, rfl⟩ := List.getElem?_eq_some_iff.1 hy
      rcases hC with rfl | ⟨b, off, e, hb, hc⟩
      · simp at hj
      · cases e
        rw [Addr.add_lit]
        exact hc j hj
    · obtain ⟨y, _, rfl⟩ := List.mem_map.1 hu
      rfl
    · intro v' w1 hown' hgrow _
      exact h v' w1 (by simpa using hown') ((Below.refl _ _).grown hgrow hbase (fun k e => (hown.lt k e).1))
/-- Region 11, in numbers. -/
def NT_ : List Lex.En := [(some 70, [12], []), (some 71, [2], []), (some 72, [71], [1]), (some 73, [70, 72], [0, 2]), (some 74, [73], [3]), (some 75, [11, 74], [4]), (some 76, [12, 74], [4]), (some 77, [75, 76, 74], [5, 6, 4]), (some 78, [77, 74], [7, 4]), (some 79, [12, 74], [4]), (some 80, [12, 74], [4]), (some 81, [79, 80, 74], [9, 10, 4]), (some 82, [78, 81, 74], [8, 11, 4]), (some 83, [74, 82], [4, 12]), (some 84, [83], [13, 4]), (some 85, [11, 84], [14]), (some 86, [12, 84], [14]), (some 87, [85, 86, 84], [15, 16, 14]), (some 88, [87, 84], [17, 14]), (some 89, [88, 84], [18, 14]), (some 90, [89, 84], [19, 14]), (some 91, [84, 90], [14, 20]), (some 92, [91], [21, 14]), (some 93, [11, 92], [22]), (some 94, [12, 92], [22]), (some 95, [93, 94, 92], [23, 24, 22]), (some 96, [95, 92], [25, 22]), (some 97, [96, 92], [26, 22]), (some 98, [9, 92], [22]), (some 99, [98, 92], [28, 22]), (some 100, [97, 99, 92], [27, 29, 22]), (some 101, [92, 100], [22, 30]), (some 102, [101], [31, 22]), (some 103, [11, 102], [32]), (some 104, [12, 102], [32]), (some 105, [103, 104, 102], [33, 34, 32]), (some 106, [105, 102], [35, 32]), (some 107, [106, 102], [36, 32]), (some 108, [107, 102], [37, 32]), (some 109, [102, 108], [32, 38]), (some 110, [109], [39, 32]), (some 111, [11, 110], [40]), (some 112, [12, 110], [40]), (some 113, [111, 112, 110], [41, 42, 40]), (some 114, [113, 110], [43, 40]), (some 115, [114, 110], [44, 40]), (some 116, [10, 110], [40]), (some 117, [116, 110], [46, 40]), (some 118, [115, 117, 110], [45, 47, 40]), (some 119, [110, 118], [40, 48]), (some 120, [119], [49, 40]), (some 121, [9, 120], [50]), (some 122, [11, 120], [50]), (some 123, [12, 120], [50]), (some 124, [122, 123, 120], [52, 53, 50]), (some 125, [124, 120], [54, 50]), (some 126, [125, 120], [55, 50]), (some 127, [121, 126, 120], [51, 56, 50]), (some 128, [127, 120], [57, 50]), (some 129, [10, 120], [50]), (some 130, [11, 120], [50]), (some 131, [12, 120], [50]), (some 132, [130, 131, 120], [60, 61, 50]), (some 133, [132, 120], [62, 50]), (some 134, [133, 120], [63, 50]), (some 135, [129, 134, 120], [59, 64, 50]), (some 136, [135, 120], [65, 50]), (some 137, [128, 136, 120], [58, 66, 50]), (some 138, [120, 137], [50, 67]), (some 139, [138], [68, 50]), (some 140, [12, 139], [69]), (some 141, [140, 139], [70, 69]), (some 142, [141, 139], [71, 69, 69]), (some 143, [11, 142], [72]), (some 144, [12, 142], [72]), (some 145, [144, 142], [74, 72]), (some 146, [143, 145, 142], [73, 75, 72]), (some 147, [146, 142], [76, 72]), (some 148, [147, 142], [77, 72]), (some 149, [11, 142], [72]), (some 150, [12, 142], [72]), (some 151, [149, 150, 142], [79, 80, 72]), (some 152, [151, 142], [81, 72]), (some 153, [152, 142], [82, 72]), (some 154, [148, 153, 142], [78, 83, 72]), (some 155, [154, 142], [84, 72, 72]), (some 156, [11, 155], [85]), (some 157, [12, 155], [85]), (some 158, [157, 155], [87, 85]), (some 159, [156, 158, 155], [86, 88, 85]), (some 160, [159, 155], [89, 85]), (some 161, [160, 155], [90, 85]), (some 162, [11, 155], [85]), (some 163, [12, 155], [85]), (some 164, [162, 163, 155], [92, 93, 85]), (some 165, [164, 155], [94, 85]), (some 166, [165, 155], [95, 85]), (some 167, [161, 166, 155], [91, 96, 85]), (some 168, [155, 167, 142], [85, 97, 72]), (some 169, [142, 168, 139], [72, 98, 69]), (some 170, [139, 169], [69, 99])]
def EndsPost (w : World) (e : Ending) (w' : World) : Prop := e = .returned (.bool true) ∧ Below w.heap.size w w'
set_option maxHeartbeats 8000000 in
set_option maxRecDepth 100000 in
theorem ends_long (A B H T : Option Addr) (c d f g : Nat) (na nb nh nt : Nat) (w : World) (b1 b2 b3 b4 : Bool) (h1 : Great20 A c na b1 w) (h2 : Great20 B d nb b2 w) (h3 : Great20 H f nh b3 w) (h4 : Great20 T g nt b4 w) (h : b1 = true ∨ b2 = true ∨ b3 = true ∨ b4 = true) :
    Calls Try.prog 7 #[.slice A na c, .slice B nb d, .slice H nh f, .slice T nt g] w (EndsPost w) := by
  have H1 := Lib.hid h1
  have H2 := Lib.hid h2
  have H3 := Lib.hid h3
  have H4 := Lib.hid h4
  clear h1 h2 h3 h4
  cases b1 with
  | true =>
    clear h
    go_enter Try.func7, Try.ntmps7
    go_wp2_with fail
    refine (H1.out _ (Below.refl _ _)).mono ?_
    rintro e w1 ⟨rfl, hb⟩
    have HB := Lib.hid hb
    clear hb
    go_wp2_with (go_at_call 9; refine (awake_calls _).mono ?_; rintro e w7 ⟨rfl, hB7⟩; have HB7 := Lib.hid hB7; clear hB7)
    go_ret
    exact ⟨rfl, HB.out.trans (HB7.out.mono HB.out.size)⟩
  | false =>
    cases b2 with
    | true =>
      clear h
      go_enter Try.func7, Try.ntmps7
      go_wp2_with fail
      refine (H1.out _ (Below.refl _ _)).mono ?_
      rintro e w1 ⟨rfl, hb⟩
      have HB := Lib.hid hb
      clear hb
      go_wp2_with fail
      refine (H2.out _ HB.out).mono ?_
      rintro e w2 ⟨rfl, hb⟩
      replace HB := Lib.hid (HB.out.trans (hb.mono HB.out.size))
      clear hb
      go_wp2_with (go_at_call 9; refine (awake_calls _).mono ?_; rintro e w7 ⟨rfl, hB7⟩; have HB7 := Lib.hid hB7; clear hB7)
      go_ret
      exact ⟨rfl, HB.out.trans (HB7.out.mono HB.out.size)⟩
    | false =>
      cases b3 with
      | true =>
        clear h
        go_enter Try.func7, Try.ntmps7
        go_wp2_with fail
        refine (H1.out _ (Below.refl _ _)).mono ?_
        rintro e w1 ⟨rfl, hb⟩
        have HB := Lib.hid hb
        clear hb
        go_wp2_with fail
        refine (H2.out _ HB.out).mono ?_
        rintro e w2 ⟨rfl, hb⟩
        replace HB := Lib.hid (HB.out.trans (hb.mono HB.out.size))
        clear hb
        go_wp2_with fail
        refine (H3.out _ HB.out).mono ?_
        rintro e w3 ⟨rfl, hb⟩
        replace HB := Lib.hid (HB.out.trans (hb.mono HB.out.size))
        clear hb
        go_wp2_with (go_at_call 9; refine (awake_calls _).mono ?_; rintro e w7 ⟨rfl, hB7⟩; have HB7 := Lib.hid hB7; clear hB7)
        go_ret
        exact ⟨rfl, HB.out.trans (HB7.out.mono HB.out.size)⟩
      | false =>
        cases b4 with
        | true =>
          clear h
          go_enter Try.func7, Try.ntmps7
          go_wp2_with fail
          refine (H1.out _ (Below.refl _ _)).mono ?_
          rintro e w1 ⟨rfl, hb⟩
          have HB := Lib.hid hb
          clear hb
          go_wp2_with fail
          refine (H2.out _ HB.out).mono ?_
          rintro e w2 ⟨rfl, hb⟩
          replace HB := Lib.hid (HB.out.trans (hb.mono HB.out.size))
          clear hb
          go_wp2_with fail
          refine (H3.out _ HB.out).mono ?_
          rintro e w3 ⟨rfl, hb⟩
          replace HB := Lib.hid (HB.out.trans (hb.mono HB.out.size))
          clear hb
          go_wp2_with fail
          refine (H4.out _ HB.out).mono ?_
          rintro e w4 ⟨rfl, hb⟩
          replace HB := Lib.hid (HB.out.trans (hb.mono HB.out.size))
          clear hb
          go_wp2_with (go_at_call 9; refine (awake_calls _).mono ?_; rintro e w7 ⟨rfl, hB7⟩; have HB7 := Lib.hid hB7; clear hB7)
          go_ret
          exact ⟨rfl, HB.out.trans (HB7.out.mono HB.out.size)⟩
        | false =>
          rcases h with h | h | h | h <;> cases h
set_option maxHeartbeats 16000000 in
set_option maxRecDepth 100000 in
theorem ends_short (A B H T : Option Addr) (c d f g : Nat) (xs ys hd tl : List ByteArray) (w : World) (hA : CellsT w A xs) (hB : CellsT w B ys) (hH : CellsT w H hd) (hT : CellsT w T tl) (nA : A = none → xs.length = 0 ∧ c = 0) (nB : B = none → ys.length = 0 ∧ d = 0) (nH : H = none → hd.length = 0 ∧ f = 0) (nT : T = none → tl.length = 0 ∧ g = 0)
    (hc : xs.length ≤ c) (hdd : ys.length ≤ d) (h1 : Great20 A c xs.length false w) (h2 : Great20 B d ys.length false w) (h3 : Great20 H f hd.length false w) (h4 : Great20 T g tl.length false w) (l1 : xs.length ≤ 20) (l2 : ys.length ≤ 20) (l3 : hd.length ≤ 20) (l4 : tl.length ≤ 20) :
    Calls Try.prog 7 #[.slice A xs.length c, .slice B ys.length d, .slice H hd.length f, .slice T tl.length g] w (EndsPost w) := by
  have H1 := Lib.hid h1
  have H2 := Lib.hid h2
  have H3 := Lib.hid h3
  have H4 := Lib.hid h4
  have HA := Lib.hid hA
  have HBy := Lib.hid hB
  have HH := Lib.hid hH
  have HTl := Lib.hid hT
  obtain ⟨X, hX⟩ : ∃ X, X = hd ++ xs ++ tl := ⟨_, rfl⟩
  obtain ⟨Y, hY⟩ : ∃ Y, Y = hd ++ ys ++ tl := ⟨_, rfl⟩
  obtain ⟨P, m, k1, k2, k3, f1, f2, f3, hn, hn60, hX60, hY60, hat⟩ := Ends.facts2 xs ys hd tl X Y hX hY l1 l2 l3 l4
  have HX := Lib.hid hX
  have HY := Lib.hid hY
  have F1 := Lib.hid f1
  have F2 := Lib.hid f2
  have F3 := Lib.hid f3
  have HAt := Lib.hid hat
  have Hn := Lib.hid hn
  clear h1 h2 h3 h4 hA hB hH hT hX hY f1 f2 f3 hat hn
  go_enter Try.func7, Try.ntmps7
  go_wp2_with fail
  refine (H1.out _ (Below.refl _ _)).mono ?_
  rintro e w1 ⟨rfl, hb⟩
  have HB := Lib.hid hb
  clear hb
  go_wp2_with fail
  refine (H2.out _ HB.out).mono ?_
  rintro e w2 ⟨rfl, hb⟩
  replace HB := Lib.hid (HB.out.trans (hb.mono HB.out.size))
  clear hb
  go_wp2_with fail
  refine (H3.out _ HB.out).mono ?_
  rintro e w3 ⟨rfl, hb⟩
  replace HB := Lib.hid (HB.out.trans (hb.mono HB.out.size))
  clear hb
  go_wp2_with fail
  refine (H4.out _ HB.out).mono ?_
  rintro e w4 ⟨rfl, hb⟩
  replace HB := Lib.hid (HB.out.trans (hb.mono HB.out.size))
  clear hb
  replace HA := Lib.hid (HA.out.below HB.out)
  replace HBy := Lib.hid (HBy.out.below HB.out)
  replace HH := Lib.hid (HH.out.below HB.out)
  replace HTl := Lib.hid (HTl.out.below HB.out)
  clear H1 H2 H3 H4
  have HBw := HB
  have hw4 : w.heap.size ≤ w4.heap.size := HB.out.size
  clear HB
  have hle1 : ([] : List ByteArray).length + hd.length ≤ 1000000 := by simp; omega
  have hle2 : ([] ++ hd).length + xs.length ≤ 1000000 := by simp; omega
  have hle3 : (([] ++ hd) ++ xs).length + tl.length ≤ 1000000 := by simp; omega
  have hle4 : ([] ++ hd).length + ys.length ≤ 1000000 := by simp; omega
  have hle5 : (([] ++ hd) ++ ys).length + tl.length ≤ 1000000 := by simp; omega
  go_wp2_with (first
    | (at_builtin; refine append_strs rfl _ _ rfl w4.heap.size (.slice none 0 0) [] hd H _ f rfl rfl rfl (World.ownsRow_nil _ _ _ _) HH.out nH hle1 (Nat.le_refl _) ?_; intro v5 w5 ho5 hb5; have HO5 := Lib.hid ho5; have HB5 := Lib.hid hb5; clear ho5 hb5 hle1)
    | (at_builtin; refine append_strs rfl _ _ rfl w4.heap.size v5 _ xs A _ c rfl rfl rfl HO5.out (HA.out.below HB5.out) nA hle2 (Below.size HB5.out) ?_; intro v6 w6 ho6 hb6; have HO6 := Lib.hid ho6; have HB6 := Lib.hid (HB5.out.trans hb6); clear ho6 hb6 HO5 HB5 hle2)
    | (at_builtin; refine append_strs rfl _ _ rfl w4.heap.size v6 _ tl T _ g rfl rfl rfl HO6.out (HTl.out.below HB6.out) nT hle3 (Below.size HB6.out) ?_; intro v7 w7 ho7 hb7; have HO7 := Lib.hid ho7; have HB7 := Lib.hid (HB6.out.trans hb7); clear ho7 hb7 HO6 HB6 hle3)
    | (at_builtin; refine append_strs rfl _ _ rfl w7.heap.size (.slice none 0 0) [] hd H _ f rfl rfl rfl (World.ownsRow_nil _ _ _ _) (HH.out.below HB7.out) nH (by simp; omega) (Nat.le_refl _) ?_; intro v8 w8 ho8 hb8; have HO8 := Lib.hid ho8; have HB8 := Lib.hid hb8; clear ho8 hb8)
    | (at_builtin; refine append_strs rfl _ _ rfl w7.heap.size v8 _ ys B _ d rfl rfl rfl HO8.out ((HBy.out.below HB7.out).below HB8.out) nB hle4 (Below.size HB8.out) ?_; intro v9 w9 ho9 hb9; have HO9 := Lib.hid ho9; have HB9 := Lib.hid (HB8.out.trans hb9); clear ho9 hb9 HO8 HB8 hle4)
    | (at_builtin; refine append_strs rfl _ _ rfl w7.heap.size v9 _ tl T _ g rfl rfl rfl HO9.out ((HTl.out.below HB7.out).below HB9.out) nT hle5 (Below.size HB9.out) ?_; intro v10 w10 ho10 hb10; have HO10 := Lib.hid ho10; have HB10 := Lib.hid (HB9.out.trans hb10); clear ho10 hb10 HO9 HB9 hle5))
  have ho7 := HO7.out
  have ho10 := HO10.out
  rw [show (([] ++ hd) ++ xs) ++ tl = X by rw [HX.out]; simp] at ho7
  rw [show (([] ++ hd) ++ ys) ++ tl = Y by rw [HY.out]; simp] at ho10
  obtain ⟨A7, c7, rfl, hX7, hC7⟩ := cells_of_own ho7
  obtain ⟨A10, c10, rfl, hY10, hC10⟩ := cells_of_own ho10
  have HTX := Lib.hid (hC7.below HB10.out)
  have HTY := Lib.hid hC10
  have HCX := Lib.hid (CK.mk' HTX.out (by omega) hX7)
  have HCY := Lib.hid (CK.mk' HTY.out (by omega) hY10)
  have HCA := Lib.hid (CK.mk' ((HA.out.below HB7.out).below HB10.out) (by omega) hc)
  have HCB := Lib.hid (CK.mk' ((HBy.out.below HB7.out).below HB10.out) (by omega) hdd)
  have HB := Lib.hid (HBw.out.trans (Below.mono (HB7.out.trans (HB10.out.mono (Below.size HB7.out))) hw4))
  clear ho7 ho10 hC7 hC10 HO7 HO10 HA HBy HH HTl HBw HB7 HB10 HX HY
  refine (diff_Pairs_string.calls k3 A7 c7 X A10 c10 Y P _ HCX.out.1 HCX.out.2 HCY.out.1 HCY.out.2 F3.out).mono ?_
  rintro e w11 ⟨v, rfl, hr, hb⟩
  obtain ⟨A11, c11, rfl, hP, hC⟩ := pairsAt_of_R hr
  clear hr hC
  replace HCX := Lib.hid (HCX.out.below hb)
  replace HCY := Lib.hid (HCY.out.below hb)
  replace HCA := Lib.hid (HCA.out.below hb)
  replace HCB := Lib.hid (HCB.out.below hb)
  replace HTX := Lib.hid (HTX.out.below hb)
  replace HTY := Lib.hid (HTY.out.below hb)
  replace HB := Lib.hid (HB.out.trans (hb.mono HB.out.size))
  have HP := Lib.hid hP
  clear hb hP
  go_wp2_with fail
  refine (diff_Length_string.calls k1 A7 c7 X A10 c10 Y (P.length : Int) _ HCX.out.1 HCX.out.2 HCY.out.1 HCY.out.2 F1.out).mono ?_
  rintro e w12 ⟨rfl, hb⟩
  replace HCX := Lib.hid (HCX.out.below hb)
  replace HCY := Lib.hid (HCY.out.below hb)
  replace HCA := Lib.hid (HCA.out.below hb)
  replace HCB := Lib.hid (HCB.out.below hb)
  replace HTX := Lib.hid (HTX.out.below hb)
  replace HTY := Lib.hid (HTY.out.below hb)
  replace HP := Lib.hid (HP.out.below hb)
  replace HB := Lib.hid (HB.out.trans (hb.mono HB.out.size))
  clear hb
  go_wp2_with fail
  refine (diff_Length_string.calls k2 A c xs B d ys (m : Int) _ HCA.out.1 HCA.out.2 HCB.out.1 HCB.out.2 F2.out).mono ?_
  rintro e w13 ⟨rfl, hb⟩
  replace HCX := Lib.hid (HCX.out.below hb)
  replace HCY := Lib.hid (HCY.out.below hb)
  replace HTX := Lib.hid (HTX.out.below hb)
  replace HTY := Lib.hid (HTY.out.below hb)
  replace HP := Lib.hid (HP.out.below hb)
  replace HB := Lib.hid (HB.out.trans (hb.mono HB.out.size))
  clear hb HCA HCB
  have hq : (P.length : Int) = (hd.length : Int) + (m : Int) + (tl.length : Int) := by have := Hn.out; omega
  have hmm : (m : Int) ≤ 60 := by have := Hn.out; omega
  go_wp2_with fail
  refine (diff_Length_string.calls k1 A7 c7 X A10 c10 Y (P.length : Int) _ HCX.out.1 HCX.out.2 HCY.out.1 HCY.out.2 F1.out).mono ?_
  rintro e w14 ⟨rfl, hb⟩
  replace HTX := Lib.hid (HTX.out.below hb)
  replace HTY := Lib.hid (HTY.out.below hb)
  replace HP := Lib.hid (HP.out.below hb)
  replace HB := Lib.hid (HB.out.trans (hb.mono HB.out.size))
  clear hb HCX HCY
  go_wp2_with fail
  go_loopw [12] (fun i wr => ∃ k : Nat, k ≤ P.length ∧ i = .int .i64 k ∧ From w14 wr) (fun i _ => P.length - (intOf i).toNat)
  case atStart => exact ⟨0, Nat.zero_le _, rfl, Below.refl _ _⟩
  case round =>
    obtain ⟨k, hk, rfl, hFr⟩ := hrel
    have HFr := Lib.hid hFr
    clear hFr
    by_cases hlt : k < P.length
    · obtain ⟨u, v, huv, ⟨hu, hv, hxy⟩, hhead, hprev⟩ := HAt.out k hlt
      obtain ⟨gp, rfl, _, hpc⟩ : ∃ g, A11 = some ⟨g, 0, none⟩ ∧ g < wr.heap.size ∧ ∀ j (hj : j < P.length), wr.cell? ⟨g, j * 2, none⟩ = some (.int .i64 P[j].f0) ∧ wr.cell? ⟨g, j * 2 + 1, none⟩ = some (.int .i64 P[j].f1) := by
        rcases HP.out.below HFr.out with h | h
        · subst h; simp at hlt
        · exact h
      obtain ⟨gx, ox, rfl, _, hxc⟩ : ∃ b off, A7 = some ⟨b, off, none⟩ ∧ b < wr.heap.size ∧ ∀ j (h : j < X.length), wr.cell? ⟨b, off + j, none⟩ = some (.string X[j]) := by
        rcases HTX.out.below HFr.out with h | h
        · subst h; simp at hu
        · exact h
      obtain ⟨gy, oy, rfl, _, hyc⟩ : ∃ b off, A10 = some ⟨b, off, none⟩ ∧ b < wr.heap.size ∧ ∀ j (h : j < Y.length), wr.cell? ⟨b, off + j, none⟩ = some (.string Y[j]) := by
        rcases HTY.out.below HFr.out with h | h
        · subst h; simp at hv
        · exact h
      obtain ⟨p0, p1⟩ := hpc k hlt
      rw [huv] at p0 p1
      have cx := hxc u hu
      have cy := hyc v hv
      rw [← hxy] at cy
      generalize X[u] = s at cx cy
      clear hxc hyc hxy huv
      have hu0 : (0 : Int) ≤ (u : Int) := by omega
      have hv0 : (0 : Int) ≤ (v : Int) := by omega
      have hu1 : (u : Int) < (X.length : Int) := by omega
      have hv1 : (v : Int) < (Y.length : Int) := by omega
      rcases Nat.eq_zero_or_pos k with h0 | h0
      · have hk0 : decide ((0 : Int) < (k : Int)) = false := by simp [h0]
        have hk0n : decide (0 < k) = false := by simp [h0]
        clear hpc hprev h0
        by_cases hh : k < hd.length
        · obtain ⟨rfl, rfl⟩ := hhead hh
          clear hhead
          have d0 : decide ((v : Int) < (hd.length : Int)) = true := by first | (simp; done) | (simp; omega)
          have d0n : decide (v < hd.length) = true := by first | (simp; done) | (simp; omega)
          have d1 : decide (((v : Int)) < (0 : Int)) = false := by first | (simp; done) | (simp; omega)
          have d2 : decide ((X.length : Int) ≤ (v : Int)) = false := by first | (simp; done) | (simp; omega)
          have d2n : decide (X.length ≤ v) = false := by first | (simp; done) | (simp; omega)
          have d3 : decide (((v : Int)) < (0 : Int)) = false := by first | (simp; done) | (simp; omega)
          have d4 : decide ((Y.length : Int) ≤ (v : Int)) = false := by first | (simp; done) | (simp; omega)
          have d4n : decide (Y.length ≤ v) = false := by first | (simp; done) | (simp; omega)
          go_wp2_with fail
          refine wp_region_quiet_lit (by kernel_rfl) (Lex.lexB_of NT_ (by kernel_rfl) (by kernel_rfl) (by kernel_rfl)) ?_
          repeat (go_big_quiet_step (fail))
          refine wpQuiet_nil ?_
          intro _ hw'
          obtain ⟨nq, hw''⟩ := hw'
          subst hw''
          go_wp2
          go_roundw
          case rel => exact ⟨v + 1, by omega, by go_num, Below.trans HFr.out ⟨rfl, rfl, rfl, Nat.le_refl _, fun _ _ => rfl⟩⟩
          case measure => simp [intOf]; omega
        · clear hhead
          have d0 : decide ((k : Int) < (hd.length : Int)) = false := by first | (simp; done) | (simp; omega)
          have d0n : decide (k < hd.length) = false := by first | (simp; done) | (simp; omega)
          have d1 : decide (((u : Int)) < (0 : Int)) = false := by first | (simp; done) | (simp; omega)
          have d2 : decide ((X.length : Int) ≤ (u : Int)) = false := by first | (simp; done) | (simp; omega)
          have d2n : decide (X.length ≤ u) = false := by first | (simp; done) | (simp; omega)
          have d3 : decide (((v : Int)) < (0 : Int)) = false := by first | (simp; done) | (simp; omega)
          have d4 : decide ((Y.length : Int) ≤ (v : Int)) = false := by first | (simp; done) | (simp; omega)
          have d4n : decide (Y.length ≤ v) = false := by first | (simp; done) | (simp; omega)
          go_wp2_with fail
          refine wp_region_quiet_lit (by kernel_rfl) (Lex.lexB_of NT_ (by kernel_rfl) (by kernel_rfl) (by kernel_rfl)) ?_
          repeat (go_big_quiet_step (fail))
          refine wpQuiet_nil ?_
          intro _ hw'
          obtain ⟨nq, hw''⟩ := hw'
          subst hw''
          go_wp2
          go_roundw
          case rel => exact ⟨k + 1, by omega, by go_num, Below.trans HFr.out ⟨rfl, rfl, rfl, Nat.le_refl _, fun _ _ => rfl⟩⟩
          case measure => simp [intOf]; omega
      · obtain ⟨k, rfl⟩ : ∃ n, k = n + 1 := ⟨k - 1, by omega⟩
        have hk0 : decide ((0 : Int) < (k : Int) + 1) = true := by first | (simp; done) | (simp; omega)
        clear h0
        obtain ⟨u', v', e', hu', hv'⟩ := hprev k (by omega) rfl
        obtain ⟨q0, q1⟩ := hpc k (by omega)
        rw [e'] at q0 q1
        have hu2 : (u' : Int) < (u : Int) := by omega
        have hv2 : (v' : Int) < (v : Int) := by omega
        clear hpc hprev e' hu' hv'
        by_cases hh : k + 1 < hd.length
        · obtain ⟨rfl, rfl⟩ := hhead hh
          clear hhead
          have d0 : decide ((k : Int) + 1 < (hd.length : Int)) = true := by first | (simp; done) | (simp; omega)
          have d0n : decide (k + 1 < hd.length) = true := by first | (simp; done) | (simp; omega)
          have d1 : decide (((k : Int) + 1) < (0 : Int)) = false := by first | (simp; done) | (simp; omega)
          have d2 : decide ((X.length : Int) ≤ (k : Int) + 1) = false := by first | (simp; done) | (simp; omega)
          have d2n : decide (X.length ≤ k + 1) = false := by first | (simp; done) | (simp; omega)
          have d3 : decide (((k : Int) + 1) < (0 : Int)) = false := by first | (simp; done) | (simp; omega)
          have d4 : decide ((Y.length : Int) ≤ (k : Int) + 1) = false := by first | (simp; done) | (simp; omega)
          have d4n : decide (Y.length ≤ k + 1) = false := by first | (simp; done) | (simp; omega)
          have d5 : decide (((k : Int) + 1) ≤ (u' : Int)) = false := by first | (simp; done) | (simp; omega)
          have d5n : decide (k + 1 ≤ u') = false := by first | (simp; done) | (simp; omega)
          have d6 : decide (((k : Int) + 1) ≤ (v' : Int)) = false := by first | (simp; done) | (simp; omega)
          have d6n : decide (k + 1 ≤ v') = false := by first | (simp; done) | (simp; omega)
          go_wp2_with fail
          refine wp_region_quiet_lit (by kernel_rfl) (Lex.lexB_of NT_ (by kernel_rfl) (by kernel_rfl) (by kernel_rfl)) ?_
          repeat (go_big_quiet_step (fail))
          refine wpQuiet_nil ?_
          intro _ hw'
          obtain ⟨nq, hw''⟩ := hw'
          subst hw''
          go_wp2
          go_roundw
          case rel => exact ⟨k + 1 + 1, by omega, by go_num, Below.trans HFr.out ⟨rfl, rfl, rfl, Nat.le_refl _, fun _ _ => rfl⟩⟩
          case measure => simp [intOf]; omega
        · clear hhead
          have d0 : decide ((k : Int) + 1 < (hd.length : Int)) = false := by first | (simp; done) | (simp; omega)
          have d0n : decide (k + 1 < hd.length) = false := by first | (simp; done) | (simp; omega)
          have d1 : decide (((u : Int)) < (0 : Int)) = false := by first | (simp; done) | (simp; omega)
          have d2 : decide ((X.length : Int) ≤ (u : Int)) = false := by first | (simp; done) | (simp; omega)
          have d2n : decide (X.length ≤ u) = false := by first | (simp; done) | (simp; omega)
          have d3 : decide (((v : Int)) < (0 : Int)) = false := by first | (simp; done) | (simp; omega)
          have d4 : decide ((Y.length : Int) ≤ (v : Int)) = false := by first | (simp; done) | (simp; omega)
          have d4n : decide (Y.length ≤ v) = false := by first | (simp; done) | (simp; omega)
          have d5 : decide (((u : Int)) ≤ (u' : Int)) = false := by first | (simp; done) | (simp; omega)
          have d5n : decide (u ≤ u') = false := by first | (simp; done) | (simp; omega)
          have d6 : decide (((v : Int)) ≤ (v' : Int)) = false := by first | (simp; done) | (simp; omega)
          have d6n : decide (v ≤ v') = false := by first | (simp; done) | (simp; omega)
          go_wp2_with fail
          refine wp_region_quiet_lit (by kernel_rfl) (Lex.lexB_of NT_ (by kernel_rfl) (by kernel_rfl) (by kernel_rfl)) ?_
          repeat (go_big_quiet_step (fail))
          refine wpQuiet_nil ?_
          intro _ hw'
          obtain ⟨nq, hw''⟩ := hw'
          subst hw''
          go_wp2
          go_roundw
          case rel => exact ⟨k + 1 + 1, by omega, by go_num, Below.trans HFr.out ⟨rfl, rfl, rfl, Nat.le_refl _, fun _ _ => rfl⟩⟩
          case measure => simp [intOf]; omega
    · obtain rfl : k = P.length := by omega
      go_wp2_with (go_at_call 9; refine (awake_calls _).mono ?_; rintro e w20 ⟨rfl, hB20⟩; have HB20 := Lib.hid hB20; clear hB20)
      go_ret
      exact ⟨rfl, (HB.out.trans (Below.mono HFr.out HB.out.size)).trans (HB20.out.mono (Nat.le_trans HB.out.size (Below.size HFr.out)))⟩
theorem ends_law (A : Option Addr) (c : Nat) (xs : List ByteArray) (B : Option Addr) (d : Nat) (ys : List ByteArray) (H : Option Addr) (f : Nat) (hd : List ByteArray) (T : Option Addr) (g : Nat) (tl : List ByteArray) (w : World)
    (hA : CellsT w A xs) (nA : A = none → xs.length = 0 ∧ c = 0) (hc : xs.length ≤ c) (bA : xs.length * 16 ≤ 140737488351232) (hB : CellsT w B ys) (nB : B = none → ys.length = 0 ∧ d = 0) (hdd : ys.length ≤ d) (bB : ys.length * 16 ≤ 140737488351232)
    (hH : CellsT w H hd) (nH : H = none → hd.length = 0 ∧ f = 0) (hf : hd.length ≤ f) (bH : hd.length * 16 ≤ 140737488351232) (hT : CellsT w T tl) (nT : T = none → tl.length = 0 ∧ g = 0) (hg : tl.length ≤ g) (bT : tl.length * 16 ≤ 140737488351232) :
    Calls Try.prog 7 #[.slice A xs.length c, .slice B ys.length d, .slice H hd.length f, .slice T tl.length g] w fun e w' => e = .returned (.bool true) ∧ Below w.heap.size w w' := by
  obtain ⟨b1, g1, h1⟩ := great20 A c xs w hA (by omega) hc
  obtain ⟨b2, g2, h2⟩ := great20 B d ys w hB (by omega) hdd
  obtain ⟨b3, g3, h3⟩ := great20 H f hd w hH (by omega) hf
  obtain ⟨b4, g4, h4⟩ := great20 T g tl w hT (by omega) hg
  by_cases h : b1 = true ∨ b2 = true ∨ b3 = true ∨ b4 = true
  · exact ends_long A B H T c d f g _ _ _ _ w b1 b2 b3 b4 h1 h2 h3 h4 h
  · have e1 : b1 = false := by cases b1 with | false => rfl | true => exact absurd (.inl rfl) h
    have e2 : b2 = false := by cases b2 with | false => rfl | true => exact absurd (.inr (.inl rfl)) h
    have e3 : b3 = false := by cases b3 with | false => rfl | true => exact absurd (.inr (.inr (.inl rfl))) h
    have e4 : b4 = false := by cases b4 with | false => rfl | true => exact absurd (.inr (.inr (.inr rfl))) h
    subst e1 e2 e3 e4
    exact ends_short A B H T c d f g xs ys hd tl w hA hB hH hT nA nB nH nT hc hdd h1 h2 h3 h4 (g1 rfl) (g2 rfl) (g3 rfl) (g4 rfl)
end Go.Proofs.Ytniobphfbfnccaa.SeqS
